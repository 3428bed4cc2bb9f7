/- konst. Scopes as they lie in memory. Condition: what each theorem says. -/
import Derived.Test.YtlpombjidhloiaaGreatBai
import Derived.DeepKeys3
namespace Go.Proofs.YtlpombjidhloiaaGreat
open Go.RowKit
set_option maxRecDepth 100000
attribute [local go_sem ↓] Go.wp_at_zero Go.wp_at_succ
def lZ:aL→Int×Bool
 |.whole n=>(n,true)
 |_=>(0,false)
def kl:aL→Int×Bool
 |.letter n=>((n:Int),true)
 |_=>(0,false)
def kh:aL→Bool×Bool
 |.truth b=>(b,true)
 |_=>(false,false)
def lC:aL→Int×Bool
 |.bits n=>((n:Int),true)
 |_=>(0,false)
def jo:aL→List UInt8×Bool
 |.str s=>(s,true)
 |_=>([],false)
def mX:aL→(Int×Int)×Bool
 |.item t n=>((t,n),true)
 |_=>((0,0),false)
def mY:aL→Bool
 |.null=>true
 |_=>false
@[go_sem] theorem ahP:lZ (.none)=(0,false):=rfl
@[go_sem] theorem ahQ(n:Int):lZ (.whole n)=(n,true):=rfl
@[go_sem] theorem ahR(n:Nat):lZ (.letter n)=(0,false):=rfl
@[go_sem] theorem ahS(b:Bool):lZ (.truth b)=(0,false):=rfl
@[go_sem] theorem ahT(n:Nat):lZ (.bits n)=(0,false):=rfl
@[go_sem] theorem ahU(s:List UInt8):lZ (.str s)=(0,false):=rfl
@[go_sem] theorem ahV(t n:Int):lZ (.item t n)=(0,false):=rfl
@[go_sem] theorem ahW:lZ (.null)=(0,false):=rfl
@[go_sem] theorem ahX:kl (.none)=(0,false):=rfl
@[go_sem] theorem ahY(n:Int):kl (.whole n)=(0,false):=rfl
@[go_sem] theorem ahZ(n:Nat):kl (.letter n)=((n:Int),true):=rfl
@[go_sem] theorem ah0(b:Bool):kl (.truth b)=(0,false):=rfl
@[go_sem] theorem ah1(n:Nat):kl (.bits n)=(0,false):=rfl
@[go_sem] theorem ah2(s:List UInt8):kl (.str s)=(0,false):=rfl
@[go_sem] theorem ah3(t n:Int):kl (.item t n)=(0,false):=rfl
@[go_sem] theorem ah4:kl (.null)=(0,false):=rfl
@[go_sem] theorem ah5:kh (.none)=(false,false):=rfl
@[go_sem] theorem ah6(n:Int):kh (.whole n)=(false,false):=rfl
@[go_sem] theorem ah7(n:Nat):kh (.letter n)=(false,false):=rfl
@[go_sem] theorem ah8(b:Bool):kh (.truth b)=(b,true):=rfl
@[go_sem] theorem ah9(n:Nat):kh (.bits n)=(false,false):=rfl
@[go_sem] theorem aia(s:List UInt8):kh (.str s)=(false,false):=rfl
@[go_sem] theorem aib(t n:Int):kh (.item t n)=(false,false):=rfl
@[go_sem] theorem aic:kh (.null)=(false,false):=rfl
@[go_sem] theorem aid:lC (.none)=(0,false):=rfl
@[go_sem] theorem aie(n:Int):lC (.whole n)=(0,false):=rfl
@[go_sem] theorem aif(n:Nat):lC (.letter n)=(0,false):=rfl
@[go_sem] theorem aih(b:Bool):lC (.truth b)=(0,false):=rfl
@[go_sem] theorem aii(n:Nat):lC (.bits n)=((n:Int),true):=rfl
@[go_sem] theorem aij(s:List UInt8):lC (.str s)=(0,false):=rfl
@[go_sem] theorem aik(t n:Int):lC (.item t n)=(0,false):=rfl
@[go_sem] theorem ail:lC (.null)=(0,false):=rfl
@[go_sem] theorem aim:jo (.none)=([],false):=rfl
@[go_sem] theorem ain(n:Int):jo (.whole n)=([],false):=rfl
@[go_sem] theorem aio(n:Nat):jo (.letter n)=([],false):=rfl
@[go_sem] theorem aip(b:Bool):jo (.truth b)=([],false):=rfl
@[go_sem] theorem aiq(n:Nat):jo (.bits n)=([],false):=rfl
@[go_sem] theorem air(s:List UInt8):jo (.str s)=(s,true):=rfl
@[go_sem] theorem ais(t n:Int):jo (.item t n)=([],false):=rfl
@[go_sem] theorem ait:jo (.null)=([],false):=rfl
@[go_sem] theorem aiu:mX (.none)=((0,0),false):=rfl
@[go_sem] theorem aiv(n:Int):mX (.whole n)=((0,0),false):=rfl
@[go_sem] theorem aiw(n:Nat):mX (.letter n)=((0,0),false):=rfl
@[go_sem] theorem aix(b:Bool):mX (.truth b)=((0,0),false):=rfl
@[go_sem] theorem aiy(n:Nat):mX (.bits n)=((0,0),false):=rfl
@[go_sem] theorem aiz(s:List UInt8):mX (.str s)=((0,0),false):=rfl
@[go_sem] theorem aiA(t n:Int):mX (.item t n)=((t,n),true):=rfl
@[go_sem] theorem aiB:mX (.null)=((0,0),false):=rfl
@[go_sem] theorem aiC:mY (.none)=false:=rfl
@[go_sem] theorem aiD(n:Int):mY (.whole n)=false:=rfl
@[go_sem] theorem aiE(n:Nat):mY (.letter n)=false:=rfl
@[go_sem] theorem aiF(b:Bool):mY (.truth b)=false:=rfl
@[go_sem] theorem aiG(n:Nat):mY (.bits n)=false:=rfl
@[go_sem] theorem aiH(s:List UInt8):mY (.str s)=false:=rfl
@[go_sem] theorem aiI(t n:Int):mY (.item t n)=false:=rfl
@[go_sem] theorem aiJ:mY (.null)=true:=rfl
@[go_sem] theorem aiK(v:aL)(w:World):(Instr.typeAssert (aK v) 20 79 true).run Tryz.prog w=.ok (.tuple #[.int .i64 (lZ v).1,.bool (lZ v).2]) w:=by cases v<;>kernel_rfl
@[go_sem] theorem aiL(v:aL)(w:World):(Instr.typeAssert (aK v) 20 95 true).run Tryz.prog w=.ok (.tuple #[.int .u8 (kl v).1,.bool (kl v).2]) w:=by cases v<;>kernel_rfl
@[go_sem] theorem aiM(v:aL)(w:World):(Instr.typeAssert (aK v) 20 97 true).run Tryz.prog w=.ok (.tuple #[.bool (kh v).1,.bool (kh v).2]) w:=by cases v<;>kernel_rfl
@[go_sem] theorem aiN(v:aL)(w:World):(Instr.typeAssert (aK v) 20 100 true).run Tryz.prog w=.ok (.tuple #[.int .u16 (lC v).1,.bool (lC v).2]) w:=by cases v<;>kernel_rfl
@[go_sem] theorem aiO(v:aL)(w:World):(Instr.typeAssert (aK v) 20 102 true).run Tryz.prog w=.ok (.tuple #[.string ⟨(jo v).1.toArray⟩,.bool (jo v).2]) w:=by cases v<;>kernel_rfl
@[go_sem] theorem aiP(v:aL)(w:World):(Instr.typeAssert (aK v) 20 105 true).run Tryz.prog w=.ok (.tuple #[.agg #[.int .i64 (mX v).1.1,.int .i64 (mX v).1.2],.bool (mX v).2]) w:=by cases v<;>kernel_rfl
@[go_sem] theorem aiQ(v:aL)(w:World):(Instr.typeAssert (aK v) 20 108 true).run Tryz.prog w=.ok (.tuple #[.agg #[],.bool (mY v)]) w:=by cases v<;>kernel_rfl
theorem Pn{n:Int}(h1:0≤n)(h2:n≤65535):wrap64 n=n:=by unfold wrap64;omega
def nS(n:Int):Int×Bool:=if -32768≤n∧n≤65535 then(n,true)else(0,false)
theorem Po(n:Int)(w:World):Calls Tryz.prog 133 #[.int .i64 n] w (fun e w'=>e=.returned (.tuple #[.int .i64 (nS n).1,.bool (nS n).2])∧w=w'):=by
 by_cases h1:n< -32768
 ·have HE:=aa (show nS n=(0,false)from if_neg (by omega));go_enter Tryz.func133,Tryz.ntmps133;exact wR
 by_cases h2:65535<n
 ·have HE:=aa (show nS n=(0,false)from if_neg (by omega));go_enter Tryz.func133,Tryz.ntmps133;exact wR
 ·have HE:=aa (show nS n=(n,true)from if_pos (by omega));go_enter Tryz.func133,Tryz.ntmps133;exact wR
theorem GB(n:Int)(w:World):Calls Tryz.prog 137 #[.int .i64 n] w (fun e w'=>e=.returned (.tuple #[aK (eQ n).1,.int .i64 (eQ n).2])∧w=w'):=by
 have HC:=aa (Po n w);go_enter Tryz.func137,Tryz.ntmps137;go_wp2_with fail;refine(HC.out).mono ?_;rintro e w' ⟨rfl,rfl⟩;by_cases h: -32768≤n∧n≤65535
 ·rw[show nS n=(n,true)from if_pos h];have HE:=aa (show eQ n=(.whole n,0)from if_pos h);clear h;exact wR
 ·rw[show nS n=(0,false)from if_neg h];have HE:=aa (show eQ n=(.none,101)from if_neg h);clear h;exact wR
theorem GC:nT (fun b:Bool=>Value.bool b) Tryz.prog 97:=
 Bp _ Tryz.underlying97 (fun _=>trivial) (fun a b=>by cases a<;>cases b<;>rfl) fun a w=>by cases a<;>simp[Instr.keyThatStays,Instr.sameBits]
def Vw:aL→Prop
 |.whole n=> -32768≤n∧n≤65535
 |.letter c=>c<256
 |.bits n=>n<65536
 |.item _ n=> -1000000≤n∧n≤1000000
 |_=>True
def ZH(w:World)(v:aL):Ending→World→Prop:=Pv w (.tuple #[.int .i64 ((aR v).getD 0),.bool (aR v).isSome])
@[go_sem high] theorem aiR(w:World):(Instr.makeMap 221 none).run Tryz.prog w=.ok (.map (some w.heap.size)) (cC (fun b:Bool=>Value.bool b) w []):=lW w _
@[go_sem] theorem aiS(w:World)(v:Value):(Instr.mapUpdate 221 (.map (some w.heap.size)) (.bool true) v).run Tryz.prog (cC (fun b:Bool=>Value.bool b) w [])=.ok () (cC (fun b:Bool=>Value.bool b) w [(true,v)]):=nP Tryz.underlying221 GC w [] true v (by simp)
@[go_sem] theorem aiT(w:World)(b:Bool):(Instr.lookup 221 (.map (some w.heap.size)) (.bool b) false).run Tryz.prog (cC (fun b:Bool=>Value.bool b) w [(true,.int .i64 1)])=.ok (.int .i64 (if b then 1 else 0)) (cC (fun b:Bool=>Value.bool b) w [(true,.int .i64 1)]):=by
 cases b
 ·exact(lY (z:=.int .i64 0) Tryz.underlying221 GC (fun w=>by kernel_rfl) (nR _ w _) false rfl).2
 ·exact(ej Tryz.underlying221 GC (nR _ w _) true rfl).2
theorem ZI(n:Int):(aR (.whole n)).getD 0=(nS n).1∧(aR (.whole n)).isSome=(nS n).2:=by
 have e:aR (.whole n)=if -32768≤n∧n≤65535 then some n else Option.none:=rfl
 rw[e];unfold nS;split<;>exact⟨rfl,rfl⟩
theorem eH(v:aL)(hv:Vw v)(w:World):Calls Tryz.prog 99 #[aK v] w (ZH w v):=by
 cases v with
 |none=>
  exact Bt
 |whole n=>
  have HC:=aa (Po n w);have HE:=aa (ZI n);go_enter Tryz.func99,Tryz.ntmps99;go_wp2_with fail;refine(HC.out).mono ?_;rintro e w' ⟨rfl,rfl⟩;go_wp2_with fail;go_ret2;exact⟨by rw[HE.out.1,HE.out.2];rfl,Below.refl _ _⟩
 |letter c=>
  have HE:=aa (show wrap64 (c:Int)=c from Pn (by have:c<256:=hv;omega) (by have:c<256:=hv;omega));go_enter Tryz.func99,Tryz.ntmps99;go_wp2_with fail;go_ret2;exact⟨vU (Pp HE.out) rfl,Below.refl _ _⟩
 |truth b=>
  cases b
  all_goals
   go_enter Tryz.func99,Tryz.ntmps99;go_wp2_with fail;go_ret2;exact⟨rfl,nQ _ w _⟩
 |bits n=>
  exact Bt
 |item t n=>
  exact Bt
 |null=>
  exact Bt
 |str s=>
  by_cases h1:s.length=1
  ·obtain⟨c,rfl⟩:=List.length_eq_one_iff.1 h1;have HE:=aa (show wrap64 (c.toNat:Int)=(c.toNat:Int)from Pn (by have:=UInt8.toNat_lt c;omega) (by have:=UInt8.toNat_lt c;omega));go_enter Tryz.func99,Tryz.ntmps99;go_wp2_with fail;go_ret2;exact⟨vU (Pp HE.out) rfl,cB w _⟩
  ·have HE:=aa (show aR (.str s)=Option.none by
    match s,h1 with
    |[],_=>rfl
    |_::_::_,_=>rfl)
   have d:((s.length:Int)==1)=false:=beq_eq_false_iff_ne.2 (by omega);clear h1;go_enter Tryz.func99,Tryz.ntmps99;go_wp2_with fail;go_ret2;exact⟨by rw[HE.out];rfl,cB w _⟩
def qJ(l:List En):List Value:=l.flatMap fun e=>(eG e).toList
def kH(it:It)(A:Option Addr)(c:Nat):Array Value:=#[.string ⟨it.en.name.toArray⟩,.int .u8 it.en.kind,.int .i64 it.en.type,aK it.en.val,.int .i64 it.en.level,.int .i64 it.en.at_,.string ⟨it.en.module.toArray⟩,.slice A it.exports.length c]
def uv(w:World)(it:It)(v:Value):Prop:=∃A c,v=.agg (kH it A c)∧Rw w (.slice A it.exports.length c) it.exports.length (qJ it.exports)∧it.exports.length≤1000000
theorem uv.later{w w':World}{it:It}{v:Value}(h:uv w it v)(hb:Below w.heap.size w w'):uv w' it v:=by
 obtain⟨A,c,h1,h2,h3⟩:=h;exact⟨A,c,h1,h2.later hb,h3⟩
inductive nM(w:World):List (List UInt8×Value)→List (List UInt8×It)→Prop where
 |nil:nM w [] []
 |cons (n:List UInt8) (v:Value) (it:It) (vs:List (List UInt8×Value)) (l:List (List UInt8×It)) (h:uv w it v) (t:nM w vs l):nM w ((n,v)::vs) ((n,it)::l)
theorem nM.later{w w':World}{vs:List (List UInt8×Value)}{l:List (List UInt8×It)}(h:nM w vs l)(hb:Below w.heap.size w w'):nM w' vs l:=by
 induction h with
 |nil=>exact .nil
 |cons n v it vs l h _ ih=>exact .cons n v it vs l (h.later hb) ih
theorem nM.find{w:World}{vs:List (List UInt8×Value)}{l:List (List UInt8×It)}(h:nM w vs l)(nm:List UInt8):(bm vs nm=none∧bm l nm=none)∨∃v it,bm vs nm=some v∧bm l nm=some it∧uv w it v:=by
 induction h with
 |nil=>exact .inl ⟨rfl,rfl⟩
 |cons n v it vs l h _ ih=>
  unfold bm at ih ⊢;by_cases e:n=nm
  ·refine .inr ⟨v,it,?_,?_,h⟩<;>simp[e]
  ·simpa[List.find?_cons,e]using ih
def pr(w:World)(r:Nat)(l:List (List UInt8×It)):Prop:=∃vs,KM eV w r vs∧nM w vs l
theorem pr.later{w w':World}{r:Nat}{l:List (List UInt8×It)}(h:pr w r l)(hb:Below w.heap.size w w'):pr w' r l:=by
 obtain⟨vs,h1,h2⟩:=h;exact⟨vs,h1.later hb,h2.later hb⟩
structure lS(w:World)(p:Nat)(L:List Lv):Prop where
 some:0<L.length
 few:L.length≤1000000
 at_:∃b o c,w.cell? ⟨p,0,none⟩=Option.some (.slice (Option.some ⟨b,o,none⟩) L.length c)∧L.length≤c∧∀i lv,L[i]? =Option.some lv→∃r,w.cell? ⟨b,o+i*2,none⟩=Option.some (.bool lv.closed)∧w.cell? ⟨b,o+i*2+1,none⟩=Option.some (.map (Option.some r))∧pr w r lv.items
theorem lS.later{w w':World}{p:Nat}{L:List Lv}(h:lS w p L)(hb:Below w.heap.size w w'):lS w' p L:=by
 refine⟨h.some,h.few,?_⟩;obtain⟨b,o,c,h1,h2,h3⟩:=h.at_;refine⟨b,o,c,bo h1 hb,h2,fun i lv hi=>?_⟩;obtain⟨r,h4,h5,h6⟩:=h3 i lv hi;exact⟨r,bo h4 hb,bo h5 hb,h6.later hb⟩
theorem ace{w:World}{p:Nat}{L:List Lv}(h:lS w p L):Calls Tryz.prog 47 #[.pointer (some ⟨p,0,none⟩)] w (fun e w'=>e=.returned (.bool true)∧w=w'):=by
 obtain⟨b,o,c,h1,_,_⟩:=h.at_;have hL:=h.some;clear h;go_enter Tryz.func47,Tryz.ntmps47;exact iW
theorem Rl{w:World}{p:Nat}{L:List Lv}(h:lS w p L):Calls Tryz.prog 153 #[.pointer (some ⟨p,0,none⟩)] w (fun e w'=>e=.returned (.int .i64 L.length)∧w=w'):=by
 obtain⟨b,o,c,h1,_,_⟩:=h.at_;clear h;go_enter Tryz.func153,Tryz.ntmps153;exact iW
def qT:It:=⟨⟨[],0,0,.none,0,0,[]⟩,[]⟩
theorem Rm{w wr:World}{r:Nat}{l:List (List UInt8×It)}(h:pr w r l)(hw:Below w.heap.size w wr)(nm:List UInt8):∃it A c q,(∀x,Below wr.heap.size wr x→(Instr.lookup 119 (.map (some r)) (.string ⟨nm.toArray⟩) true).run Tryz.prog x=.ok (.tuple #[.agg (kH it A c),.bool q]) x)∧Rw w (.slice A it.exports.length c) it.exports.length (qJ it.exports)∧it.exports.length≤1000000∧
 ((q=false∧bm l nm=none∧it=qT)∨(q=true∧bm l nm=some it)):=by
 obtain⟨vs,hk,hb⟩:=h;have hk':=hk.later hw;rcases hb.find nm with⟨h1,h2⟩|⟨v,it,h1,h2,A,c,rfl,h4,h5⟩
 ·exact⟨qT,none,0,false,fun x hx=>(lY (z:=.agg (kH qT none 0)) Tryz.underlying119 (lD Tryz.underlying9) (fun w=>by kernel_rfl) (hk'.later hx) nm h1).1,.inl ⟨rfl,rfl,rfl⟩,by simp[qT],.inl ⟨rfl,h2,rfl⟩⟩
 ·exact⟨it,A,c,true,fun x hx=>(ej Tryz.underlying119 (lD Tryz.underlying9) (hk'.later hx) nm h1).1,h4,h5,.inr ⟨rfl,h2⟩⟩
theorem Hn{P:Program}{fn:Func}{p u:Tmp}{ty:TypeId}(h:fn.results=#[.cell p ty,.tmp u])(tmps:Array Value)(w:World)(g:Nat)(t:TypeId)(cs:Array Value)(fr:Nat×Nat)(d:TypeDesc)
 (hp:tmps.getD p undef=.pointer (some ⟨g,0,none⟩)) (hg:w.heap[g]? =some (.cells cs t fr))
 (hu:P.underlying ty=some d) (hd:(match d with|.struct _|.array _ _=>true|_=>false)=true) (hi:(P.info? ty).map (·.size)=some cs.size):
 (results fn tmps).run P w=.ok (.tuple #[.agg cs,tmps.getD u undef]) w:=by
 have hp':tmps[p]?.getD undef=.pointer (some ⟨g,0,none⟩):=by simpa using hp
 simp[results,h,hp',asAddr,run_loadVar_row w g t ty cs fr d hg hu hd hi]
theorem info151:(Tryz.prog.info? 151).map (·.size)=some 8:=by kernel_rfl
def Ho(w:World)(r:Option It)(e:Ending)(w':World):Prop:=∃it A c q,e=.returned (.tuple #[.agg (kH it A c),.bool q])∧Rw w (.slice A it.exports.length c) it.exports.length (qJ it.exports)∧it.exports.length≤1000000∧((q=false∧r=none∧it=qT)∨(q=true∧r=some it))∧Below w.heap.size w w'
def Cm(w:World)(k:Nat)(it:It)(A:Option Addr)(c:Nat):World:=(((((((w.setCell ⟨k,0,none⟩ (.string ⟨it.en.name.toArray⟩)).setCell ⟨k,1,none⟩ (.int .u8 it.en.kind)).setCell ⟨k,2,none⟩ (.int .i64 it.en.type)).setCell ⟨k,3,none⟩ (aK it.en.val)).setCell ⟨k,4,none⟩ (.int .i64 it.en.level)).setCell ⟨k,5,none⟩ (.int .i64 it.en.at_)).setCell ⟨k,6,none⟩ (.string ⟨it.en.module.toArray⟩)).setCell ⟨k,7,none⟩ (.slice A it.exports.length c)
theorem Hp{w wr wF:World}{y0 y1 y2 y3 y4 y5 y6 y7:Value}{r:Option It}{it:It}{A:Option Addr}{c:Nat}{q:Bool}{tmps:Array Value}{ds:List Deferred}
 (X:Bx w.heap.size #[y0,y1,y2,y3,y4,y5,y6,y7] 151 wr) (hb:Below w.heap.size w wr) (hF:Below (Cm wr w.heap.size it A c).heap.size (Cm wr w.heap.size it A c) wF)
 (hd:ds=[]) (h6:tmps.getD 6 undef=.pointer (some ⟨w.heap.size,0,none⟩)) (h7:tmps.getD 7 undef=.bool q)
 (hr:Rw w (.slice A it.exports.length c) it.exports.length (qJ it.exports)) (h9:it.exports.length≤1000000) (hq:(q=false∧r=none∧it=qT)∨(q=true∧r=some it)):
 bodyPost Tryz.prog Tryz.f152 (Ho w r) .ret ⟨tmps,ds⟩ wF:=by
 have XF:Bx w.heap.size (kH it A c) 151 wF:=by
  refine Bx.grow ?_ hF;have:=((((((((X.set 0 (.string ⟨it.en.name.toArray⟩)).set 1 (.int .u8 it.en.kind)).set 2 (.int .i64 it.en.type)).set 3 (aK it.en.val)).set 4 (.int .i64 it.en.level)).set 5 (.int .i64 it.en.at_)).set 6 (.string ⟨it.en.module.toArray⟩)).set 7 (.slice A it.exports.length c));exact Ro
 have hR:(results Tryz.f152 (Act.mk tmps ds).tmps).run Tryz.prog wF=.ok (.tuple #[.agg (kH it A c),tmps.getD 7 undef]) wF:=Hn rfl tmps _ w.heap.size _ _ (0,0) _ h6 XF Tryz.underlying151 rfl (info151.trans rfl);have h1:Below w.heap.size w (Cm wr w.heap.size it A c):=by
  unfold Cm;iterate 8 (refine Below.setCell ?_ (by exact Nat.le_refl _) _)
  exact hb
 have hE:Ho w r (.returned (.tuple #[.agg (kH it A c),tmps.getD 7 undef])) wF:=⟨it,A,c,q,by rw[h7],hr,h9,hq,h1.trans (hF.mono h1.size)⟩;exact bodyPost_ret hR hd hE
theorem Rp{w:World}{p:Nat}{L:List Lv}(h:lS w p L)(nm:List UInt8)(k:Nat)(hk:k<L.length):Calls Tryz.prog 152 #[.pointer (some ⟨p,0,none⟩),.int .i64 (k:Int),.string ⟨nm.toArray⟩] w (Ho w (eW L nm k)):=by
 have H:=aa h;have HN:=aa h.few;clear h;have kk:¬((k:Int)<0):=by omega
 go_enter Tryz.func152,Tryz.ntmps152;go_wp2_with fail;generalize az:w.alloc _=w1;obtain⟨ae,x1,aE⟩:=made az;have yH:=aa aE;have H1:=aa (H.out.later ae);have aO:=aa ae;have X1:=aa x1;clear az ae x1 aE;refine(ace H1.out).mono ?_;rintro e w2 ⟨rfl,rfl⟩;go_wp2_with fail
 go_loopg [1] (k+1) (fun g i wr=>∃j:Nat,g=j+1∧i=.int .i64 (j:Int)∧j<L.length∧eW L nm k=eW L nm j∧Below w1.heap.size w1 wr)
 case atStart=>exact⟨k,rfl,rfl,hk,rfl,Below.refl _ _⟩
 case round=>
  clear kk hk;obtain⟨j,hg,rfl,hj,hf,hb⟩:=hrel;have HF:=aa hf;have HB:=aa hb;have HBW:=aa (aO.out.trans (hb.mono aO.out.size));obtain⟨b,o,c,e1,e2,e3⟩:=H.out.at_
  replace e1:=bo e1 HBW.out
  obtain⟨lv,hlv⟩:∃lv,L[j]? =some lv:=⟨L[j],by simp⟩;obtain⟨r,c0,c1,hl⟩:=e3 j lv hlv;obtain⟨it,A,d,q,lk,hrw,hfw,hq⟩:=Rm hl HBW.out nm
  replace c0:=bo c0 HBW.out
  replace c1:=bo c1 HBW.out
  have HLV:=aa hlv;have HRW:=aa hrw;have HFW:=aa hfw;have HQ:=aa hq;have hp:=aQ e1;have hbl:=aQ c0;have X2:=aa (X1.out.grow hb);have z:=X2.out.cell;have fz:=X2.out.frozen;have hws:=X2.out.lt;have LK:=aa lk
  replace lk:=lk wr (Below.refl _ _)
  have DH:=aa e3;clear hf hb e3 hl hlv hrw hfw;dsimp only[kH]at lk;have HG:=aa (fun cs=>cB wr (.cells cs 151));by_cases h0:0<j
  ·have h0I:(0:Int)<(j:Int):=by omega
   have h0M:¬((j:Int)≤0):=by omega
   rcases hq with⟨rfl,pX,jd⟩|⟨rfl,pX⟩
   ·have DJ:=aa pX;clear pX jd;cases hcl:lv.closed
    ·rw[hcl]at c0;have HC:=aa hcl;have HW:=aa (show wrap64 ((j:Int)-1)=((j-1:Nat):Int)by rw[Go.IntWalk.wrap64_in _ (by have:=HN.out;omega)];omega);clear hcl;go_wp2_with fail
     go_roundg (gk-1)
     case measure=>omega
     refine⟨j-1,by omega,by rw[HW.out],by omega,?_,HB.out.alloc HB.out.size _⟩;rw[HF.out];obtain⟨i,rfl⟩:∃i,j=i+1:=⟨j-1,by omega⟩;have e:L.getD (i+1) ⟨false,[]⟩=lv:=by rw[List.getD_eq_getElem?_getD,HLV.out];rfl
     rw[eW,e,DJ.out,HC.out];rfl
    ·rw[hcl]at c0;have HC:=aa hcl;clear hcl;have HK:=aa (show eW L nm k=bm (L.getD 0 ⟨false,[]⟩).items nm by
      rw[HF.out];obtain⟨i,rfl⟩:∃i,j=i+1:=⟨j-1,by omega⟩;have e:L.getD (i+1) ⟨false,[]⟩=lv:=by rw[List.getD_eq_getElem?_getD,HLV.out];rfl
      rw[eW,e,DJ.out,HC.out];rfl)
     obtain⟨Ki,Kj⟩:∃Ki,L[0]? =some Ki:=⟨L[0]'(by omega),by simp⟩;obtain⟨r0,_,d1,pZ⟩:=DH.out 0 Ki Kj;obtain⟨it',A',d',q',lk',hrw',hfw',hq'⟩:=Rm pZ HBW.out nm;have HRW':=aa hrw';have HFW':=aa hfw';have HQ':=aa (show(q'=false∧eW L nm k=none∧it'=qT)∨(q'=true∧eW L nm k=some it')by
      rw[HK.out,List.getD_eq_getElem?_getD,Kj];exact hq')
     replace d1:=bo d1 HBW.out
     replace lk':=lk' (wr.alloc (.cells (kH it A d) 151)) (cB wr _)
     simp only[Nat.zero_mul,Nat.add_zero]at d1;dsimp only[kH]at lk';clear pZ Kj hrw' hq' hfw';go_wp2_with fail;refine Hp X2.out HBW.out ?_ rfl rfl rfl HRW'.out HFW'.out HQ'.out;exact((Below.refl _ _).alloc (Nat.le_refl _) _).alloc (by simp) _
   ·have DJ:=aa pX;clear pX;have HK:=aa (show eW L nm k=some it by
     rw[HF.out];obtain⟨i,rfl⟩:∃i,j=i+1:=⟨j-1,by omega⟩;have e:L.getD (i+1) ⟨false,[]⟩=lv:=by rw[List.getD_eq_getElem?_getD,HLV.out];rfl
     rw[eW,e,DJ.out])
    go_wp2_with fail;refine Hp X2.out HBW.out ?_ rfl rfl rfl HRW.out HFW.out (.inr ⟨rfl,HK.out⟩);exact Hq
  ·obtain rfl:j=0:=by omega
   have HQ':=aa (show(q=false∧eW L nm k=none∧it=qT)∨(q=true∧eW L nm k=some it)by
    rw[HF.out,eW,List.getD_eq_getElem?_getD,HLV.out];exact hq)
   simp only[Nat.zero_mul,Nat.add_zero]at c0 c1;clear hq;go_wp2_with fail;refine Hp X2.out HBW.out ?_ rfl rfl rfl HRW.out HFW.out HQ'.out;exact Hq
theorem acf{P:Program}{fn:Func}{p u:Tmp}{ty:TypeId}(h:fn.results=#[.cell p ty,.tmp u])(tmps:Array Value)(w:World)(g:Nat)(t:TypeId)(cs:Array Value)(fr:Nat×Nat)(d:TypeDesc)
 (hp:tmps.getD p undef=.pointer (some ⟨g,0,none⟩)) (hg:w.heap[g]? =some (.cells cs t fr))
 (hu:P.underlying ty=some d) (hd:(match d with|.struct _|.array _ _=>true|_=>false)=true) (hi:(P.info? ty).map (·.size)=some cs.size):
 (results fn tmps).run P w=.ok (.tuple #[.agg cs,tmps.getD u undef]) w:=Hn h tmps w g t cs fr d hp hg hu hd hi
theorem info74:(Tryz.prog.info? 74).map (·.size)=some 7:=by kernel_rfl
def Cn(w:World)(r:Option En)(e:Ending)(w':World):Prop:=∃en q,e=.returned (.tuple #[.agg (eG en),.bool q])∧((q=false∧r=none∧en=bI)∨(q=true∧r=some en))∧Below w.heap.size w w'
def mU(w:World)(k:Nat)(e:En):World:=((((((w.setCell ⟨k,0,none⟩ (.string ⟨e.name.toArray⟩)).setCell ⟨k,1,none⟩ (.int .u8 e.kind)).setCell ⟨k,2,none⟩ (.int .i64 e.type)).setCell ⟨k,3,none⟩ (aK e.val)).setCell ⟨k,4,none⟩ (.int .i64 e.level)).setCell ⟨k,5,none⟩ (.int .i64 e.at_)).setCell ⟨k,6,none⟩ (.string ⟨e.module.toArray⟩)
theorem NU{wr:World}{k:Nat}{y0 y1 y2 y3 y4 y5 y6:Value}(X:Bx k #[y0,y1,y2,y3,y4,y5,y6] 74 wr)(e:En):Bx k (eG e) 74 (mU wr k e):=by
 have:=(((((((X.set 0 (.string ⟨e.name.toArray⟩)).set 1 (.int .u8 e.kind)).set 2 (.int .i64 e.type)).set 3 (aK e.val)).set 4 (.int .i64 e.level)).set 5 (.int .i64 e.at_)).set 6 (.string ⟨e.module.toArray⟩));exact Ro
theorem Co{fn:Func}{p u:Tmp}(hfn:fn.results=#[.cell p 74,.tmp u]){w wr wF:World}{y0 y1 y2 y3 y4 y5 y6:Value}{r:Option En}{e:En}{q:Bool}{tmps:Array Value}{ds:List Deferred}
 {k:Nat} (hk:w.heap.size≤k) (X:Bx k #[y0,y1,y2,y3,y4,y5,y6] 74 wr) (hb:Below w.heap.size w wr) (hF:Below (mU wr k e).heap.size (mU wr k e) wF) (hd:ds=[])
 (h6:tmps.getD p undef=.pointer (some ⟨k,0,none⟩)) (h7:tmps.getD u undef=.bool q) (hq:(q=false∧r=none∧e=bI)∨(q=true∧r=some e)):
 bodyPost Tryz.prog fn (Cn w r) .ret ⟨tmps,ds⟩ wF:=by
 have XF:Bx k (eG e) 74 wF:=(NU X e).grow hF;have hR:(results fn (Act.mk tmps ds).tmps).run Tryz.prog wF=.ok (.tuple #[.agg (eG e),tmps.getD u undef]) wF:=acf hfn tmps _ k _ _ (0,0) _ h6 XF Tryz.underlying74 rfl (info74.trans rfl);have h1:Below w.heap.size w (mU wr k e):=by
  unfold mU;iterate 7 (refine Below.setCell ?_ (by exact hk) _)
  exact hb
 have hE:Cn w r (.returned (.tuple #[.agg (eG e),tmps.getD u undef])) wF:=⟨e,q,by rw[h7],hq,h1.trans (hF.mono h1.size)⟩;exact bodyPost_ret hR hd hE
theorem AI{w:World}{p:Nat}{L:List Lv}(h:lS w p L)(nm:List UInt8):Calls Tryz.prog 131 #[.pointer (some ⟨p,0,none⟩),.string ⟨nm.toArray⟩] w (Cn w (jL L nm)):=by
 have H:=aa h;have HS:=h.some;have HW:=aa (show wrap64 ((L.length:Int)-1)=((L.length-1:Nat):Int)by have:=h.few;rw[Go.IntWalk.wrap64_in _ (by omega)];omega);have HF:=aa (show jL L nm=(eW L nm (L.length-1)).map (·.en)by
  unfold jL kI;rw[if_neg (by rintro rfl;exact absurd HS (by simp))])
 clear h;go_enter Tryz.func131,Tryz.ntmps131;go_wp2_with fail;generalize az:w.alloc _=w1;obtain⟨ae,x1,aE⟩:=made az;have yH:=aa aE;have H1:=aa (H.out.later ae);have aO:=aa ae;have X1:=aa x1;clear az ae x1 aE;refine(Rl H1.out).mono ?_;rintro e w2 ⟨rfl,rfl⟩;go_wp2_with fail;rw[HW.out];refine(Rp H1.out nm (L.length-1) (by omega)).mono ?_;rintro e w2 ⟨it,A,c,q,rfl,hr,_,hq,af⟩;dsimp only[kH];have HQ:=aa hq;have aV:=aa af;have X2:=aa (X1.out.grow af);have z:=X2.out.cell;have fz:=X2.out.frozen;have hws:=X2.out.lt;clear hr hq af;go_wp2_with fail;refine Co (e:=it.en) rfl (Nat.le_refl _) X2.out (aO.out.trans (aV.out.mono aO.out.size)) ?_ rfl rfl rfl ?_
 ·exact Hq
 ·rcases HQ.out with⟨h1,h2,rfl⟩|⟨h1,h2⟩
  ·exact .inl ⟨h1,by rw[HF.out,h2];rfl,rfl⟩
  ·exact .inr ⟨h1,by rw[HF.out,h2];rfl⟩
theorem Rq{w:World}{A:Option Addr}{n c:Nat}{l:List En}(h:Rw w (.slice A n c) n (qJ l))(hn:n=l.length){j:Nat}{e:En}(hj:l[j]? =some e):
 ∃b o,A=some ⟨b,o,none⟩∧b<w.heap.size∧n≤c∧∀i u,(eG e)[i]? =some u→w.cell? ⟨b,o+j*7+i,none⟩=some u:=by
 obtain⟨hj',rfl⟩:=List.getElem?_eq_some_iff.1 hj;rcases h with⟨h1,h2,h3⟩|⟨b,o,c',h1,h0,h2,h3⟩
 ·omega
 ·cases h1;refine⟨b,o,rfl,h2,h0,fun i u hi=>?_⟩;rw[Nat.add_assoc];refine h3 _ u ?_;have hi7:i<7:=by
   have:=(Array.getElem?_eq_some_iff.1 hi).1;simpa[eG]using this
  unfold qJ;have:∀(l:List En) (j:Nat),j<l.length→(l.flatMap fun e=>(eG e).toList)[j*7+i]? =(eG (l.getD j bI)).toList[i]? :=by
   intro l
   induction l with
   |nil=>intro j hj;exact absurd hj (by simp)
   |cons a t ih=>
    intro j hj;have hl:(eG a).toList.length=7:=rfl;rw[List.flatMap_cons];cases j with
    |zero=>rw[Nat.zero_mul,Nat.zero_add,List.getElem?_append_left (by rw[hl];exact hi7)];rfl
    |succ j=>
     rw[List.getElem?_append_right (by rw[hl];omega),hl,show(j+1)*7+i-7=j*7+i by omega,ih j (by simpa using hj)];rfl
  rw[this l j hj',List.getD_eq_getElem?_getD,hj];simpa using hi
theorem acg{w:World}(e:En)(g:Nat)(nm:List UInt8)(hg:w.cell? ⟨g,0,none⟩=some (.string ⟨nm.toArray⟩)):Calls Tryz.prog 155 #[.agg (eG e),.pointer (some ⟨g,0,none⟩)] w (fun x w'=>x=.returned (.bool (decide (e.name=nm)))∧Below w.heap.size w w'):=by
 have hlt:=aQ hg;dsimp only[eG];go_enter Tryz.func155,Tryz.ntmps155;go_wp2_with fail;go_ret;refine⟨?_,cB w _⟩;rw[show decide (e.name=nm)=(e.name==nm)by by_cases h:e.name=nm<;>simp[h]];rfl
def ach(w:World)(l:List En)(nm:List UInt8)(e:Ending)(w':World):Prop:=∃r:Int,e=.returned (.int .i64 r)∧((r= -1∧l.find? (fun e=>decide (e.name=nm))=none)∨∃(i:Nat) (en:En),r=i∧l[i]? =some en∧l.find? (fun e=>decide (e.name=nm))=some en)∧Below w.heap.size w w'
theorem aci{w:World}{A:Option Addr}{c:Nat}{l:List En}(h:Rw w (.slice A l.length c) l.length (qJ l))(hl:l.length≤1000000)(g:Nat)(nm:List UInt8)(hg:w.cell? ⟨g,0,none⟩=some (.string ⟨nm.toArray⟩)):
 Calls Tryz.prog 154 #[.slice A l.length c,.func (.func 155) #[] #[.pointer (some ⟨g,0,none⟩)]] w (ach w l nm):=by
 have H:=aa h;have HG:=aa hg;have HL:=aa hl;clear h hg hl;go_enter Tryz.func154,Tryz.ntmps154;go_wp2_with fail
 go_loopg [5,8] l.length (fun gg _ s8 wr=>∃kk:Nat,kk≤l.length∧gg=l.length-kk∧s8=.int .i64 kk∧Below w.heap.size w wr∧l.find? (fun e=>decide (e.name=nm))=(l.drop kk).find? (fun e=>decide (e.name=nm)))
 case atStart=>exact⟨0,Nat.zero_le _,by omega,rfl,Below.refl _ w,rfl⟩
 case round=>
  obtain⟨kk,hkk,hgk,rfl,hb,hf⟩:=hrel;have HB:=aa hb;have HF:=aa hf;clear hf;by_cases hlt:kk<l.length
  ·have hltz:(kk:Int)<(l.length:Int):=by omega
   obtain⟨en,hen⟩:∃en,l[kk]? =some en:=⟨l[kk],by simp⟩;obtain⟨b,o,rfl,hbw,hnc,hc⟩:=Rq (H.out.later hb) rfl hen;have HE:=aa hen;have HD:=aa (show l.drop kk=en::l.drop (kk+1)by
    obtain⟨h1,rfl⟩:=List.getElem?_eq_some_iff.1 hen;exact List.drop_eq_getElem_cons h1)
   have hcall:=acg (w:=wr) en g nm (bo HG.out hb);have c0:wr.cell? ⟨b,o+kk*7,none⟩=some (.string ⟨en.name.toArray⟩):=hc 0 _ rfl;have c1:wr.cell? ⟨b,o+kk*7+1,none⟩=some (.int .u8 en.kind):=hc 1 _ rfl;have c2:wr.cell? ⟨b,o+kk*7+2,none⟩=some (.int .i64 en.type):=hc 2 _ rfl;have c3:wr.cell? ⟨b,o+kk*7+3,none⟩=some (aK en.val):=hc 3 _ rfl;have c4:wr.cell? ⟨b,o+kk*7+4,none⟩=some (.int .i64 en.level):=hc 4 _ rfl;have c5:wr.cell? ⟨b,o+kk*7+5,none⟩=some (.int .i64 en.at_):=hc 5 _ rfl;have c6:wr.cell? ⟨b,o+kk*7+6,none⟩=some (.string ⟨en.module.toArray⟩):=hc 6 _ rfl;clear hen hb hc;have HW:=aa (show wrap64 ((kk:Int)+1)=((kk+1:Nat):Int)by rw[Go.IntWalk.wrap64_in _ (by have:=HL.out;omega)];omega);dsimp only[eG]at hcall;cases hq:decide (en.name=nm)
   ·rw[hq]at hcall;go_wp2_with (go_at_call 155;refine hcall.mono ?_;rintro e w' ⟨rfl,hb'⟩)
    go_roundg (gk-1)
    case measure=>omega
    refine⟨kk+1,by omega,by omega,by rw[HW.out],HB.out.trans (by rename_i hb' _;exact hb'.mono HB.out.size),?_⟩;rw[HF.out,HD.out,List.find?_cons,hq]
   ·rw[hq]at hcall;go_wp2_with (go_at_call 155;refine hcall.mono ?_;rintro e w' ⟨rfl,hb'⟩);go_ret;rename_i hb' _;refine⟨(kk:Int),rfl,.inr ⟨kk,en,rfl,HE.out,?_⟩,HB.out.trans (hb'.mono HB.out.size)⟩;rw[HF.out,HD.out,List.find?_cons,hq]
  ·obtain rfl:kk=l.length:=by omega
   have hltz:¬((l.length:Int)<(l.length:Int)):=by omega
   go_wp2_with fail;go_ret;refine⟨-1,rfl,.inl ⟨rfl,?_⟩,HB.out⟩;rw[HF.out,List.drop_length];rfl
theorem NW{w:World}{p:Nat}{L:List Lv}(h:lS w p L)(u nm:List UInt8):Calls Tryz.prog 132 #[.pointer (some ⟨p,0,none⟩),.string ⟨u.toArray⟩,.string ⟨nm.toArray⟩] w (Cn w (iU L u nm)):=by
 have H:=aa h;have HS:=h.some;have HW:=aa (show wrap64 ((L.length:Int)-1)=((L.length-1:Nat):Int)by have:=h.few;rw[Go.IntWalk.wrap64_in _ (by omega)];omega);have HF:=aa (show kI L u=eW L u (L.length-1)by
  unfold kI;rw[if_neg (by rintro rfl;exact absurd HS (by simp))])
 clear h;go_enter Tryz.func132,Tryz.ntmps132;go_wp2_with fail;generalize eM:w.alloc (.cells #[.string ⟨nm.toArray⟩] 9)=w0;obtain⟨DK,x0,iQ⟩:=made eM;generalize az:w0.alloc _=w1;obtain⟨ae,x1,aE⟩:=made az;rw[iQ]at x1;have yH:=aa aE;have VS:=aa iQ;have H1:=aa ((H.out.later DK).later ae);have aO:=aa (DK.trans (ae.mono DK.size));have X1:=aa x1;have X0:=aa (x0.grow ae);clear az ae x1 aE eM DK x0 iQ;refine(Rl H1.out).mono ?_;rintro e w2 ⟨rfl,rfl⟩;go_wp2_with fail;rw[HW.out];refine(Rp H1.out u (L.length-1) (by omega)).mono ?_;rintro e w2 ⟨it,A,c,q,rfl,hr,hfw,hq,af⟩;dsimp only[kH];have HR:=aa (hr.later af);have HFW:=aa hfw;have aV:=aa (aO.out.trans (af.mono aO.out.size));have X2:=aa (X1.out.grow af);have X02:=aa (X0.out.grow af);have z:=X2.out.cell;have fz:=X2.out.frozen;have hws:=X2.out.lt;clear hr af hfw;rcases hq with⟨rfl,hq,rfl⟩|⟨rfl,hq⟩
 ·have HK:=aa (show iU L u nm=none by unfold iU;rw[HF.out,hq]);exact Rr
 ·by_cases h7:it.en.kind=7
  ·have HK:=aa (show iU L u nm=it.exports.find? (fun e=>decide (e.name=nm))by unfold iU;rw[HF.out,hq];simp only[h7,if_true]);rw[h7];clear hq;go_wp2_with fail;generalize cU:w2.alloc _=w3;obtain⟨ad,x3,iv⟩:=made cU;have dH:=aa (HR.out.later ad);have bD:=aa (aV.out.trans (ad.mono aV.out.size));have X3:=aa (X2.out.grow ad);have X03:=aa (X02.out.grow ad);have X13:=aa x3;have HS3:=aa iv;clear cU ad x3 iv z fz;refine(aci dH.out HFW.out _ nm (X03.out.cell 0)).mono ?_;rintro e w4 ⟨r,rfl,hr,aw⟩;have cd:=aa (bD.out.trans (aw.mono bD.out.size));have vB:=aa (dH.out.later aw);have X4:=aa (X3.out.grow aw);have X14:=aa (X13.out.grow aw);have z:=X4.out.cell;have fz:=X4.out.frozen;have z4:=X14.out.cell;have ab:=X14.out.lt;have eM:=X4.out.lt;clear aw;rcases hr with⟨rfl,hn⟩|⟨i,en,rfl,hi,hf⟩
   ·have yx:=aa (HK.out.trans hn);clear hn;go_wp2_with fail;refine Co (e:=bI) rfl (Nat.le_succ _) X4.out cd.out ?_ rfl rfl rfl (.inl ⟨rfl,yx.out,rfl⟩);exact Below.refl _ _
   ·have yx:=aa (HK.out.trans hf);have hil:=(List.getElem?_eq_some_iff.1 hi).1;have hn:¬((i:Int)<0):=by omega
    obtain⟨b,o,rfl,hbw,hnc,hc⟩:=Rq vB.out rfl hi;have c0:w4.cell? ⟨b,o+i*7,none⟩=some (.string ⟨en.name.toArray⟩):=hc 0 _ rfl;have c1:w4.cell? ⟨b,o+i*7+1,none⟩=some (.int .u8 en.kind):=hc 1 _ rfl;have c2:w4.cell? ⟨b,o+i*7+2,none⟩=some (.int .i64 en.type):=hc 2 _ rfl;have c3:w4.cell? ⟨b,o+i*7+3,none⟩=some (aK en.val):=hc 3 _ rfl;have c4:w4.cell? ⟨b,o+i*7+4,none⟩=some (.int .i64 en.level):=hc 4 _ rfl;have c5:w4.cell? ⟨b,o+i*7+5,none⟩=some (.int .i64 en.at_):=hc 5 _ rfl;have c6:w4.cell? ⟨b,o+i*7+6,none⟩=some (.string ⟨en.module.toArray⟩):=hc 6 _ rfl;have hiz:(i:Int)<(it.exports.length:Int):=by omega
    clear hi hf hc;go_wp2_with fail;refine Co (e:=en) rfl (Nat.le_succ _) X4.out cd.out ?_ rfl rfl rfl (.inr ⟨rfl,yx.out⟩);exact Below.refl _ _
  ·have HK:=aa (show iU L u nm=none by unfold iU;rw[HF.out,hq];simp only[h7,if_false]);have h7b:(it.en.kind==7)=false:=by simpa using h7
   exact Rr
theorem Sp{w:World}{p:Nat}{T:List Ty}(h:cF w p T)(a b:Int):Calls Tryz.prog 134 #[.pointer (some ⟨p,0,none⟩),.int .i64 a,.int .i64 b] w (Pv w (.bool (mA T a b))):=by
 have H:=aa h;have HR:=aa (show mA T a b=if aJ T a=5 then decide (bP T b=1∨bP T b=2)else if aJ T a=7 then decide (aJ T b=14∨aJ T b=15∨aJ T b=16)else false from rfl);clear h;go_enter Tryz.func134,Tryz.ntmps134;go_wp2_with fail;refine(uL H.out _).mono ?_;rintro e w1 ⟨rfl,hb⟩;have H1:=aa (H.out.later hb);have HB:=aa hb;clear hb H;go_wp2_with fail;refine(kP H1.out _).mono ?_;rintro e w2 ⟨s,rfl,_,hb⟩;have H2:=aa (H1.out.later hb);have aV:=aa (HB.out.trans (hb.mono HB.out.size));clear hb HB H1;unfold aJ at HR;dsimp only[bX];generalize bP T b=kb at *;generalize(aF T a).kind=ka at *;by_cases h5:ka=5
 ·subst h5;by_cases k1:kb=1
  ·subst k1;go_wp2_with fail;go_ret;exact⟨by rw[HR.out];rfl,aV.out⟩
  ·have d1:=beq_eq_false_iff_ne.2 k1;have HV:=aa (show mA T a b=(kb==2)by rw[HR.out];by_cases k2:kb=2<;>simp[k1,k2]);go_wp2_with fail;exact Ij
 have d5:=beq_eq_false_iff_ne.2 h5;by_cases h7:ka=7
 ·subst h7;go_wp2_with fail;refine(kP H2.out _).mono ?_;rintro e w3 ⟨s,rfl,_,hb⟩;have bD:=aa (aV.out.trans (hb.mono aV.out.size));clear hb aV H2;dsimp only[bX];generalize(aF T b).kind=kc at *;by_cases k1:kc=14
  ·subst k1;go_wp2_with fail;go_ret;exact⟨by rw[HR.out];rfl,bD.out⟩
  have d1:=beq_eq_false_iff_ne.2 k1;by_cases k2:kc=15
  ·subst k2;go_wp2_with fail;go_ret;exact⟨by rw[HR.out];rfl,bD.out⟩
  have d2:=beq_eq_false_iff_ne.2 k2;have HV:=aa (show mA T a b=(kc==16)by rw[HR.out];by_cases k3:kc=16<;>simp[k1,k2,k3]);go_wp2_with fail;go_ret;exact⟨by rw[HV.out];rfl,bD.out⟩
 have d7:=beq_eq_false_iff_ne.2 h7;go_wp2_with fail;go_ret;exact⟨by rw[HR.out,if_neg h5,if_neg h7];rfl,aV.out⟩
def CF(T:List Ty):Prop:=∀i, -1000000≤(rangeT T i).1∧(rangeT T i).1≤1000000∧ -1000000≤(rangeT T i).2.1∧(rangeT T i).2.1≤1000000
@[go_sem] theorem ajq(a0 a1 a2 a3 a4 a5 a6 a7 a8 a9 a10 a11:Value)(w:World):(Instr.field 47 (.agg #[a0,a1,a2,a3,a4,a5,a6,a7,a8,a9,a10,a11]) 4).run Tryz.prog w=.ok a4 w:=by kernel_rfl
theorem ac0{w:World}{p:Nat}{T:List Ty}(h:cF w p T)(k:CF T)(i:Int):Calls Tryz.prog 224 #[.pointer (some ⟨p,0,none⟩),.int .i64 i] w (Pv w (.int .i64 (qR T i))):=by
 have H:=aa h;have HR:=aa (show qR T i=if !(rangeT T (aF T i).index).2.2 then 0 else max ((rangeT T (aF T i).index).2.1-(rangeT T (aF T i).index).1+1) 0 from rfl);have HK:=aa (k (aF T i).index);clear h k;go_enter Tryz.func224,Tryz.ntmps224;go_wp2_with fail;refine(kP H.out _).mono ?_;rintro e w1 ⟨s,rfl,_,hb⟩;have H1:=aa (H.out.later hb);have HB:=aa hb;clear hb H;dsimp only[bX];go_wp2_with fail;refine(uA H1.out _).mono ?_;rintro e w2 ⟨rfl,hb⟩;have aV:=aa (HB.out.trans (hb.mono HB.out.size));clear hb H1 HB;generalize rangeT T (aF T i).index=r at *;obtain⟨lo,hi,ok⟩:=r;dsimp only at HR HK ⊢;cases ok
 ·go_wp2_with fail;go_ret;exact⟨by rw[HR.out];rfl,aV.out⟩
 ·have HW:=aa (show wrap64 (hi-lo)=hi-lo from Go.IntWalk.wrap64_in _ (by have:=HK.out;omega));have We:=aa (show wrap64 (hi-lo+1)=hi-lo+1 from Go.IntWalk.wrap64_in _ (by have:=HK.out;omega));have HE:=aa (show qR T i=max (hi-lo+1) 0 by rw[HR.out];rfl);have HX:=aa (show wrap64 (wrap64 (hi-lo)+1)=hi-lo+1 by rw[HW.out,We.out]);clear HR HW We;go_wp2_with fail
  ·have HV:=aa (show qR T i=0 by rw[HX.out]at h;rw[HE.out];omega);exact Ij
  ·have HV:=aa (show qR T i=wrap64 (wrap64 (hi-lo)+1)by rw[HX.out]at h ⊢;rw[HE.out];omega);exact Ij
end Go.Proofs.YtlpombjidhloiaaGreat
namespace Go.Proofs.YtlpombjidhloiaaGreat
open Go.RowKit
set_option maxRecDepth 100000
def kV(p:Int×Int):Value:=.agg #[.int .i64 p.1,.int .i64 p.2]
theorem ac1:(match Tryz.prog.underlying 253 with|some (.array _ _)|some (.struct _)=>true|_=>false)=true:=by kernel_rfl
theorem Sq:∃i,Tryz.prog.info? 3=some i:=Option.isSome_iff_exists.1 (by kernel_rfl)
theorem Sr:Tryz.prog.cellsOf 3=1:=by kernel_rfl
theorem Ss:Tryz.prog.plainKey 3=true:=by kernel_rfl
theorem Ik(a b:Int)(w:World):(part 3 #[.int .i64 a,.int .i64 b] 0).run Tryz.prog w=.ok (.int .i64 a) w:=run_part_plain w Ss rfl
theorem Il(a b:Int)(w:World):(part 3 #[.int .i64 a,.int .i64 b] 1).run Tryz.prog w=.ok (.int .i64 b) w:=run_part_plain w Ss rfl
theorem Su(n:Nat)(a b:Int)(w:World):(Op.equalIn (n+1) 3 (.int .i64 a) (.int .i64 b)).run Tryz.prog w=.ok (a==b) w:=by
 simp[Op.equalIn,run_underlying Tryz.underlying3]
theorem Sv(p q:Int×Int)(w:World):(Op.equal 253 (kV p) (kV q)).run Tryz.prog w=.ok (decide (p=q)) w:=by
 obtain⟨a,b⟩:=p;obtain⟨c,d⟩:=q;obtain⟨i,hi⟩:=Sq;show(Op.equalIn (9998+1+1) _ (.agg _) (.agg _)).run _ _=_;rw[run_equalIn_array w _ _ _ Tryz.underlying253 hi,show List.range 2=[0,1]from rfl];simp only[Op.eqItems,Sr,Nat.mul_one,Sem.run_bind,Ik,Result.andThen_ok,Su];by_cases h1:a=c<;>by_cases h2:b=d<;>simp[h1,h2,Il,Su]
theorem ac2(em:Bool)(n:Nat)(x:Int)(w:World):(Instr.checkKey em (n+1) 3 (.int .i64 x)).run Tryz.prog w=.ok () w:=by
 simp[Instr.checkKey,run_underlying Tryz.underlying3]
theorem ac3(em:Bool)(n:Nat)(a b:Int)(w:World):(Instr.checkKey em (n+1+1) 253 (.agg #[.int .i64 a,.int .i64 b])).run Tryz.prog w=.ok () w:=by
 obtain⟨i,hi⟩:=Sq;rw[Instr.checkKey];simp only[Sem.run_bind,run_underlying Tryz.underlying253,Result.andThen_ok,Std.Legacy.Range.forIn_eq_forIn_range',Std.Legacy.Range.size,Nat.sub_zero,Nat.add_one_sub_one,Nat.div_one];rw[show List.range' 0 2 1=[0,1]from rfl];simp only[List.forIn_cons,List.forIn_nil,Sem.run_bind,run_sizeOf w hi,Result.andThen_ok,Sr,Nat.zero_mul,Nat.mul_one,Ik,Il,ac2,Sem.run_pure]
theorem ac4(em:Bool)(p:Int×Int)(w:World):(Instr.checkKey em 10000 253 (kV p)).run Tryz.prog w=.ok () w:=ac3 em 9998 p.1 p.2 w
theorem Sw:∀(es:List MapEntry) (l:List ((Int×Int)×Value)) (x:Int×Int) (i:Nat) (w:World),es.map (fun e=>(e.key,e.val))=l.map (fun p=>(kV p.1,p.2))→(Instr.findAsking 253 (kV x) es i).run Tryz.prog w=.ok (nc l x i) w
 |[],[],_,_,_,_=>by simp[Instr.findAsking,nc]
 |[],_::_,_,_,_,h=>by simp at h
 |_::_,[],_,_,_,h=>by simp at h
 |e::es,y::l,x,i,w,h=>by
  simp only[List.map_cons,List.cons.injEq]at h;obtain⟨h1,h2⟩:=h;have hk:e.key=kV y.1:=(Prod.mk.inj h1).1;have hv:e.val=y.2:=(Prod.mk.inj h1).2;unfold Instr.findAsking nc;rw[hk,hv];by_cases hy:y.1=x
  ·subst hy;simp[Sv]
  ·have hx:¬x=y.1:=fun e=>hy e.symm
   simp[Sv,hy,hx,Sw es l x (i+1) w h2]
theorem Im:nT kV Tryz.prog 253 where
 check:=fun em a w=>ac4 em a w
 find:=fun es l x w h=>by rw[run_findKey_eq w ac1];exact Sw es l x 0 w h
 stays:=fun a w=>by obtain⟨a,b⟩:=a;simp[kV,Instr.keyThatStays,Instr.sameBits]
end Go.Proofs.YtlpombjidhloiaaGreat
