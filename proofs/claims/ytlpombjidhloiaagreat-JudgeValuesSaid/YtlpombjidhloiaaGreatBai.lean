/- What is constant has a value of its type. Rows, values and types as they lie in memory. Condition: what each theorem says. -/
import Derived.Test.YtlpombjidhloiaaGreatQlh
import Derived.Test.YtlpombjidhloiaaGreatSh
import Derived.Deep.WholeRow
import Derived.LoopN
import Derived.Deep.DeepCutAuto
import Derived.Deep.DrawnRows
import Derived.MapKept
namespace Go.Proofs.YtlpombjidhloiaaGreat
def ep(p:cJ):Prop:=p≠(0,0)∧p.1≤20000∧p.2≤20000
instance (p:cJ):Decidable (ep p):=inferInstanceAs (Decidable (p≠(0,0)∧p.1≤20000∧p.2≤20000))
structure PZ(t:ao):Prop where
 num:t.kind=5→t.n≤65535
 pos:t.kind≠0→ep t.pos
 one:t.kind=2∨t.kind=4∨t.kind=12→t.kids.length=1
 two:t.kind=3∨t.kind=9∨t.kind=11→t.kids.length=2
 some:t.kind=8∨t.kind=10→1≤t.kids.length
 kids:∀k∈(if t.kind=8 then t.kids.drop 1 else t.kids),k.kind≠0
inductive Wf:ao→Prop where
 |mk (t:ao) (h:PZ t) (k:∀x∈t.kids,Wf x):Wf t
theorem Wf.node{t:ao}(h:Wf t):PZ t:=by cases h;assumption
theorem Wf.sub{t:ao}(h:Wf t):∀x∈t.kids,Wf x:=by cases h;assumption
theorem su{t:ao}{i:Nat}(h:i<t.kids.length):kid t i∈t.kids:=by
 unfold kid;rw[List.getD_eq_getElem?_getD,List.getElem?_eq_getElem h];exact List.getElem_mem h
def Tk(t:ao):Prop:=Wf t∧t.kind≠0
theorem Tk.pos{t:ao}(h:Tk t):ep t.pos:=h.1.node.pos h.2
theorem Tk.kid{t:ao}(h:Tk t){i:Nat}(hi:i<t.kids.length)(h8:t.kind≠8):Tk (kid t i):=
 ⟨h.1.sub _ (su hi),h.1.node.kids _ (by rw[if_neg h8];exact su hi)⟩
def RR{α:Type}(Q:α→Prop):Jr α→Prop
 |.ok v=>Q v
 |.error e=>ep e.1
theorem RR.bind{α β:Type}{Q:α→Prop}{R:β→Prop}{a:Jr α}{f:α→Jr β}(h:RR Q a)(hf:∀v,Q v→RR R (f v)):RR R (a >>= f):=by
 cases a with
 |ok v=>exact hf v h
 |error e=>exact h
theorem RR.need{β:Type}{R:β→Prop}{b:Bool}{x:ao}{e:Int}{f:Unit→Jr β}(hx:ep x.pos)(hf:b=true→RR R (f ())):RR R (aI b x e >>= f):=by
 cases b with
 |true=>exact hf rfl
 |false=>exact hx
theorem RR.needed{b:Bool}{x:ao}{e:Int}(hx:ep x.pos):RR (fun _=>True) (aI b x e):=by
 cases b with
 |true=>trivial
 |false=>exact hx
theorem RR.mono{α:Type}{Q R:α→Prop}{a:Jr α}(h:RR Q a)(hq:∀v,Q v→R v):RR R a:=by
 cases a with
 |ok v=>exact hq v h
 |error e=>exact h
def kO(t:Int):aL→Prop
 |.none=>True
 |.whole n=>(t=1∨t=2∨t=5∨t=8∨t=10)∧(rangeT worldT t).1≤n∧n≤(rangeT worldT t).2.1
 |.letter c=>t=4∧c<256
 |.truth _=>t=3
 |.bits b=>(t=9∨t=15)∧b<65536
 |.str _=>t=6
 |.item u n=>t=11∧u=11∧(n=0∨n=1)
 |.null=>t=7
def eb(j:Jd):Prop:=kO j.type j.val∧(j.is≠0→j.val=.none)
structure pI(V:ea):Prop where
 T:V.T=worldT
 find:∀n e,V.find n=some e→(e.kind=1→kO e.type e.val)∧(e.kind=2→(aJ worldT e.type=13→e.type=9∨e.type=15)∧e.type∈[1,2,3,4,9,10,11,13,15,20])
 of_:∀u n e,V.of_ u n=some e→(e.kind=1→kO e.type e.val)∧(e.kind=2→(aJ worldT e.type=13→e.type=9∨e.type=15)∧e.type∈[1,2,3,4,9,10,11,13,15,20])
theorem Qa(t:Int)(h:t∈([1,2,3,4,5,8,10,11]:List Int)):rangeT worldT t=(match t.toNat with|1=>(-32768,32767,true)|2=>(0,65535,true)|3=>(0,1,true)|4=>(0,255,true)|5=>(-32768,65535,true)|8=>(0,15,true)|10=>(1,3,true)|_=>(0,1,true)):=by
 simp only[List.mem_cons,List.not_mem_nil,or_false]at h;rcases h with rfl|rfl|rfl|rfl|rfl|rfl|rfl|rfl<;>decide +kernel
theorem aaG:∀t:Fin 24,bH worldT t.val=true→(t.val:Int)∈([1,2,3,4,5,8,10,11]:List Int):=by decide +kernel
theorem aaH:∀t:Fin 24,bE worldT t.val=true→(t.val:Int)∈([1,2,5,8,10]:List Int):=by decide +kernel
theorem BJ{t:Int}(h:bH worldT t=true):aJ worldT t≠0:=by
 intro h0;have:bP worldT t=0:=by
  unfold bP aP;have hk:(aF worldT t).kind=0:=h0;rw[hk,if_neg (by decide)];exact h0
 unfold bH at h;rw[this]at h;exact mB
theorem Qb{t:Int}(h:bE worldT t=true):bH worldT t=true:=by
 unfold bE at h;unfold bH;simp only[decide_eq_true_eq]at h ⊢;simp only[List.mem_cons,List.not_mem_nil,or_false]at h ⊢;omega
theorem Qc{t:Int}(h:bH worldT t=true):t∈([1,2,3,4,5,8,10,11]:List Int):=by
 obtain⟨n,rfl⟩:=nX (BJ h);exact aaG n h
theorem Qd{t:Int}(h:bE worldT t=true):t∈([1,2,5,8,10]:List Int):=by
 obtain⟨n,rfl⟩:=nX (BJ (Qb h));exact aaH n h
theorem aaI{t:Int}{v:aL}(h:kO t v)(hv:v≠.none):(bH worldT t=true→∃n,aR v=some n∧(rangeT worldT t).1≤n∧n≤(rangeT worldT t).2.1)∧(aJ worldT t=13→∃b,v=.bits b):=by
 cases v with
 |none=>exact absurd rfl hv
 |whole n=>
  obtain⟨ht,h1,h2⟩:=h;refine⟨fun _=>⟨n,?_,h1,h2⟩,fun hk=>?_⟩
  ·have: -32768≤(rangeT worldT t).1∧(rangeT worldT t).2.1≤65535:=by rcases ht with rfl|rfl|rfl|rfl|rfl<;>decide +kernel
   simp only[aR];rw[if_pos (by omega)]
  ·exfalso;rcases ht with rfl|rfl|rfl|rfl|rfl<;>exact absurd hk (by decide +kernel)
 |letter c=>
  obtain⟨rfl,hc⟩:=h;have h1:(rangeT worldT 4).1=0:=by decide +kernel
  have h2:(rangeT worldT 4).2.1=255:=by decide +kernel
  exact⟨fun _=>⟨c,rfl,by omega,by omega⟩,fun hk=>absurd hk (by decide +kernel)⟩
 |truth b=>
  obtain rfl:t=3:=h;have h1:(rangeT worldT 3).1=0:=by decide +kernel
  have h2:(rangeT worldT 3).2.1=1:=by decide +kernel
  exact⟨fun _=>⟨if b then 1 else 0,rfl,by split<;>omega,by split<;>omega⟩,fun hk=>absurd hk (by decide +kernel)⟩
 |bits b=>exact⟨fun ho=>absurd ho (by obtain⟨ht,_⟩:=h;rcases ht with rfl|rfl<;>decide +kernel),fun _=>⟨b,rfl⟩⟩
 |str s=>
  obtain rfl:t=6:=h;exact Qe
 |item u n=>
  obtain⟨rfl,_,hn⟩:=h;have h1:(rangeT worldT 11).1=0:=by decide +kernel
  have h2:(rangeT worldT 11).2.1=1:=by decide +kernel
  exact⟨fun _=>⟨n,rfl,by omega,by omega⟩,fun hk=>absurd hk (by decide +kernel)⟩
 |null=>
  obtain rfl:t=7:=h;exact Qe
end Go.Proofs.YtlpombjidhloiaaGreat
namespace Go.Proofs.YtlpombjidhloiaaGreat
open Go.RowKit
theorem aQ{w:World}{b i:Nat}{v:Value}(h:w.cell? ⟨b,i,none⟩=some v):b<w.heap.size:=by
 rcases Nat.lt_or_ge b w.heap.size with h'|h'
 ·exact h'
 ·unfold World.cell? at h;rw[Array.getElem?_eq_none h']at h;cases h
theorem bo{w w':World}{b i:Nat}{v:Value}(h:w.cell? ⟨b,i,none⟩=some v)(hb:Below w.heap.size w w'):w'.cell? ⟨b,i,none⟩=some v:=(hb.cell (p:=⟨b,i,none⟩) (aQ h)).trans h
def Bx(k:Nat)(cs:Array Value)(T:TypeId)(w:World):Prop:=w.heap[k]? =some (.cells cs T (0,0))
theorem Bx.cell{k:Nat}{cs:Array Value}{T:TypeId}{w:World}(h:Bx k cs T w)(i:Nat):w.cell? ⟨k,i,none⟩=cs[i]? :=by unfold World.cell?;rw[show w.heap[k]? =_ from h];simp
theorem Bx.frozen{k:Nat}{cs:Array Value}{T:TypeId}{w:World}(h:Bx k cs T w)(i:Nat):w.frozen? ⟨k,i,none⟩=false:=by unfold World.frozen?;rw[show w.heap[k]? =_ from h];simp
theorem Bx.lt{k:Nat}{cs:Array Value}{T:TypeId}{w:World}(h:Bx k cs T w):k<w.heap.size:=ld h
theorem Bx.grow{k:Nat}{cs:Array Value}{T:TypeId}{w w':World}(h:Bx k cs T w)(hb:Below w.heap.size w w'):Bx k cs T w':=(hb.block k h.lt).trans h
theorem Bx.new(w:World)(cs:Array Value)(T:TypeId):Bx w.heap.size cs T (w.alloc (.cells cs T)):=heap_alloc_new w _
theorem Bx.far{k:Nat}{cs:Array Value}{T:TypeId}{w:World}(h:Bx k cs T w){a:Addr}(hk:k≠a.block)(v:Value):Bx k cs T (w.setCell a v):=(Below.heap_setCell w a v k hk).trans h
theorem Bx.set{k:Nat}{cs:Array Value}{T:TypeId}{w:World}(h:Bx k cs T w)(i:Nat)(v:Value):Bx k (cs.setIfInBounds i v) T (w.setCell ⟨k,i,none⟩ v):=by
 have h':w.heap[k]? =_:=h;show(w.setCell ⟨k,i,none⟩ v).heap[k]? =_;simp[World.setCell,Array.getElem?_modify,h']
theorem cB(w:World)(o:Obj):Below w.heap.size w (w.alloc o):=(Below.refl _ w).alloc (Nat.le_refl _) o
theorem made{w w1:World}{cs:Array Value}{T:TypeId}(h:w.alloc (.cells cs T)=w1):Below w.heap.size w w1∧Bx w.heap.size cs T w1∧w1.heap.size=w.heap.size+1:=by
 subst h;exact⟨cB w _,Bx.new w cs T,by simp⟩
def Rw(w:World)(v:Value)(n:Nat)(cs:List Value):Prop:=
 (v=.slice none 0 0∧n=0∧cs=[])∨∃b o c,v=.slice (some ⟨b,o,none⟩) n c∧n≤c∧b<w.heap.size∧∀j u,cs[j]? =some u→w.cell? ⟨b,o+j,none⟩=some u
theorem Rw.later{w w':World}{v:Value}{n:Nat}{cs:List Value}(h:Rw w v n cs)(hb:Below w.heap.size w w'):Rw w' v n cs:=by
 refine h.imp id ?_;rintro⟨b,o,c,h1,h0,h2,h3⟩;exact⟨b,o,c,h1,h0,Nat.lt_of_lt_of_le h2 hb.size,fun j u hj=>bo (h3 j u hj) hb⟩
theorem Rw.slice{w:World}{v:Value}{n:Nat}{cs:List Value}(h:Rw w v n cs):∃A c,v=.slice A n c:=by
 rcases h with⟨rfl,rfl,_⟩|⟨b,o,c,rfl,_⟩
 ·exact⟨_,_,rfl⟩
 ·exact⟨_,_,rfl⟩
theorem Rw.at_{w:World}{v:Value}{n:Nat}{cs:List Value}(h:Rw w v n cs){k:Nat}{u:Value}(hk:cs[k]? =some u):∃b o c,v=.slice (some ⟨b,o,none⟩) n c∧n≤c∧b<w.heap.size∧w.cell? ⟨b,o+k,none⟩=some u:=by
 rcases h with⟨rfl,rfl,rfl⟩|⟨b,o,c,rfl,h1,h2,h3⟩
 ·cases hk
 ·exact⟨b,o,c,rfl,h1,h2,h3 k u hk⟩
theorem Rw.of_own{w:World}{base:Nat}{e:TypeId}{size:Nat}{v:Value}{n:Nat}{xs:List Value}(h:w.ownsRow base e size v n xs):Rw w v n xs:=by
 obtain⟨hl,h⟩:=h;rcases h with⟨rfl,rfl⟩|⟨g,cap,cur,rfl,_,hg,hn,_,hs,ht⟩
 ·exact .inl ⟨rfl,rfl,List.eq_nil_of_length_eq_zero (by simpa using hl)⟩
 ·refine .inr ⟨g,0,cap,rfl,hn,ld hg,fun j u hj=>?_⟩;rw[Nat.zero_add];have hb:Bx g cur e w:=hg;rw[hb.cell];rw[←ht,List.getElem?_take]at hj;split at hj
  ·simpa using hj
  ·cases hj
def fm(s:List UInt8):Value:=.string ⟨s.toArray⟩
@[go_sem] theorem ai5(s:List UInt8):fm s=.string ⟨s.toArray⟩:=rfl
def aK:aL→Value
 |.none=>.nilIface
 |.whole n=>.iface 79 (.int .i64 n)
 |.letter c=>.iface 95 (.int .u8 (c:Int))
 |.truth b=>.iface 97 (.bool b)
 |.bits n=>.iface 100 (.int .u16 (n:Int))
 |.str s=>.iface 102 (.string ⟨s.toArray⟩)
 |.item t n=>.iface 105 (.agg #[.int .i64 t,.int .i64 n])
 |.null=>.iface 108 (.agg #[])
@[go_sem] theorem ai6{P:Program}{w:World}{a:Addr}{m:Mode}(v:aL):(store a (aK v) m).run P w=stored P w a (aK v) m:=run_store P w a _ m (by cases v<;>rfl)
def kJ(j:Jd):Array Value:=#[.int .i64 j.type,aK j.val,.int .u8 j.is]
def eG(e:En):Array Value:=#[.string ⟨e.name.toArray⟩,.int .u8 e.kind,.int .i64 e.type,aK e.val,.int .i64 e.level,.int .i64 e.at_,.string ⟨e.module.toArray⟩]
theorem ig(j:Jd):(kJ j).all (·.oneCell')=true:=by obtain⟨t,v,i⟩:=j;cases v<;>simp[kJ,aK,Value.oneCell']
theorem AJ(e:En):(eG e).all (·.oneCell')=true:=by obtain⟨n,k,t,v,l,a,m⟩:=e;cases v<;>simp[eG,aK,Value.oneCell']
def ei:Array Value:=#[.int .i64 0,.nilIface,.int .u8 0]
def wL:Array Value:=#[.string ⟨#[]⟩,.int .u8 0,.int .i64 0,.nilIface,.int .i64 0,.int .i64 0,.string ⟨#[]⟩]
def zTy:Array Value:=#[.int .u8 0,.string ⟨#[]⟩,.string ⟨#[]⟩,.int .i64 0,.int .i64 0,.int .i64 0,.int .i64 0,.slice none 0 0,.slice none 0 0,.slice none 0 0,.slice none 0 0,.int .i64 0]
def QB:Array Value:=#[.int .i64 0,.int .i64 0]
theorem bN{ops:Array Oper}{i s:Nat}(h:∃o,ops[i]? =some o∧o.guard=none∧o.dst=some s∧o.op=.alloc 29:=by exact⟨_,rfl,rfl,rfl,rfl⟩):fN Tryz.prog ops ⟨i,s,ei,29⟩:=by
 exact BW
theorem lT{ops:Array Oper}{i s:Nat}(h:∃o,ops[i]? =some o∧o.guard=none∧o.dst=some s∧o.op=.alloc 74:=by exact⟨_,rfl,rfl,rfl,rfl⟩):fN Tryz.prog ops ⟨i,s,wL,74⟩:=by
 exact BW
theorem mW{ops:Array Oper}{i s:Nat}(h:∃o,ops[i]? =some o∧o.guard=none∧o.dst=some s∧o.op=.alloc 47:=by exact⟨_,rfl,rfl,rfl,rfl⟩):fN Tryz.prog ops ⟨i,s,zTy,47⟩:=by
 exact BW
theorem wZ{ops:Array Oper}{i s:Nat}(h:∃o,ops[i]? =some o∧o.guard=none∧o.dst=some s∧o.op=.alloc 112:=by exact⟨_,rfl,rfl,rfl,rfl⟩):fN Tryz.prog ops ⟨i,s,QB,112⟩:=by
 exact BW
theorem AY{w0 wr:World}{b:Nat}{T:TypeId}{cs cs':Array Value}(hB:w0.heap.size≤b)(hw:Below w0.heap.size w0 wr)(hb:wr.heap[b]? =some (.cells cs T))(hi:(Tryz.prog.info? T).map (·.size)=some cs'.size)(hs:cs.size=cs'.size)(h1:cs'.all (·.oneCell')=true):
 ∃w6,(Instr.storeAt T (.pointer (some ⟨b,0,none⟩)) (.agg cs')).run Tryz.prog wr=.ok () w6∧Bx b cs' T w6∧Below w0.heap.size w0 w6∧w6.heap.size=wr.heap.size∧∀k,k≠b→w6.heap[k]? =wr.heap[k]? :=by
 refine⟨wr.setRow b cs',?_,setRow_heap wr b cs cs' T _ hb,?_,size_setRow wr b cs',fun k hk=>setRow_other wr b k cs' hk⟩
 ·simp only[Instr.storeAt,Instr.sureAddr,Sem.run_bind,Sem.run_pure,Result.andThen_ok];rw[run_storeVar_row wr b T T cs cs' hb hi hs h1]
 ·exact⟨hw.os,hw.tape,hw.output,by rw[size_setRow];exact hw.size,fun k hk=>(setRow_other wr b k cs' (by omega)).trans (hw.block k hk)⟩
theorem fU{ops:Array Oper}{Q:Exit→Act→World→Prop}{w0 w:World}{late:List Nat}{m:Al}{listed:Array Bool}{a:Act}(k:Nat){o:Oper}{x y:Operand}{cs':Array Value}(hf:eE ops late [m]=true)(hal:fN Tryz.prog ops m)(hB:qz ops late [m] listed k=true)(hw:Below w0.heap.size w0 w)
 (ho:ops[k]? =some o) (hg:o.guard=none) (hop:o.op=.store m.ty x y) (hd:o.dst=none) (hx:∀p,(a.put (some m.slot) p).eval x=p) (hy:∀p,(a.put (some m.slot) p).eval y=.agg cs') (hi:(Tryz.prog.info? m.ty).map (·.size)=some cs'.size) (hs:m.cells.size=cs'.size) (h1:cs'.all (·.oneCell')=true)
 (h:∀b w6,w0.heap.size≤b→Bx b cs' m.ty w6→Below w0.heap.size w0 w6→w.heap.size≤w6.heap.size→wpList Tryz.prog ops Q (ops.toList.drop (k+1)) (a.put (some m.slot) (.pointer (some ⟨b,0,none⟩))) w6):cZ Tryz.prog ops Q w0 late [m] w listed a:=
 Mz k hf hal hB hw fun wr hwr b hb hbl=>by
  obtain⟨w6,st,hbx,aD,hsz,_⟩:=AY (cs':=cs') hb (hw.trans (hwr.mono hw.size)) hbl hi hs h1;have hk:ops.toList.drop k=o::ops.toList.drop (k+1):=by
   exact OU
  rw[hk];refine wpList_plain hg fun K hK=>?_
  unfold Oper.wp execOp;simp only[hop,hx,hy,Sem.run_bind,st,Result.andThen_ok,Sem.run_pure];show K ((a.put (some m.slot) (.pointer (some ⟨b,0,none⟩))).put o.dst undef) w6;rw[hd];exact hK _ _ (h b w6 hb hbx aD (by rw[hsz];exact hwr.size))
def bU(j:Jd):Value:=.agg #[.int .i64 j.type,aK j.val,.int .u8 j.is]
def ll(l:List Int):List Value:=l.map (Value.int .i64)
def uu(l:List (List UInt8)):List Value:=l.map fm
def lj(l:List (List UInt8×Int×Int)):List Value:=l.flatMap fun f=>[fm f.1,.int .i64 f.2.1,.int .i64 f.2.2]
def kg(l:List (Bool×Int)):List Value:=l.flatMap fun p=>[.bool p.1,.int .i64 p.2]
def sh(w:World)(v:Value)(l:List (List Int×List Int×Bool)):Prop:=
 ∃xs:List (Value×Value),xs.length=l.length∧Rw w v l.length ((xs.zip l).flatMap fun p=>[p.1.1,p.1.2,.bool p.2.2.2])∧∀(i:Nat) (x:Value×Value) (a:List Int×List Int×Bool),xs[i]? =some x→l[i]? =some a→Rw w x.1 a.1.length (ll a.1)∧Rw w x.2 a.2.1.length (ll a.2.1)
theorem sh.later{w w':World}{v:Value}{l:List (List Int×List Int×Bool)}(h:sh w v l)(hb:Below w.heap.size w w'):sh w' v l:=by
 obtain⟨xs,h1,h2,h3⟩:=h;exact⟨xs,h1,h2.later hb,fun i x a hx ha=>⟨((h3 i x a hx ha).1).later hb,((h3 i x a hx ha).2).later hb⟩⟩
structure TS where
 A1:Option Addr
 c1:Nat
 A2:Option Addr
 c2:Nat
 A3:Option Addr
 c3:Nat
 A4:Option Addr
 c4:Nat
def QC:TS:=⟨none,0,none,0,none,0,none,0⟩
structure oc(w:World)(t:Ty)(s:TS):Prop where
 names:Rw w (.slice s.A1 t.names.length s.c1) t.names.length (uu t.names)
 fields:Rw w (.slice s.A2 t.fields.length s.c2) t.fields.length (lj t.fields)
 arms:sh w (.slice s.A3 t.arms.length s.c3) t.arms
 params:Rw w (.slice s.A4 t.params.length s.c4) t.params.length (kg t.params)
theorem oc.later{w w':World}{t:Ty}{s:TS}(h:oc w t s)(hb:Below w.heap.size w w'):oc w' t s:=
 ⟨h.names.later hb,h.fields.later hb,h.arms.later hb,h.params.later hb⟩
def bX(t:Ty)(s:TS):Array Value:=#[.int .u8 t.kind,.string ⟨t.module.toArray⟩,.string ⟨t.name.toArray⟩,.int .i64 t.base,.int .i64 t.index,.int .i64 t.low,.int .i64 t.high,.slice s.A1 t.names.length s.c1,.slice s.A2 t.fields.length s.c2,.slice s.A3 t.arms.length s.c3,.slice s.A4 t.params.length s.c4,.int .i64 t.result]
def abA(w:World)(t:Ty)(e:Ending)(w':World):Prop:=∃s,e=.returned (.agg (bX t s))∧oc w' t s∧Below w.heap.size w w'
structure ln(t:Ty):Prop where
 names:t.names.length≤1000000
 fields:t.fields.length≤1000000
 arms:t.arms.length≤1000000
 params:t.params.length≤1000000
 rows:∀a∈t.arms,a.1.length≤1000000∧a.2.1.length≤1000000
 low: -1000000≤t.low∧t.low≤1000000
 high: -1000000≤t.high∧t.high≤1000000
structure cF(w:World)(p:Nat)(T:List Ty):Prop where
 ok:∀t∈T,ln t
 len:T.length≤1024
 at_:∃b o c,w.cell? ⟨p,0,none⟩=some (.slice (some ⟨b,o,none⟩) T.length c)∧T.length≤c∧∀i t,T[i]? =some t→∃s,oc w t s∧∀j u,(bX t s)[j]? =some u→w.cell? ⟨b,o+i*12+j,none⟩=some u
theorem cF.later{w w':World}{p:Nat}{T:List Ty}(h:cF w p T)(hb:Below w.heap.size w w'):cF w' p T:=by
 refine⟨h.ok,h.len,?_⟩;obtain⟨b,o,c,h1,h2,h3⟩:=h.at_;refine⟨b,o,c,bo h1 hb,h2,fun i t ht=>?_⟩;obtain⟨s,h4,h5⟩:=h3 i t ht;exact⟨s,h4.later hb,fun j u hj=>bo (h5 j u hj) hb⟩
theorem Hf{T:List Ty}{i:Int}(h0:0≤i)(h1:i<T.length):T[i.toNat]? =some (aF T i):=by
 unfold aF;rw[if_neg (by omega),List.getD_eq_getElem?_getD,List.getElem?_eq_getElem (by omega)];rfl
theorem xd{T:List Ty}{i:Int}(h:i<0∨(T.length:Int)≤i):aF T i=dg:=by
 unfold aF;split
 ·rfl
 ·rw[List.getD_eq_getElem?_getD,List.getElem?_eq_none (by omega)];rfl
theorem abB(w:World):oc w dg QC:=
 ⟨.inl ⟨rfl,rfl,rfl⟩,.inl ⟨rfl,rfl,rfl⟩,⟨[],rfl,.inl ⟨rfl,rfl,rfl⟩,fun i x a hx=>by cases hx⟩,.inl ⟨rfl,rfl,rfl⟩⟩
theorem abC:ln dg where
 names:=by decide
 fields:=by decide
 arms:=by decide
 params:=by decide
 rows:=fun a ha=>by cases ha
 low:=by decide
 high:=by decide
theorem abD{T:List Ty}(h:∀t∈T,ln t)(i:Int):ln (aF T i):=by
 by_cases h0:0≤i∧i<T.length
 ·exact h _ (List.mem_of_getElem? (Hf h0.1 h0.2))
 ·rw[xd (by omega)];exact abC
end Go.Proofs.YtlpombjidhloiaaGreat
namespace Go.Proofs.YtlpombjidhloiaaGreat
open Go.RowKit
set_option maxRecDepth 100000
attribute [local go_sem ↓] Go.wp_at_zero Go.wp_at_succ
theorem info47:(Tryz.prog.info? 47).map (·.size)=some 12:=by kernel_rfl
theorem kP{w:World}{p:Nat}{T:List Ty}(h:cF w p T)(i:Int):Calls Tryz.prog 39 #[.pointer (some ⟨p,0,none⟩),.int .i64 i] w (abA w (aF T i)):=by
 obtain⟨b,o,c,h1,h2,h3⟩:=h.at_;have hp:=aQ h1;by_cases h0:i<0
 ·have HE:=aa (xd (T:=T) (.inl h0));exact BY
 ·by_cases hl:(T.length:Int)≤i
  ·have HE:=aa (xd (T:=T) (.inr hl));exact BY
  ·obtain⟨s,hin,hc⟩:=h3 i.toNat _ (Hf (by omega) (by omega));have HI:=aa hin;have HB:=aa (fun cs=>cB w (.cells cs 47));have k0:w.cell? ⟨b,o+i.toNat*12,none⟩=_:=hc 0 _ rfl;have hb:=aQ k0;have k1:=hc 1 _ rfl;have k2:=hc 2 _ rfl;have k3:=hc 3 _ rfl;have k4:=hc 4 _ rfl;have k5:=hc 5 _ rfl;have k6:=hc 6 _ rfl;have k7:=hc 7 _ rfl;have k8:=hc 8 _ rfl;have k9:=hc 9 _ rfl;have k10:=hc 10 _ rfl;have k11:=hc 11 _ rfl;simp only[bX,List.getElem_toArray,List.getElem_cons_zero,List.getElem_cons_succ]at k0 k1 k2 k3 k4 k5 k6 k7 k8 k9 k10 k11;generalize aF T i=t at *;clear h3 h2 hc hin;go_enter Tryz.func39,Tryz.ntmps39;go_wp2_with fail;refine bodyPost_ret (results_cell_row rfl _ _ w.heap.size _ _ (0,0) _ rfl (heap_alloc_new _ _) Tryz.underlying47 rfl ?_) rfl ?_
   ·exact info47
   exact⟨s,rfl,HI.out.later (HB.out _),HB.out _⟩
def Pv(w:World)(v:Value)(e:Ending)(w':World):Prop:=e=.returned v∧Below w.heap.size w w'
@[go_sem] theorem ai7(a0 a1 a2 a3 a4 a5 a6 a7 a8 a9 a10 a11:Value)(w:World):(Instr.field 47 (.agg #[a0,a1,a2,a3,a4,a5,a6,a7,a8,a9,a10,a11]) 0).run Tryz.prog w=.ok a0 w:=by kernel_rfl
theorem mT{w:World}{p:Nat}{T:List Ty}(h:cF w p T)(i:Int):Calls Tryz.prog 105 #[.pointer (some ⟨p,0,none⟩),.int .i64 i] w (Pv w (.int .i64 (aP T i))):=by
 have HO:=aa (kP h i);clear h;go_enter Tryz.func105,Tryz.ntmps105;go_wp2_with fail;refine(HO.out).mono ?_;rintro e w1 ⟨s,rfl,_,hb⟩;have HB:=aa (fun cs=>hb.alloc hb.size (.cells cs 47));clear hb HO;dsimp only[bX];have HR:=aa (show aP T i=if(aF T i).kind=9 then(aF T i).base else i from rfl);by_cases h9:(aF T i).kind=9
 ·go_wp2_with fail;go_ret;exact⟨by rw[HR.out,if_pos h9];rfl,HB.out _⟩
 ·have d:=beq_eq_false_iff_ne.2 h9;go_wp2_with fail;go_ret;exact⟨by rw[HR.out,if_neg h9];rfl,HB.out _⟩
theorem uL{w:World}{p:Nat}{T:List Ty}(h:cF w p T)(i:Int):Calls Tryz.prog 79 #[.pointer (some ⟨p,0,none⟩),.int .i64 i] w (Pv w (.int .u8 (bP T i))):=by
 have H:=aa h;clear h;go_enter Tryz.func79,Tryz.ntmps79;go_wp2_with fail;refine(mT H.out i).mono ?_;rintro e w1 ⟨rfl,hb⟩;have H1:=aa (H.out.later hb);have HB:=aa hb;clear hb H;go_wp2_with fail;refine(kP H1.out _).mono ?_;rintro e w2 ⟨s,rfl,_,hb⟩;have aV:=aa (HB.out.trans (hb.mono HB.out.size));clear hb HB;dsimp only[bX];go_wp2_with fail;go_ret;exact⟨rfl,aV.out⟩
theorem lU{w:World}{p:Nat}{T:List Ty}(h:cF w p T)(i:Int):Calls Tryz.prog 98 #[.pointer (some ⟨p,0,none⟩),.int .i64 i] w (Pv w (.bool (bE T i))):=by
 have HO:=aa (uL h i);have HR:=aa (show bE T i=decide (bP T i∈[1,2,5])from rfl);clear h;go_enter Tryz.func98,Tryz.ntmps98;go_wp2_with fail;refine(HO.out).mono ?_;rintro e w1 ⟨rfl,hb⟩;have HB:=aa hb;clear hb HO;generalize bP T i=k at *;by_cases h1:k=1
 ·subst h1;exact uD
 by_cases h2:k=2
 ·subst h2;exact uD
 by_cases h3:k=5
 ·subst h3;exact uD
 ·have d1:=beq_eq_false_iff_ne.2 h1;have d2:=beq_eq_false_iff_ne.2 h2;have d3:=beq_eq_false_iff_ne.2 h3;go_wp2_with fail;go_ret;exact⟨by rw[HR.out];simp[h1,h2,h3],HB.out⟩
end Go.Proofs.YtlpombjidhloiaaGreat
namespace Go.Proofs.YtlpombjidhloiaaGreat
open Go.RowKit
set_option maxRecDepth 100000
section
variable {α:Type} (key:α→Value)
def iX(w:World)(r:Nat)(o:Obj):World:={w with heap:=w.heap.setIfInBounds r o}
theorem Cc{w:World}{r:Nat}{o:Obj}(h:r<w.heap.size):(iX w r o).heap[r]? =some o:=by unfold iX;simp[h]
theorem Hg(w:World)(r:Nat)(o:Obj):(iX w r o).heap.size=w.heap.size:=by unfold iX;simp
theorem sB(w:World)(r:Nat)(o:Obj){b:Nat}(h:r≠b):(iX w r o).heap[b]? =w.heap[b]? :=by unfold iX;simp[Array.getElem?_setIfInBounds_ne h]
theorem wT{B:Nat}{a w:World}(h:Below B a w){r:Nat}(hr:B≤r)(o:Obj):Below B a (iX w r o):=
 ⟨h.os,h.tape,h.output,by rw[Hg];exact h.size,fun k hk=>(sB w r o (by omega)).trans (h.block k hk)⟩
def KM(w:World)(r:Nat)(l:List (α×Value)):Prop:=∃es clock,w.heap[r]? =some (.map es clock)∧es.toList.map (fun e=>(e.key,e.val))=l.map (fun p=>(key p.1,p.2))∧(∀e∈es.toList,e.born<clock)∧es.toList.Pairwise (fun a b=>a.born<b.born)
variable {key}
theorem KM.lt{w:World}{r:Nat}{l:List (α×Value)}(h:KM key w r l):r<w.heap.size:=by obtain⟨_,_,h,_⟩:=h;exact ld h
theorem KM.later{w w':World}{r:Nat}{l:List (α×Value)}(h:KM key w r l)(hb:Below w.heap.size w w'):KM key w' r l:=by
 have hl:=h.lt;obtain⟨es,cl,h1,h2⟩:=h;exact⟨es,cl,(hb.block r hl).trans h1,h2⟩
theorem KM.other{w w':World}{r:Nat}{l:List (α×Value)}(h:KM key w r l)(hb:w'.heap[r]? =w.heap[r]?):KM key w' r l:=by
 obtain⟨es,cl,h1,h2⟩:=h;exact⟨es,cl,hb.trans h1,h2⟩
variable (key)
def mZ(l:List (α×Value)):Array MapEntry:=(l.zipIdx.map fun p=>⟨key p.1.1,p.1.2,p.2⟩).toArray
def cC(w:World)(l:List (α×Value)):World:=iX (w.alloc (.map #[] 0)) w.heap.size (.map (mZ key l) l.length)
theorem abE(l:List (α×Value))(x:α)(v:Value):mZ key (l++[(x,v)])=(mZ key l).push ⟨key x,v,l.length⟩:=by
 unfold mZ;simp[List.zipIdx_append]
theorem QD(l:List (α×Value)):(mZ key l).toList.map (fun e=>(e.key,e.val))=l.map (fun p=>(key p.1,p.2)):=by
 unfold mZ;simp only[List.map_map];have:∀(l:List (α×Value)) (n:Nat),(l.zipIdx n).map ((fun e:MapEntry=>(e.key,e.val))∘fun p=>⟨key p.1.1,p.1.2,p.2⟩)=l.map (fun p=>(key p.1,p.2)):=by
  intro l
  induction l with
  |nil=>intro n;rfl
  |cons y l ih=>intro n;simp only[List.zipIdx_cons,List.map_cons,ih];rfl
 exact this l 0
theorem nR(w:World)(l:List (α×Value)):KM key (cC key w l) w.heap.size l:=by
 refine⟨_,_,Cc (by simp),QD key l,?_,?_⟩
 ·intro e he;simp only[mZ,List.mem_map]at he;obtain⟨p,hp,rfl⟩:=he;have:=List.mem_zipIdx_iff_getElem?.1 hp;simpa using(List.getElem?_eq_some_iff.1 this).1
 ·simp only[mZ];rw[List.pairwise_map];rw[List.pairwise_iff_getElem];intro i j hi hj hij;simp only[List.getElem_zipIdx];omega
theorem abF(w:World)(l:List (α×Value)):(cC key w l).heap.size=w.heap.size+1:=by unfold cC;rw[Hg];simp
theorem nQ(w:World)(l:List (α×Value)):Below w.heap.size w (cC key w l):=wT (cB w _) (Nat.le_refl _) _
theorem Pa(w:World)(l:List (α×Value))(b o:Nat)(h:b<w.heap.size):(cC key w l).cell? ⟨b,o,none⟩=w.cell? ⟨b,o,none⟩:=(nQ key w l).cell (p:=⟨b,o,none⟩) h
variable {key}
theorem lW{P:Program}(w:World)(t:TypeId):(Instr.makeMap t none).run P w=.ok (.map (some w.heap.size)) (cC key w []):=by
 rw[run_makeMap];congr 1;unfold cC iX World.alloc mZ;simp only[World.mk.injEq,and_true,List.zipIdx_nil,List.map_nil,List.length_nil];apply Array.ext';simp
end
section
variable {α:Type} [DecidableEq α] (key:α→Value)
def nc:List (α×Value)→α→Nat→Option (Nat×Value)
 |[],_,_=>none
 |y::l,x,i=>if y.1=x then some (i,y.2)else nc l x (i+1)
theorem Hh{l:List (α×Value)}{x:α}{i:Nat}(h:bm l x=none):nc l x i=none:=by
 induction l generalizing i with
 |nil=>rfl
 |cons y l ih=>
  unfold bm at h ih;rw[List.find?_cons]at h;unfold nc;by_cases hy:y.1=x
  ·simp[hy]at h
  ·simp only[hy,decide_false]at h;rw[if_neg hy];exact ih h
theorem QE{l:List (α×Value)}{x:α}{i:Nat}{v:Value}(h:bm l x=some v):∃j,nc l x i=some (i+j,v)∧j<l.length∧∃p,l[j]? =some p∧p.1=x∧∀u,l.set j (x,u)=fh l x u:=by
 induction l generalizing i with
 |nil=>cases h
 |cons y l ih=>
  unfold bm at h ih;rw[List.find?_cons]at h;unfold nc;by_cases hy:y.1=x
  ·simp only[hy,decide_true,Option.map_some,Option.some.injEq]at h;rw[if_pos hy];exact⟨0,by simp[h],by simp,y,rfl,hy,fun u=>by simp[fh,hy]⟩
  ·simp only[hy,decide_false]at h;rw[if_neg hy];obtain⟨j,h1,h2,p,h3,h4,h5⟩:=ih (i:=i+1) h;exact⟨j+1,by rw[h1];congr 2;omega,by simp;omega,p,by simpa using h3,h4,fun u=>by simp[fh,hy,h5 u]⟩
theorem QF{β:Type}{l:List (α×β)}{x:α}{v:β}(h:bm l x=none):fh l x v=l++[(x,v)]:=by
 induction l with
 |nil=>rfl
 |cons y l ih=>
  unfold bm at h ih;rw[List.find?_cons]at h;by_cases hy:y.1=x
  ·simp[hy]at h
  ·simp only[hy,decide_false]at h;simp[fh,hy,ih h]
structure nT(P:Program)(kt:TypeId):Prop where
 check:∀em a w,(Instr.checkKey em 10000 kt (key a)).run P w=.ok () w
 find:∀(es:List MapEntry) (l:List (α×Value)) (x:α) (w:World),es.map (fun e=>(e.key,e.val))=l.map (fun p=>(key p.1,p.2))→(Instr.findKey kt (key x) es).run P w=.ok (nc l x 0) w
 stays:∀a w,(Instr.keyThatStays (key a) (key a)).run P w=.ok (key a) w
theorem QG{d:TypeDesc}(hs:∀a b,Instr.sameNow d (key a) (key b)=some (decide (a=b))):∀(l:List (α×Value)) (es:List MapEntry) (x:α) (i:Nat),es.map (fun e=>(e.key,e.val))=l.map (fun p=>(key p.1,p.2))→Instr.findNow d (key x) es i=some (nc l x i)
 |[],[],_,_,_=>rfl
 |[],_::_,_,_,h=>by simp at h
 |_::_,[],_,_,h=>by simp at h
 |y::l,e::es,x,i,h=>by
  simp only[List.map_cons,List.cons.injEq]at h;obtain⟨h1,h2⟩:=h;have hk:e.key=key y.1:=(Prod.mk.inj h1).1;have hv:e.val=y.2:=(Prod.mk.inj h1).2;unfold Instr.findNow nc;rw[hk,hs,hv];by_cases hy:y.1=x
  ·rw[if_pos hy];simp[hy]
  ·rw[if_neg hy];have hd:decide (x=y.1)=false:=decide_eq_false (Ne.symm hy);rw[hd];exact QG hs l es x (i+1) h2
theorem Bp{P:Program}{kt:TypeId}{d:TypeDesc}(hu:P.underlying kt=some d)(hk:∀a,MapKept.IsKey d (key a))(hs:∀a b,Instr.sameNow d (key a) (key b)=some (decide (a=b)))(ht:∀a w,(Instr.keyThatStays (key a) (key a)).run P w=.ok (key a) w):nT key P kt:=
 ⟨fun em a _w=>MapKept.run_checkKey hu (hk a) em 9999,fun es l x _w h=>MapKept.run_findKey hu (QG key hs l es x 0 h),ht⟩
variable {key} {P:Program} {mty kt et:TypeId}
theorem ej(hm:P.underlying mty=some (.map kt et))(hk:nT key P kt){w:World}{r:Nat}{l:List (α×Value)}(h:KM key w r l)(x:α){v:Value}(hf:bm l x=some v):
 (Instr.lookup mty (.map (some r)) (key x) true).run P w=.ok (.tuple #[v,.bool true]) w∧(Instr.lookup mty (.map (some r)) (key x) false).run P w=.ok v w:=by
 obtain⟨es,cl,hb,he,_,_⟩:=h;obtain⟨j,hj,_⟩:=QE (i:=0) hf;have hn:=hk.find es.toList l x w he;rw[hj]at hn;constructor<;>simp[Instr.lookup,run_underlying hm,MapKept.run_getObj_map hb,hk.check,hn,Result.andThen]
theorem lY(hm:P.underlying mty=some (.map kt et))(hk:nT key P kt){z:Value}(hz:∀w,(zeroValue et).run P w=.ok z w){w:World}{r:Nat}{l:List (α×Value)}(h:KM key w r l)(x:α)(hf:bm l x=none):
 (Instr.lookup mty (.map (some r)) (key x) true).run P w=.ok (.tuple #[z,.bool false]) w∧(Instr.lookup mty (.map (some r)) (key x) false).run P w=.ok z w:=by
 obtain⟨es,cl,hb,he,_,_⟩:=h;have hn:=hk.find es.toList l x w he;rw[Hh hf]at hn;constructor<;>simp[Instr.lookup,run_underlying hm,MapKept.run_getObj_map hb,hk.check,hn,Result.andThen,hz]
theorem BA(hm:P.underlying mty=some (.map kt et))(hk:nT key P kt){w:World}{r:Nat}{l:List (α×Value)}(h:KM key w r l)(x:α)(v:Value):
 ∃o,(Instr.mapUpdate mty (.map (some r)) (key x) v).run P w=.ok () (iX w r o)∧KM key (iX w r o) r (fh l x v):=by
 have hlt:=h.lt;obtain⟨es,cl,hb,he,h1,h2⟩:=h;have hn:=hk.find es.toList l x w he;cases hf:bm l x with
 |none=>
  rw[Hh hf]at hn;refine⟨_,by
   simp[Instr.mapUpdate,run_underlying hm,MapKept.run_getObj_map hb,hk.check,hn,MapKept.run_setObj_map _ hb,Result.andThen];rfl,?_⟩
  refine⟨_,_,Cc hlt,?_,?_,?_⟩
  ·rw[QF hf];simp[he]
  ·intro e hm;simp only[Array.toList_push,List.mem_append,List.mem_singleton]at hm;rcases hm with hm|rfl
   ·have:=h1 e hm;omega
   ·exact Nat.lt_succ_self _
  ·simp only[Array.toList_push];rw[List.pairwise_append];refine⟨h2,by simp,fun a ha b hb=>?_⟩;simp only[List.mem_singleton]at hb;subst hb;exact h1 a ha
 |some u=>
  obtain⟨j,hj,hjl,p,hp,hpx,hs⟩:=QE (i:=0) hf;rw[hj,Nat.zero_add]at hn;have hes:es.toList.length=l.length:=by simpa using congrArg List.length he
  have hje:j<es.size:=by simpa using(by omega:j<es.toList.length)
  have hkey:es[j].key=key x:=by
   have h3:=congrArg (fun l=>l[j]?) he;simp only[List.getElem?_map,hp,Option.map_some]at h3;have h4:es.toList[j]? =some es[j]:=by simp[hje]
   rw[h4]at h3;simp only[Option.map_some,Option.some.injEq,Prod.mk.injEq]at h3;rw[h3.1,hpx]
  refine⟨.map (es.modify j fun e=>{e with key:=key x,val:=v}) cl,by
   simp[Instr.mapUpdate,run_underlying hm,MapKept.run_getObj_map hb,hk.check,hn,MapKept.run_setObj_map _ hb,Result.andThen,hje,hkey,hk.stays];rfl,?_⟩
  have hborn:(es.modify j fun e=>{e with key:=key x,val:=v}).toList.map (·.born)=es.toList.map (·.born):=by
   apply List.ext_getElem?;intro i;simp only[List.getElem?_map,Array.getElem?_toList,Array.getElem?_modify];split
   ·cases es[i]? <;>simp
   ·rfl
  refine⟨_,cl,Cc hlt,?_,?_,?_⟩
  ·rw[←hs v];apply List.ext_getElem?;intro i;have h5:=congrArg (fun l=>l[i]?) he;simp only[List.getElem?_map,Array.getElem?_toList,Array.getElem?_modify,List.getElem?_set]at h5 ⊢;by_cases hi:j=i
   ·subst hi;simp[hje,hjl]
   ·rw[if_neg hi,if_neg hi];exact h5
  ·intro e hem;have h6:e.born∈(es.modify j fun e=>{e with key:=key x,val:=v}).toList.map (·.born):=List.mem_map.2 ⟨e,hem,rfl⟩;rw[hborn]at h6;obtain⟨e',h7,h8⟩:=List.mem_map.1 h6;rw[←h8];exact h1 e' h7
  ·have h9:(es.toList.map (·.born)).Pairwise (· <·):=List.pairwise_map.2 h2;rw[←hborn]at h9;exact List.pairwise_map.1 h9
theorem nP(hm:P.underlying mty=some (.map kt et))(hk:nT key P kt)(w:World)(l:List (α×Value))(x:α)(v:Value)(hx:x∉l.map (·.1)):
 (Instr.mapUpdate mty (.map (some w.heap.size)) (key x) v).run P (cC key w l)=.ok () (cC key w (l++[(x,v)])):=by
 have hf:bm l x=none:=by
  unfold bm;rw[Option.map_eq_none_iff,List.find?_eq_none];intro p hp hc;have:x∈l.map (·.1):=List.mem_map.2 ⟨p,hp,of_decide_eq_true hc⟩;exact hx this
 have hb:(cC key w l).heap[w.heap.size]? =some (.map (mZ key l) l.length):=Cc (by simp);have hn:=hk.find (mZ key l).toList l x (cC key w l) (QD key l);rw[Hh hf]at hn;simp[Instr.mapUpdate,run_underlying hm,MapKept.run_getObj_map hb,hk.check,hn,MapKept.run_setObj_map _ hb,Result.andThen,←abE];unfold cC iX;simp
end
def fE(n:Int):Value:=.int .u8 n
def dC(n:Int):Value:=.int .i64 n
def eV(s:List UInt8):Value:=.string ⟨s.toArray⟩
theorem QH(k:IntKind)(a b:Int):Instr.sameNow (.int k) (.int k a) (.int k b)=some (decide (a=b)):=by
 simp only[Instr.sameNow,if_true];by_cases h:a=b
 ·simp[h]
 ·rw[decide_eq_false h];simp[h]
theorem iM{P:Program}{kt:TypeId}(h:P.underlying kt=some (.int .u8)):nT fE P kt:=
 Bp _ h (fun _=>rfl) (fun a b=>QH .u8 a b) fun a w=>by unfold fE;simp[Instr.keyThatStays,Instr.sameBits]
theorem ij{P:Program}{kt:TypeId}(h:P.underlying kt=some (.int .i64)):nT dC P kt:=
 Bp _ h (fun _=>rfl) (fun a b=>QH .i64 a b) fun a w=>by unfold dC;simp[Instr.keyThatStays,Instr.sameBits]
theorem qM(a b:List UInt8):((⟨a.toArray⟩:ByteArray)==⟨b.toArray⟩)=decide (a=b):=by
 exact QI
theorem lD{P:Program}{kt:TypeId}(h:P.underlying kt=some .string):nT eV P kt:=
 Bp _ h (fun _=>trivial) (fun a b=>by simp only[eV,Instr.sameNow];rw[qM]) fun a w=>by unfold eV;simp[Instr.keyThatStays,Instr.sameBits,qM]
end Go.Proofs.YtlpombjidhloiaaGreat
namespace Go.Proofs.YtlpombjidhloiaaGreat
open Go.RowKit
set_option maxRecDepth 100000
attribute [local go_sem ↓] Go.wp_at_zero Go.wp_at_succ
@[go_sem high] theorem ai8(w:World):(Instr.makeMap 114 none).run Tryz.prog w=.ok (.map (some w.heap.size)) (cC fE w []):=lW w _
@[go_sem] theorem ai9(w:World)(l:List (Int×Value))(x:Int)(v:Value)(hx:x∉l.map (·.1)):(Instr.mapUpdate 114 (.map (some w.heap.size)) (.int .u8 x) v).run Tryz.prog (cC fE w l)=.ok () (cC fE w (l++[(x,v)])):=nP Tryz.underlying114 (iM Tryz.underlying5) w l x v hx
def xe(a b:Int):Value:=.agg #[.int .i64 a,.int .i64 b]
def pJ:List (Int×Value):=[(1,xe (-32768) 32767),(2,xe 0 65535),(3,xe 0 1),(4,xe 0 255),(5,xe (-32768) 65535)]
theorem QJ(w:World):Calls Tryz.prog 41 #[] w (fun e w'=>∃r,e=.returned (.map (some r))∧KM fE w' r pJ∧Below w.heap.size w w'):=by
 go_enter Tryz.func41,Tryz.ntmps41;go_wp2_with fail;go_ret;exact⟨w.heap.size,rfl,nR fE w pJ,nQ fE w _⟩
theorem QK{k:Int}(h:k∈([1,2,3,4,5]:List Int)):∃a b,bm pJ k=some (.agg #[.int .i64 a,.int .i64 b])∧(a,b)=(if k=1 then(-32768,32767)else if k=2 then(0,65535)else if k=3 then(0,1)else if k=4 then(0,255)else((-32768,65535):Int×Int)):=by
 simp only[List.mem_cons,List.not_mem_nil,or_false]at h;rcases h with rfl|rfl|rfl|rfl|rfl
 all_goals exact⟨_,_,rfl,rfl⟩
theorem QL{k:Int}(h:k∉([1,2,3,4,5]:List Int)):bm pJ k=none:=by
 simp only[List.mem_cons,List.not_mem_nil,or_false,not_or]at h;simp[bm,pJ,Ne.symm h.1,Ne.symm h.2.1,Ne.symm h.2.2.1,Ne.symm h.2.2.2.1,Ne.symm h.2.2.2.2]
theorem abG(w:World):(zeroValue 112).run Tryz.prog w=.ok (.agg #[.int .i64 0,.int .i64 0]) w:=by kernel_rfl
theorem QM{w:World}{r:Nat}(h:KM fE w r pJ){k:Int}{a b:Int}(hf:bm pJ k=some (.agg #[.int .i64 a,.int .i64 b])):(Instr.lookup 114 (.map (some r)) (.int .u8 k) true).run Tryz.prog w=.ok (.tuple #[.agg #[.int .i64 a,.int .i64 b],.bool true]) w:=
 (ej Tryz.underlying114 (iM Tryz.underlying5) h k hf).1
theorem QN{w:World}{r:Nat}(h:KM fE w r pJ){k:Int}(hf:bm pJ k=none):(Instr.lookup 114 (.map (some r)) (.int .u8 k) true).run Tryz.prog w=.ok (.tuple #[.agg #[.int .i64 0,.int .i64 0],.bool false]) w:=
 (lY Tryz.underlying114 (iM Tryz.underlying5) abG h k hf).1
theorem mV{w:World}{p:Nat}{T:List Ty}(h:cF w p T)(i:Int):Calls Tryz.prog 40 #[.pointer (some ⟨p,0,none⟩),.int .i64 i] w (Pv w (.bool (bH T i))):=by
 have H:=aa h;have HR:=aa (show bH T i=decide (bP T i∈[1,2,3,4,5,8])from rfl);clear h;go_enter Tryz.func40,Tryz.ntmps40;go_wp2_with fail;refine(QJ _).mono ?_;rintro e w1 ⟨r,rfl,hk,hb⟩;have H1:=aa (H.out.later hb);have HB:=aa hb;have HK:=aa hk;clear hb H hk;go_wp2_with fail;refine(uL H1.out _).mono ?_;rintro e w2 ⟨rfl,hb⟩;have H2:=aa (H1.out.later hb);have aV:=aa (HB.out.trans (hb.mono HB.out.size));have fQ:=HK.out.later hb;clear hb HB H1 HK;have HC:=aa (fun cs=>uL (H2.out.later (cB w2 (.cells cs 112))) i);have bD:=aa (fun cs=>aV.out.alloc aV.out.size (.cells cs 112));generalize bP T i=k at *;by_cases lK:k∈([1,2,3,4,5]:List Int)
 ·obtain⟨a,b,hf,_⟩:=QK lK;have L:=QM fQ hf;have HT:=aa (show bH T i=true by rw[HR.out];simp only[List.mem_cons,List.not_mem_nil,or_false]at lK ⊢;exact decide_eq_true (by omega));clear lK hf fQ;go_wp2_with fail;go_ret;exact⟨by rw[HT.out];rfl,bD.out _⟩
 ·have L:=QN fQ (QL lK);have HN:=aa lK;clear lK fQ;go_wp2_with fail;refine(HC.out _).mono ?_;rintro e w3 ⟨rfl,hb⟩;have cd:=aa ((bD.out #[.int .i64 0,.int .i64 0]).trans (hb.mono (bD.out _).size));clear hb;have HT:=aa (show bH T i=(k==8)by rw[HR.out];have:=HN.out;simp only[List.mem_cons,List.not_mem_nil,or_false,not_or]at this ⊢;simp[this];rfl);go_wp2_with fail;go_ret;exact⟨by rw[HT.out];rfl,cd.out⟩
theorem QO:(Tryz.prog.info? 112).map (·.size)=some 2:=by kernel_rfl
theorem uA{w:World}{p:Nat}{T:List Ty}(h:cF w p T)(i:Int):Calls Tryz.prog 13 #[.pointer (some ⟨p,0,none⟩),.int .i64 i] w (Pv w (.tuple #[.int .i64 (rangeT T i).1,.int .i64 (rangeT T i).2.1,.bool (rangeT T i).2.2])):=by
 have H:=aa h;have HR:=aa (rangeT.eq_1 T i);clear h;go_enter Tryz.func13,Tryz.ntmps13;go_wp2_with fail;refine(mV H.out i).mono ?_;rintro e w1 ⟨rfl,hb⟩;have H1:=aa (H.out.later hb);have HB:=aa hb;clear hb H;cases hO:bH T i
 ·go_wp2_with fail
  go_ret3
  exact⟨by rw[HR.out,hO];rfl,HB.out⟩
 ·go_wp2_with fail;refine(kP H1.out i).mono ?_;rintro e w2 ⟨s,rfl,_,hb⟩;dsimp only[bX];have aV:=aa (HB.out.trans (hb.mono HB.out.size));clear hb HB H1;go_wp2_with fail;have q0:=(Bx.new w2 (bX (aF T i) s) 47).cell;have bD:=aa (fun cs=>aV.out.alloc aV.out.size (.cells cs 47));dsimp only[bX]at q0;have hlt:w2.heap.size<(w2.alloc (.cells (bX (aF T i) s) 47)).heap.size:=by simp
  have bD:=aa (bD.out (bX (aF T i) s));dsimp only[bX]at bD hlt;generalize w2.alloc _=w3 at *;have c0:w3.cell? ⟨w2.heap.size,0,none⟩=_:=q0 0;have c5:w3.cell? ⟨w2.heap.size,5,none⟩=_:=q0 5;have c6:w3.cell? ⟨w2.heap.size,6,none⟩=_:=q0 6;simp only[List.getElem?_toArray,List.getElem?_cons_zero,List.getElem?_cons_succ]at c0 c5 c6;clear q0;refine bh [8,9] [⟨7,8,QB,112⟩] (by kernel_rfl) ?_;refine qy (by kernel_rfl) (by intro c a d v w;cases d<;>exact Iff.rfl) (Below.refl _ _) [1,2] _ _ (by kernel_rfl) (by kernel_rfl) ?_;simp only[dX,List.filterMap,List.getElem?_toArray,List.getElem?_cons_zero,List.getElem?_cons_succ];repeat (go_big_quiet_step (fail))
  refine wpQuiet_nil ?_;refine lf (i:=0) (by kernel_rfl) (cr wZ) rfl (by kernel_rfl) (Below.refl _ _) rfl (by intro c a d v w;cases d<;>exact Iff.rfl) (fun w1 _=>?_) (fun w4 ab=>(QJ w4).mono ?_)
  ·go_simp
  rintro e w5 ⟨r,rfl,hk,hb⟩;refine⟨hb,?_⟩;have hkx:=fun x=>hk.later (lO w5 x)
  have bc:=aa (ab.trans (hb.mono ab.size));clear hk hb ab;by_cases lK:(aF T i).kind∈([1,2,3,4,5]:List Int)
  ·obtain⟨x,y,hf,hxy⟩:=QK lK;have L:=fun x=>QM (hkx x) hf
   have HX:=aa hxy;have HK:=aa lK;clear hxy lK hf;refine zS (by kernel_rfl) (cr wZ) (by intro c a d v w;cases d<;>exact Iff.rfl) bc.out [3,4,5,6] _ _ (by kernel_rfl) (by kernel_rfl) ?_;simp only[dX,List.filterMap,List.getElem?_toArray,List.getElem?_cons_zero,List.getElem?_cons_succ,List.getElem_toArray,List.getElem_cons_zero,Act.put,List.setIfInBounds_toArray,List.set_cons_zero,List.set_cons_succ];repeat (go_big_quiet_step (fail))
   refine wpQuiet_nil ?_;refine fU 8 (by kernel_rfl) wZ (by kernel_rfl) bc.out rfl rfl rfl rfl (fun _=>rfl) (fun _=>rfl) QO rfl (by simp[Value.oneCell']) (fun b w6 hB hx aD _=>?_);simp only[Act.put,List.setIfInBounds_toArray,List.set_cons_zero,List.set_cons_succ,List.drop_succ_cons,List.drop_zero];have e0:w6.cell? ⟨b,0,none⟩=_:=hx.cell 0;have e1:w6.cell? ⟨b,1,none⟩=_:=hx.cell 1;have c5:=(aD.cell (p:=⟨w2.heap.size,5,none⟩) hlt).trans c5;have c6:=(aD.cell (p:=⟨w2.heap.size,6,none⟩) hlt).trans c6;simp only[List.getElem?_toArray,List.getElem?_cons_zero,List.getElem?_cons_succ]at e0 e1;have bT:=aa (bD.out.trans (aD.mono bD.out.size));have l1:=hx.lt;have l2:w2.heap.size<w6.heap.size:=Nat.lt_of_lt_of_le hlt aD.size;clear hx aD hB hkx L;go_wp2_with fail;refine mQ (by kernel_rfl) (by kernel_rfl) ?_;repeat (go_big_quiet_step (fail))
   refine wpQuiet_nil ?_;rintro wz ⟨x9,rfl⟩;have HZ:=aa (bT.out.trans ((lO w6 x9).mono bT.out.size));go_wp2_with fail
   go_ret3
   refine⟨?_,HZ.out⟩;have h1:=HK.out;have h2:=HX.out;rw[HR.out,hO];simp only[List.mem_cons,List.not_mem_nil,or_false]at h1;unfold aJ;rcases h1 with h1|h1|h1|h1|h1
   all_goals
    rw[h1]at h2 ⊢;cases h2;rfl
  ·have L:=fun x=>QN (hkx x) (QL lK)
   have HK:=aa lK;clear lK;refine zS (by kernel_rfl) (cr wZ) (by intro c a d v w;cases d<;>exact Iff.rfl) bc.out [3,4,5,6] _ _ (by kernel_rfl) (by kernel_rfl) ?_;simp only[dX,List.filterMap,List.getElem?_toArray,List.getElem?_cons_zero,List.getElem?_cons_succ,List.getElem_toArray,List.getElem_cons_zero,Act.put,List.setIfInBounds_toArray,List.set_cons_zero,List.set_cons_succ];repeat (go_big_quiet_step (fail))
   refine wpQuiet_nil ?_;refine fU 8 (by kernel_rfl) wZ (by kernel_rfl) bc.out rfl rfl rfl rfl (fun _=>rfl) (fun _=>rfl) QO rfl (by simp[Value.oneCell']) (fun b w6 hB hx aD _=>?_);simp only[Act.put,List.setIfInBounds_toArray,List.set_cons_zero,List.set_cons_succ,List.drop_succ_cons,List.drop_zero];have e0:w6.cell? ⟨b,0,none⟩=_:=hx.cell 0;have e1:w6.cell? ⟨b,1,none⟩=_:=hx.cell 1;have c5:=(aD.cell (p:=⟨w2.heap.size,5,none⟩) hlt).trans c5;have c6:=(aD.cell (p:=⟨w2.heap.size,6,none⟩) hlt).trans c6;simp only[List.getElem?_toArray,List.getElem?_cons_zero,List.getElem?_cons_succ]at e0 e1;have bT:=aa (bD.out.trans (aD.mono bD.out.size));have l1:=hx.lt;have l2:w2.heap.size<w6.heap.size:=Nat.lt_of_lt_of_le hlt aD.size;clear hx aD hB hkx L;go_wp2_with fail;refine mQ (by kernel_rfl) (by kernel_rfl) ?_;repeat (go_big_quiet_step (fail))
   refine wpQuiet_nil ?_;rintro wz ⟨x9,rfl⟩;have HZ:=aa (bT.out.trans ((lO w6 x9).mono bT.out.size));go_wp2_with fail
   go_ret3
   refine⟨?_,HZ.out⟩;have h1:=HK.out;rw[HR.out,hO];simp only[List.mem_cons,List.not_mem_nil,or_false,not_or]at h1;unfold aJ;simp only[h1,if_false,Bool.not_true,Bool.false_eq_true];rfl
end Go.Proofs.YtlpombjidhloiaaGreat
