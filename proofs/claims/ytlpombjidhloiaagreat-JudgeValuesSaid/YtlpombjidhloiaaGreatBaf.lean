/- Small laws of the model that the walks of this seat use. What every row of this seat wants. Condition: what each theorem says. -/
import Derived.Test.YtlpombjidhloiaaGreatSc
import Derived.ProofKit
import Derived.OpenShut
import Derived.Deep.DeepHandedRow
import Derived.Carry
import Derived.LaidSub
import Derived.ChangeMaps5
import Derived.Deep.AppendSrc
import Derived.Deep.AppendLies
import Derived.Maps.AppendAt
import Derived.Orders
import Derived.RegionTactic
import Derived.OrdersHeld
import Derived.Deep.RegionHeld
namespace Go.Proofs.YtlpombjidhloiaaGreat
open Go.RowKit
def Jw(F:Result Value)(w:World):Option Value→Result Value
 |some (.int .u8 v)=>.ok (.string ⟨#[UInt8.ofNat v.toNat]⟩) w
 |_=>F
@[go_sem] theorem ajH(F:Result Value)(w:World)(v:Int):Jw F w (some (.int .u8 v))=.ok (.string ⟨#[UInt8.ofNat v.toNat]⟩) w:=rfl
def Jx(F:Result Value)(w:World):Option Value→Option Value→Result Value
 |some (.int .u8 u),some (.int .u8 v)=>.ok (.string ⟨#[UInt8.ofNat u.toNat,UInt8.ofNat v.toNat]⟩) w
 |_,_=>F
@[go_sem] theorem ajI(F:Result Value)(w:World)(u v:Int):Jx F w (some (.int .u8 u)) (some (.int .u8 v))=.ok (.string ⟨#[UInt8.ofNat u.toNat,UInt8.ofNat v.toNat]⟩) w:=rfl
@[go_sem] theorem ajJ(w:World)(b o c:Nat):(convert 129 9 (.slice (some ⟨b,o,none⟩) 1 c)).run Tryz.prog w=
 Jw ((Conv.bytesToString (.slice (some ⟨b,o,none⟩) 1 c)).run Tryz.prog w) w (w.cell? ⟨b,o,none⟩):=by
 rw[run_convert_bytes_string w 129 9 5 _ 1 c Tryz.underlying129 Tryz.underlying5 Tryz.underlying9];unfold Jw;split
 ·rename_i v h;rw[run_bytesToString w _ 1 c [v] (run_loadCells_list w _ [.int .u8 v] (fun j u hj=>by
   rcases j with _|j
   ·simp at hj;subst hj;simpa[Addr.add]using h
   ·simp at hj))]
  rfl
 ·rfl
@[go_sem] theorem ajK(w:World)(b o c:Nat):(convert 129 9 (.slice (some ⟨b,o,none⟩) 2 c)).run Tryz.prog w=
 Jx ((Conv.bytesToString (.slice (some ⟨b,o,none⟩) 2 c)).run Tryz.prog w) w (w.cell? ⟨b,o,none⟩) (w.cell? ⟨b,o+1,none⟩):=by
 rw[run_convert_bytes_string w 129 9 5 _ 2 c Tryz.underlying129 Tryz.underlying5 Tryz.underlying9];unfold Jx;split
 ·rename_i u v h1 h2;rw[run_bytesToString w _ 2 c [u,v] (run_loadCells_list w _ [.int .u8 u,.int .u8 v] (fun j x hj=>by
   rcases j with _|_|j
   ·simp at hj;subst hj;simpa[Addr.add]using h1
   ·simp at hj;subst hj;simpa[Addr.add]using h2
   ·simp at hj))]
  rfl
 ·rfl
@[go_sem] theorem ajL(a b:List UInt8):(⟨a.toArray⟩:ByteArray)++⟨b.toArray⟩=⟨(a++b).toArray⟩:=by
 apply ByteArray.ext;simp[ByteArray.data_append]
theorem nG{a a':Value}(h:a=a'):Ending.returned a=.returned a':=by rw[h]
theorem vU{a a' b b':Value}(h:a=a')(k:b=b'):Ending.returned (.tuple #[a,b])=.returned (.tuple #[a',b']):=by rw[h,k]
theorem Pp{k:IntKind}{p q:Int}(h:p=q):Value.int k p=.int k q:=by rw[h]
end Go.Proofs.YtlpombjidhloiaaGreat
namespace Go.Proofs.YtlpombjidhloiaaGreat
open Go.ChangeShapes Go.WideShapes Go.ChangeAt Go.RowKit
set_option maxRecDepth 100000
theorem own:ownKnob Tryz.prog.godebug=none:=by kernel_rfl
theorem af7:laidOutB Tryz.prog=true:=by kernel_rfl
theorem af8{H:Type}{enc:TypeId×Value→H}{P:Program}(hl:laidOutB P=true){W W':World}(hb:Below W.heap.size W W')(ts:List TypeId):∀{vs:List Value} {ds:List (DataW H)} {ps:List MemPlace},
 (∀t∈ts,P.readableRec t=true∧t<P.types.size)→DataW.TrodAll enc P W 0 (fun _=>true) true ts vs ds ps→(∀x∈ps,x.block<W.heap.size)→
  DataW.TrodAll enc P W' 0 (fun b=>decide (b<W.heap.size)) true ts vs ds ps:=by
 induction ts with
 |nil=>
  intro vs ds ps _ h _;obtain⟨rfl,rfl,rfl⟩:=trodAll_nil h;exact trodAll_mk0
 |cons t ts ih=>
  intro vs ds ps ht h hlt;obtain⟨v,vs',d,ds',p,q,rfl,rfl,rfl,h0,hr⟩:=trodAll_cons h;have h1:=ht t (List.mem_cons_self ..);exact trodAll_cons_mk (Below.trod hl h1.1 h1.2 h0 hb (fun x hx=>hlt x (List.mem_append.2 (.inl hx)))) (ih (fun u hu=>ht u (List.mem_cons_of_mem _ hu)) hr (fun x hx=>hlt x (List.mem_append.2 (.inr hx))))
theorem IN{H:Type}{enc:TypeId×Value→H}{f:Func}{s:ChangeSpec}{W W':World}{args:Array Value}{ds gs:List (DataW H)}{before:List MemPlace}
 (hW:DataW.Whole enc Tryz.prog f.params.toList s.vars false W args.toList ds gs before) (hb:Below W.heap.size W W') (hv:s.vars=[]) (hrt:f.resultTypes=#[4])
 (hts:∀t∈f.params.toList,Tryz.prog.readableRec t=true∧t<Tryz.prog.types.size) (hfn:s.fn H (ds++gs)={results:=[.lit (.bool true)],args:=ds}):
 s.post enc Tryz.prog f false true false false W args (.bool true) W':=by
 have hlt:∀p∈before,p.block<W.heap.size:=fun p hp=>hW.lt p hp
 obtain⟨p,q,hA,hV,hpq,hz,hn⟩:=hW;have WB:=hV;rw[hv]at WB;obtain⟨rfl,rfl⟩:=trodVars_none WB;refine⟨ds,[],before,[],p,[],⟨p,[],hA,hV,hpq,hz,hn⟩,?_,?_,?_,?_,fun h=>by cases h⟩
 ·rw[hfn,hrt];exact trodAll_cons_mk (shut_bool Tryz.underlying4 true) trodAll_mk0
 ·rw[hfn];exact af8 af7 hb _ hts hA (fun x hx=>hlt x (by rw[hpq];simpa using hx))
 ·rw[hfn,hv];rfl
 ·exact hb.frame _
end Go.Proofs.YtlpombjidhloiaaGreat
namespace Go.Proofs.YtlpombjidhloiaaGreat
open Go.RowKit
structure Gr where
 obs:Array Obj
 count:Nat
instance:Nonempty Gr:=⟨⟨#[],0⟩⟩
def fc(w:World)(x:Gr):World:={w with heap:=w.heap++x.obs,drawn:=x.count}
theorem MJ(w:World)(x:Gr)(b:Nat)(h:b<w.heap.size):(fc w x).heap[b]? =w.heap[b]? :=by
 unfold fc;simp[Array.getElem?_append,h]
@[go_sem] theorem ahx(w:World)(x:Gr)(b o:Nat)(h:b<w.heap.size):(fc w x).cell? ⟨b,o,none⟩=w.cell? ⟨b,o,none⟩:=
 World.cell?_of_block (w:=w) (MJ w x b h)
theorem lO(w:World)(x:Gr):Below w.heap.size w (fc w x):=
 ⟨rfl,rfl,rfl,by unfold fc;simp,fun k hk=>MJ w x k hk⟩
theorem zQ{w w':World}(h:Below w.heap.size w w'):∃x,w'=fc w x:=by
 refine⟨⟨w'.heap.extract w.heap.size w'.heap.size,w'.drawn⟩,?_⟩;have hh:w'.heap=w.heap++w'.heap.extract w.heap.size w'.heap.size:=by
  apply Array.ext_getElem?;intro i;rw[Array.getElem?_append];split
  ·rename_i hi;exact h.block i hi
  ·rename_i hi;have hs:=h.size;rw[Array.getElem?_extract];split
   ·congr 1;omega
   ·rw[Array.getElem?_eq_none];omega
 have h1:=h.os;have h2:=h.tape;have h3:=h.output;cases w';cases w;simp only[fc]at *;simp only[World.mk.injEq];exact⟨hh,h2,trivial,h1,h3⟩
theorem mQ{P:Program}{id:Nat}{Q:Exit→Act→World→Prop}{a:Act}{w:World}{l:List Oper}(hm:P.follows .mixedOrders=true)(hB:Region.lexB .any l.toArray=true)
 (h:wpQuiet P l.toArray (fun w'=>∃x,w'=fc w x) (fun a'=>∀w',(∃x,w'=fc w x)→Q .normal a' w') l a):(Code.region id l.toArray true).wp P Q a w:=
 wp_region_quiet (C:=fun w'=>∃x,w'=fc w x) hm hB (zQ (by exact⟨rfl,rfl,rfl,Nat.le_refl _,fun _ _=>rfl⟩)) (by simpa using h)
structure ET(P:Program)(t e:TypeId)(size bytes:Nat):Prop where
 und:P.underlying t=some (.slice e)
 info:∃i z,P.info? e=some i∧i.zero=some z∧i.size=size∧i.bytes=bytes∧z.cells.size=size
 pos:0<size
theorem rL{P:Program}{t e:TypeId}{z:Value}{size bytes:Nat}(hu:P.underlying t=some (.slice e))(hi:(P.info? e).map (fun i=>(i.zero,i.size,i.bytes))=some (some z,size,bytes))(hz:z.cells.size=size)(hp:0<size):ET P t e size bytes:=by
 obtain⟨i,h0,h1,h2,h3⟩:=info_parts hi;exact⟨hu,⟨i,z,h0,h1,h2,h3,hz⟩,hp⟩
structure iB(w w':World)(base:Nat)(e:TypeId)(size:Nat)(v v':Value)(n:Nat)(zs:List Value):Prop where
 own:w'.ownsRow base e size v' n zs
 grown:w.grownBy w' v.ownBlock
 place:v'.ownBlock=v.ownBlock∨v'.ownBlock=some w.heap.size
theorem iB.below{B:Nat}{w0 w w':World}{base:Nat}{e:TypeId}{size:Nat}{v v':Value}{n:Nat}{zs:List Value}(h:iB w w' base e size v v' n zs)(h0:Below B w0 w)(hB:B≤w.heap.size){m:Nat}{xs:List Value}(hown:w.ownsRow base e size v m xs)(hb:B≤base):Below B w0 w':=
 h0.grown h.grown hB (fun k hk=>Nat.le_trans hb (hown.lt k hk).1)
theorem qi{P:Program}{t e:TypeId}{size bytes:Nat}(E:ET P t e size bytes)(w:World)(cs:Array Value)(T:TypeId)(m c:Nat)(hl:cs.size=m*size)(h1:∀u∈cs.toList,u.oneCell'=true):Src P size t (.slice (some ⟨w.heap.size,0,none⟩) m c) m cs.toList (w.alloc (.cells cs T)):=
 Src.ofSlice _ E.und _ m c cs.toList (by simpa using hl) (World.news_of_block (heap_alloc_new w _)) h1
theorem KA(g:Nat){t:TypeId}{fr:Nat×Nat}:∀(vs:List Value) (o:Nat) (w:World) (cur:Array Value),w.heap[g]? =some (.cells cur t fr)→o+vs.length≤cur.size→
 ∃cur',(w.setCells g o vs).heap[g]? =some (.cells cur' t fr)∧cur'.size=cur.size∧cur'.toList.take (o+vs.length)=cur.toList.take o++vs
 |[],o,w,cur,h,_=>⟨cur,h,rfl,by simp⟩
 |v::vs,o,w,cur,h,hl=>by
  simp only[List.length_cons]at hl;have h1:(w.setCell ⟨g,o,none⟩ v).heap[g]? =some (.cells (cur.setIfInBounds o v) t fr):=by
   simp[World.setCell,Array.getElem?_modify,h]
  obtain⟨cur',h2,h3,h4⟩:=KA g vs (o+1) (w.setCell ⟨g,o,none⟩ v) (cur.setIfInBounds o v) h1 (by simp;omega);refine⟨cur',h2,by simpa using h3,?_⟩;have e1:o+(v::vs).length=o+1+vs.length:=by simp;omega
  rw[e1,h4];have ho:o<cur.toList.length:=by simp;omega
  have e2:(cur.setIfInBounds o v).toList.take (o+1)=cur.toList.take o++[v]:=by
   rw[Array.toList_setIfInBounds,List.take_set,List.take_succ_eq_append_getElem ho,List.set_append_right _ _ (by simp;omega)];simp[Nat.min_eq_left (Nat.le_of_lt (by simpa using ho):o≤cur.size)]
  rw[e2];simp
theorem KB(g:Nat):∀(vs:List Value) (o:Nat) (w:World),(w.setCells g o vs).os=w.os∧(w.setCells g o vs).tape=w.tape∧(w.setCells g o vs).output=w.output∧(w.setCells g o vs).heap.size=w.heap.size∧∀k,k≠g→(w.setCells g o vs).heap[k]? =w.heap[k]?
 |[],_,_=>⟨rfl,rfl,rfl,rfl,fun _ _=>rfl⟩
 |v::vs,o,w=>by
  obtain⟨h1,h2,h3,h4,h5⟩:=KB g vs (o+1) (w.setCell ⟨g,o,none⟩ v);exact⟨h1,h2,h3,h4.trans (by simp),fun k hk=>(h5 k hk).trans (Below.heap_setCell _ _ _ _ hk)⟩
section
variable {P:Program} {t tx e:TypeId} {size bytes:Nat}
theorem WC(E:ET P t e size bytes)(w:World)(ty:TypeId)(base:Nat)(v:Value)(n:Nat)(xs:List Value)(hown:w.ownsRow base e size v n xs)(x:Value)(m:Nat)(news:List Value)(hs:Src P size tx x m news w)
 (hbytes:(n+m)*bytes≤140737488355328) (h63:n+m≤maxLen) (hbase:base≤w.heap.size):
 ∃v' w',(Builtin.append_ #[t,tx] ty #[v,x]).run P w=.ok v' w'∧iB w w' base e size v v' (n+m) (xs++news):=by
 obtain⟨ht,⟨i,z,hi,hz,rfl,rfl,hzs⟩,hsz⟩:=E;have hl:=hs.newsLen;have hsmall:n+m≤9223372036854775807:=by simp only[maxLen]at h63;omega
 have hlen:(xs++news).length=(n+m)*i.size:=by rw[List.length_append,hown.1,hl,Nat.add_mul]
 have grown:∀(old:Nat),old<n+m→∀(row:Option Nat),
  (w.drew.alloc (.cells ((xs++news).toArray++Builtin.zeroCells z.cells (grownCap w (n+m) old e-(n+m))) e)).ownsRow base e i.size
   (.slice (some ⟨w.heap.size,0,none⟩) (n+m) (grownCap w (n+m) old e)) (n+m) (xs++news)∧
  w.grownBy (w.drew.alloc (.cells ((xs++news).toArray++Builtin.zeroCells z.cells (grownCap w (n+m) old e-(n+m))) e)) row:=by
  intro old ho row;have hge:=grownCap_ge w (n+m) old e;have hcm:grownCap w (n+m) old e≤maxLen:=grownCap_le_maxLen w (n+m) old e h63;refine⟨⟨hlen,.inr ⟨w.heap.size,_,_,rfl,hbase,heap_alloc_new w.drew _,hge,hcm,?_,?_⟩⟩,⟨rfl,rfl,rfl,by simp,fun k hk _=>Below.heap_alloc w.drew _ k hk⟩⟩
  ·simp only[Array.size_append,List.size_toArray,size_zeroCells,hzs,hlen,←Nat.add_mul];congr 1;omega
  ·simp only[Array.toList_append];rw[←hlen];exact List.take_left
 rcases hown.2 with⟨rfl,rfl⟩|⟨g,cap,cur,rfl,hbg,hg,hnc,hcm,hcs,htake⟩
 ·have hx:xs=[]:=List.eq_nil_of_length_eq_zero (by simpa using hown.1);subst hx;by_cases hm:m=0
  ·subst hm;have hn:news=[]:=List.eq_nil_of_length_eq_zero (by simpa using hl);subst hn;refine⟨.slice none 0 0,w,?_,World.ownsRow_nil w base e i.size,⟨rfl,rfl,rfl,Nat.le_refl _,fun _ _ _=>rfl⟩,Or.inl rfl⟩;rcases hs.kind with⟨e',hk⟩|hk<;>simp[Builtin.append_,run_underlying ht,run_underlying hk,sizeOf,typeInfo,hi,hs.len,hs.cells]
  ·have hr:=run_append_grow_src (P:=P) w t tx ty e i z ht hi hz none 0 0 [] (by simp[Builtin.firstCells]) x m news hs (by omega) (by omega) (by
    rw[nextslicecap_zero (by omega)];omega)
   have hgr:=grown 0 (by omega) (Value.ownBlock (.slice none 0 0));exact⟨_,_,hr,hgr.1,hgr.2,Or.inr rfl⟩
 ·by_cases hroom:n+m≤cap
  ·have hfit:n*i.size+news.length≤cur.size:=by rw[hl,hcs,←Nat.add_mul];exact Nat.mul_le_mul_right _ hroom
   have hr:=run_append_room_src (P:=P) w t tx ty e i ht hi g 0 n cap x m news hs hroom
    (fun j hj=>by
     rw[cell_of_row w g _ cur e (0,0) hg,Array.getElem?_eq_getElem (by omega)];rfl)
    (fun j hj=>by
     unfold World.frozen?;rw[hg];simp)
   simp only[Nat.zero_add]at hr;obtain⟨cur',h1,h2,h3⟩:=KA g news (n*i.size) w cur hg hfit;refine⟨_,_,hr,⟨hlen,.inr ⟨g,cap,cur',rfl,hbg,h1,hroom,hcm,by rw[h2,hcs],?_⟩⟩,?_,Or.inl rfl⟩
   ·have e1:(n+m)*i.size=n*i.size+news.length:=by rw[hl,Nat.add_mul]
    rw[e1,h3,htake]
   ·have hk:=KB g news (n*i.size) w;exact⟨hk.1,hk.2.1,hk.2.2.1,by rw[hk.2.2.2.1];exact Nat.le_refl _,fun k _ hne=>hk.2.2.2.2 k (fun e=>hne (by simp[Value.ownBlock,e]))⟩
  ·have holds:∀j u,xs[j]? =some u→w.cell? ((⟨g,0,none⟩:Addr).add j)=some u:=hown.cells (g:=g) rfl;have hr:=run_append_grow_src (P:=P) w t tx ty e i z ht hi hz (some ⟨g,0,none⟩) n cap xs (run_firstCells_some w.drew i.size n ⟨g,0,none⟩ n cap xs hown.1 (by simpa using holds)) x m news hs (by omega) (by omega) (growslice_fits (by omega) hbytes);have hgr:=grown cap (by omega) (Value.ownBlock (.slice (some ⟨g,0,none⟩) n cap));exact⟨_,_,hr,hgr.1,hgr.2,Or.inr rfl⟩
theorem KC(E:ET P t e size bytes){o:Oper}{a:Act}{w:World}{K:Act→World→Prop}{Q:Exit→Act→World→Prop}(s xo:Operand)(ho:o.op=.call {callee:=.builtin .append,args:=#[s,xo],argTypes:=#[t,tx]})
 (base:Nat) (v:Value) (n:Nat) (xs:List Value) (hsv:a.eval s=v) (hown:w.ownsRow base e size v n xs) (x:Value) (m:Nat) (news:List Value) (hxv:a.eval xo=x) (hs:Src P size tx x m news w)
 (hbytes:(n+m)*bytes≤140737488355328) (h63:n+m≤maxLen) (hbase:base≤w.heap.size)
 (h:∀v' w',iB w w' base e size v v' (n+m) (xs++news)→K (a.put o.dst v') w'):o.wp P a w K Q:=by
 obtain⟨v',w',hr,hA⟩:=WC E w o.type base v n xs hown x m news hs hbytes h63 hbase;unfold Oper.wp execOp;simp only[ho,resolve,invoke,builtin,Sem.run_bind,Sem.run_pure,Result.andThen_ok,List.map_toArray,List.map_cons,List.map_nil,hsv,hxv,hr];exact h v' w' hA
theorem jg(E:ET P t e size bytes){ops:Array Oper}{rest:List Oper}{o:Oper}{a:Act}{w:World}{Q:Exit→Act→World→Prop}(hgd:o.guard=none)(s xo:Operand)(ho:o.op=.call {callee:=.builtin .append,args:=#[s,xo],argTypes:=#[t,tx]})
 (base:Nat) (v:Value) (n:Nat) (xs:List Value) (hsv:a.eval s=v) (hown:w.ownsRow base e size v n xs) (x:Value) (m:Nat) (news:List Value) (hxv:a.eval xo=x) (hs:Src P size tx x m news w)
 (hbytes:(n+m)*bytes≤140737488355328) (h63:n+m≤maxLen) (hbase:base≤w.heap.size)
 (h:∀v' w',iB w w' base e size v v' (n+m) (xs++news)→wpList P ops Q rest (a.put o.dst v') w'):wpList P ops Q (o::rest) a w:=
 wpList_plain hgd fun _ hK=>KC E s xo ho base v n xs hsv hown x m news hxv hs hbytes h63 hbase fun v' w' hA=>hK _ _ (h v' w' hA)
theorem zc(E:ET P t e size bytes){ops:Array Oper}{o:Oper}{a:Act}{w:World}{K:Act→World→Prop}{Q:Exit→Act→World→Prop}{F:Prop}(hgd:o.guard=none)(s xo:Operand)(ho:o.op=.call {callee:=.builtin .append,args:=#[s,xo],argTypes:=#[t,tx]})
 (base:Nat) (v:Value) (n:Nat) (xs:List Value) (hsv:a.eval s=v) (hown:w.ownsRow base e size v n xs) (x:Value) (m:Nat) (news:List Value) (hxv:a.eval xo=x) (hs:Src P size tx x m news w)
 (hbytes:(n+m)*bytes≤140737488355328) (h63:n+m≤maxLen) (hbase:base≤w.heap.size)
 (h:∀v' w',iB w w' base e size v v' (n+m) (xs++news)→K (a.put o.dst v') w'):if Region.wanted o (yielded ops a.tmps)=true then Oper.wp P o a w K Q else F:=by
 have hw:Region.wanted o (yielded ops a.tmps)=true:=by simp[Region.wanted,hgd]
 rw[if_pos hw];exact KC E s xo ho base v n xs hsv hown x m news hxv hs hbytes h63 hbase h
end
theorem jG{w:World}{B:Nat}{e:TypeId}{size:Nat}{v:Value}{n:Nat}{xs:List Value}(h:w.ownsRow B e size v n xs):∃A c,v=.slice A n c:=by
 rcases h.2 with⟨rfl,rfl⟩|⟨g,cap,cur,rfl,_⟩
 ·exact⟨_,_,rfl⟩
 ·exact⟨_,_,rfl⟩
section
variable {P:Program} {ops:Array Oper} {Q:Exit→Act→World→Prop} {md:Region.Mode}
def gi(ops:Array Oper)(listed:Array Bool):Nat:=((List.range ops.size).filter fun j=>!listed.getD j false).length
theorem rZ{listed:Array Bool}{j:Nat}(h:listed.getD j true=false):listed.getD j false=false∧j<listed.size:=by
 rcases Nat.lt_or_ge j listed.size with h'|h'
 ·simp[h']at h ⊢;exact h
 ·simp[Array.getElem?_eq_none h']at h
theorem FF{listed:Array Bool}{j:Nat}(h:listed.getD j false=false)(hj:j<listed.size):listed.getD j true=false:=by
 simp[hj]at h ⊢;exact h
theorem zZ{listed:Array Bool}{j:Nat}(hj:j<listed.size):(listed.setIfInBounds j true).getD j false=true:=by simp[hj]
theorem rY{listed:Array Bool}{j:Nat}(hj:j<ops.size)(h:listed.getD j true=false):gi ops (listed.setIfInBounds j true)<gi ops listed:=by
 obtain⟨hf,hs⟩:=rZ h;have e:((List.range ops.size).filter fun i=>!(listed.setIfInBounds j true).getD i false)=((List.range ops.size).filter fun i=>!listed.getD i false).filter fun i=>decide (i≠j):=by
  rw[List.filter_filter];apply List.filter_congr;intro i _;by_cases hij:i=j
  ·subst hij;rw[zZ hs];simp
  ·rw[getD_set_ne false (Ne.symm hij)];simp[hij]
 unfold gi;rw[e,List.length_filter_lt_length_iff_exists];exact⟨j,List.mem_filter.2 ⟨List.mem_range.2 hj,by rw[hf];rfl⟩,by simp⟩
def ph(md:Region.Mode)(ops:Array Oper)(listed:Array Bool):Prop:=∀i o,ops[i]? =some o→listed.getD i false=true→∀e∈o.after,Region.binds md e=true→listed.getD e.on false=true
theorem FG(hwf:∀j o,ops[j]? =some o→∀e∈o.after,Region.binds md e=true→e.on<j){listed:Array Bool}(hs:listed.size=ops.size)(hr:Region.ready md ops listed=[]):∀j,j<ops.size→listed.getD j false=true:=by
 intro j
 induction j using Nat.strongRecOn with
 |ind j ih=>
  intro hj;cases hl:listed.getD j false with
  |true=>rfl
  |false=>
   have:j∈Region.ready md ops listed:=mem_ready.2 ⟨FF hl (by omega),ops[j],by simp[hj],fun e he hb=>by
    have hlt:=hwf j ops[j] (by simp[hj]) e he hb;exact ih e.on hlt (by omega)⟩
   rw[hr]at this;cases this
theorem wA(I:Array Bool→Act→World→Prop)(hwf:∀j o,ops[j]? =some o→∀e∈o.after,Region.binds md e=true→e.on<j)
 (hstep:∀listed a w j o,I listed a w→listed.size=ops.size→ops[j]? =some o→listed.getD j false=false→(∀e∈o.after,Region.binds md e=true→listed.getD e.on false=true)→ph md ops listed→wpOp P ops Q j (fun a' w'=>I (listed.setIfInBounds j true) a' w') a w)
 (hend:∀listed a w,I listed a w→(∀j,j<ops.size→listed.getD j false=true)→Q .normal a w):
 ∀(n:Nat) (listed:Array Bool) (a:Act) (w:World),listed.size=ops.size→ph md ops listed→gi ops listed≤n→I listed a w→wpAny P md ops Q n listed a w
 |0,listed,a,w,_,_,hn,hI=>by
  have hall:∀j,j<ops.size→listed.getD j false=true:=fun j hj=>by
   cases hl:listed.getD j false with
   |true=>rfl
   |false=>
    have:j∈(List.range ops.size).filter fun j=>!listed.getD j false:=List.mem_filter.2 ⟨List.mem_range.2 hj,by rw[hl];rfl⟩
    have:=List.length_pos_of_mem this;unfold gi at hn;omega
  refine⟨?_,hend _ _ _ hI hall⟩;apply List.eq_nil_iff_forall_not_mem.2;intro j hj;obtain⟨h0,o,ho,_⟩:=mem_ready.1 hj;have:=hall j (Array.getElem?_eq_some_iff.1 ho).1;rw[(rZ h0).1]at this;cases this
 |n+1,listed,a,w,hs,hc,hn,hI=>by
  refine⟨fun hr=>hend _ _ _ hI (FG hwf hs hr),fun j hj=>?_⟩;obtain⟨h0,o,ho,hall⟩:=mem_ready.1 hj;have hjs:j<ops.size:=(Array.getElem?_eq_some_iff.1 ho).1;refine wpOp_mono (fun a' w' h=>wA I hwf hstep hend n _ a' w' (by simpa using hs) ?_ ?_ h) (hstep listed a w j o hI hs ho (rZ h0).1 hall hc)
  ·intro i o' ho' hi e he hb;by_cases hij:i=j
   ·subst hij;rw[ho]at ho';cases ho';exact getD_set_true (hall e he hb)
   ·rw[getD_set_ne false (Ne.symm hij)]at hi;exact getD_set_true (hc i o' ho' hi e he hb)
  ·have:=rY (ops:=ops) hjs h0;omega
theorem FH{id:Nat}{a:Act}{w:World}(hm:P.follows .mixedOrders=true)(I:Array Bool→Act→World→Prop)(hwf:∀j o,ops[j]? =some o→∀e∈o.after,Region.binds .any e=true→e.on<j)
 (hstep:∀listed a w j o,I listed a w→listed.size=ops.size→ops[j]? =some o→listed.getD j false=false→(∀e∈o.after,Region.binds .any e=true→listed.getD e.on false=true)→ph .any ops listed→wpOp P ops Q j (fun a' w'=>I (listed.setIfInBounds j true) a' w') a w)
 (hend:∀listed a w,I listed a w→(∀j,j<ops.size→listed.getD j false=true)→Q .normal a w)
 (h:I (Array.replicate ops.size false) a w.drew):(Code.region id ops true).wp P Q a w:=
 wp_region_any hm (wA I hwf hstep hend _ _ _ _ (by simp) (fun i o _ hi=>by
  exfalso;rcases Nat.lt_or_ge i ops.size with h'|h'
  ·simp[h']at hi
  ·simp[h']at hi) (by unfold gi;exact Nat.le_trans (List.length_filter_le _ _) (by simp)) h)
end
section
variable {P:Program} {ops:Array Oper} {Q:Exit→Act→World→Prop} {md:Region.Mode} {S S2:World→Prop} {late:List Nat}
def iH(P:Program)(md:Region.Mode)(ops:Array Oper)(Q:Exit→Act→World→Prop)(S S2:World→Prop)(late:List Nat):Nat→Array Bool→Act→World→Prop
 |0,listed,a,w=>Region.ready md ops listed=[]∧Q .normal a w
 |n+1,listed,a,w=>(Region.ready md ops listed=[]→Q .normal a w)∧∀j∈Region.ready md ops listed,
   wpOp P ops Q j (fun a' w'=>S2 w'∧if late.contains j then wpAnyH P md ops Q S2 n (listed.setIfInBounds j true) a' w' else S w'∧iH P md ops Q S S2 late n (listed.setIfInBounds j true) a' w') a w
theorem MF:∀(n:Nat) (listed:Array Bool) (a:Act) (w:World),iH P md ops Q S S2 late n listed a w→wpAny P md ops Q n listed a w
 |0,_,_,_,h=>h
 |n+1,listed,_,_,h=>⟨h.1,fun j hj=>wpOp_mono (fun a' w' h'=>by
   replace h':=h'.2
   cases hl:late.contains j
   ·rw[hl]at h';exact MF n _ a' w' h'.2
   ·rw[hl]at h';exact wpAny_of_held _ _ _ _ h') (h.2 j hj)⟩
theorem MG{i j:Nat}{listed:Array Bool}(hl:∀oj,ops[j]? =some oj→∃e∈oj.after,Region.binds md e=true∧e.on=i)(hi:i∈Region.ready md ops listed):j∉Region.ready md ops listed:=fun hj=>by
 obtain⟨_,oj,hoj,hall⟩:=mem_ready.1 hj;obtain⟨e,he,hb,heq⟩:=hl oj hoj;have h1:=hall e he hb;have h0:=(mem_ready.1 hi).1;rw[heq]at h1;rcases Nat.lt_or_ge i listed.size with h|h
 ·simp[h]at h0 h1;rw[h0]at h1;cases h1
 ·simp[Array.getElem?_eq_none h]at h1
theorem MH{i:Nat}{oi:Oper}{v:Value}(hi:ops[i]? =some oi)(hsel:∀(j:Nat) (o:Oper) cs b,ops[j]? =some o→o.op≠.select cs b)(hQ:∀c a w,Q (.panic c) (a.put oi.dst v) w→Q (.panic c) a w)
 (hlate:∀j,late.contains j=true→∀oj,ops[j]? =some oj→∃e∈oj.after,Region.binds md e=true∧e.on=i):
 ∀(n:Nat) (listed:Array Bool) (a:Act) (w:World),(∀j oj,ops[j]? =some oj→j≠i→listed.getD j true=false→(∀e∈oj.after,Region.binds md e=true→e.on≠i)→oi.apart ops oj=true)→
  i∈Region.ready md ops listed→YieldsIf P ops S oi v a→S w→S2 w→late.contains i=false→iH P md ops Q S S2 late n (listed.setIfInBounds i true) (a.put oi.dst v) w→iH P md ops Q S S2 late (n+1) listed a w
 |n,listed,a,w,hfree,hr,hy,hS,oH,hil,H=>by
  refine⟨fun h=>absurd hr (by rw[h];exact List.not_mem_nil),fun j hj=>?_⟩;by_cases hji:j=i
  ·exact Fz
  have hjl:late.contains j=false:=by
   cases hc:late.contains j
   ·rfl
   ·exact absurd hj (MG (hlate j hc) hr)
  cases n with
  |zero=>
   exact zT
  |succ n=>
   have h1:=H.2 j (ready_mono hj hji);obtain⟨hjun,oj,hoj,hall⟩:=mem_ready.1 hj;have hnot:∀e∈oj.after,Region.binds md e=true→e.on≠i:=fun e he hb heq=>by
    exact zU
   have h2:=wpOp_putIf hoj (hfree j oj hoj hji hjun hnot) (fun cs b=>hsel i oi cs b hi) (fun cs b=>hsel j oj cs b hoj) hQ hy h1;refine wpOp_mono (fun a' w' h3=>?_) h2;obtain⟨hy',h5,h4⟩:=h3;rw[hjl]at h4 ⊢;refine⟨h5,h4.1,MH hi hsel hQ hlate n _ a' w' (fun k ok hk hki hun hno=>hfree k ok hk hki ?_ hno) (ready_mono hr (Ne.symm hji)) hy' h4.1 h5 hil ?_⟩
   ·exact zV
   ·exact zW
theorem MI{i:Nat}{oi:Oper}{v:Value}(hi:ops[i]? =some oi)(hsel:∀(j:Nat) (o:Oper) cs b,ops[j]? =some o→o.op≠.select cs b)(hQ:∀c a w,Q (.panic c) (a.put oi.dst v) w→Q (.panic c) a w):
 ∀(n:Nat) (listed:Array Bool) (a:Act) (w:World),(∀j oj,ops[j]? =some oj→j≠i→listed.getD j true=false→(∀e∈oj.after,Region.binds md e=true→e.on≠i)→oi.apart ops oj=true)→
  i∈Region.ready md ops listed→YieldsIf P ops S2 oi v a→S w→S2 w→late.contains i=false→iH P md ops Q S S2 late n (listed.setIfInBounds i true) (a.put oi.dst v) w→iH P md ops Q S S2 late (n+1) listed a w
 |n,listed,a,w,hfree,hr,hy,hS,oH,hil,H=>by
  refine⟨fun h=>absurd hr (by rw[h];exact List.not_mem_nil),fun j hj=>?_⟩;by_cases hji:j=i
  ·subst hji;exact hy.wpOp hi oH ⟨oH,by rw[hil];exact⟨hS,H⟩⟩
  cases n with
  |zero=>
   exact zT
  |succ n=>
   have h1:=H.2 j (ready_mono hj hji);obtain⟨hjun,oj,hoj,hall⟩:=mem_ready.1 hj;have hnot:∀e∈oj.after,Region.binds md e=true→e.on≠i:=fun e he hb heq=>by
    exact zU
   have h2:=wpOp_putIf hoj (hfree j oj hoj hji hjun hnot) (fun cs b=>hsel i oi cs b hi) (fun cs b=>hsel j oj cs b hoj) hQ hy h1;have hfree':∀k ok,ops[k]? =some ok→k≠i→(listed.setIfInBounds j true).getD k true=false→(∀e∈ok.after,Region.binds md e=true→e.on≠i)→oi.apart ops ok=true:=fun k ok hk hki hun hno=>by
    refine hfree k ok hk hki ?_ hno;exact zV
   refine wpOp_mono (fun a' w' h3=>?_) h2;obtain⟨hy',h5,h4⟩:=h3;refine⟨h5,?_⟩;cases hc:late.contains j
   ·rw[hc]at h4;refine⟨h4.1,MI hi hsel hQ n _ a' w' hfree' (ready_mono hr (Ne.symm hji)) hy' h4.1 h5 hil ?_⟩;exact zW
   ·rw[hc]at h4;refine wpAnyH_first hi hsel hQ n _ a' w' hfree' (ready_mono hr (Ne.symm hji)) hy' h5 ?_;rw[Array.setIfInBounds_comm _ _ hji];exact h4
def Fw(md:Region.Mode)(ops:Array Oper)(late:List Nat)(i:Nat):Bool:=late.all fun j=>match ops[j]? with
 |some oj=>oj.after.any fun e=>Region.binds md e&&e.on==i
 |none=>true
theorem Xx{i:Nat}(h:Fw md ops late i=true)(j:Nat)(hj:late.contains j=true)(oj:Oper)(ho:ops[j]? =some oj):∃e∈oj.after,Region.binds md e=true∧e.on=i:=by
 have:=List.all_eq_true.1 h j (by simpa using hj);rw[ho]at this;obtain⟨e,he,hb⟩:=Array.any_eq_true'.1 this;exact MB
theorem Xk{i:Nat}{oi:Oper}{v:Value}{n:Nat}{listed:Array Bool}{a:Act}{w:World}(hi:ops[i]? =some oi)(hs:Region.noSelect ops=true)(hf:Region.free md ops listed i=true)(hr:(Region.ready md ops listed).contains i=true)
 (hl:Fw md ops late i=true) (hil:late.contains i=false) (hQ:∀c a w,Q (.panic c) (a.put oi.dst v) w→Q (.panic c) a w) (hy:YieldsIf P ops S oi v a) (hS:S w) (oH:S2 w)
 (h:iH P md ops Q S S2 late n (listed.setIfInBounds i true) (a.put oi.dst v) w):iH P md ops Q S S2 late (n+1) listed a w:=
 MH hi (Region.noSelect_spec hs) hQ (Xx hl) n listed a w (Region.free_spec hi hf) (by simpa using hr) hy hS oH hil h
theorem Xn{i:Nat}{oi:Oper}{v:Value}{n:Nat}{listed:Array Bool}{a:Act}{w:World}(hi:ops[i]? =some oi)(hs:Region.noSelect ops=true)(hf:Region.free md ops listed i=true)(hr:(Region.ready md ops listed).contains i=true)
 (hil:late.contains i=false) (hQ:∀c a w,Q (.panic c) (a.put oi.dst v) w→Q (.panic c) a w) (hy:YieldsIf P ops S2 oi v a) (hS:S w) (oH:S2 w)
 (h:iH P md ops Q S S2 late n (listed.setIfInBounds i true) (a.put oi.dst v) w):iH P md ops Q S S2 late (n+1) listed a w:=
 MI hi (Region.noSelect_spec hs) hQ n listed a w (Region.free_spec hi hf) (by simpa using hr) hy hS oH hil h
theorem Xp{id:Nat}{a:Act}{w:World}(S S2:World→Prop)(late:List Nat)(hm:P.follows .mixedOrders=true)(h:iH P .any ops Q S S2 late ops.size (Array.replicate ops.size false) a w.drew):(Code.region id ops true).wp P Q a w:=
 wp_region_any hm (MF _ _ _ _ h)
end
end Go.Proofs.YtlpombjidhloiaaGreat
