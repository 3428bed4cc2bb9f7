/- What is known of a call is what it answers. A region's operations in two parts. Condition: what each theorem says. -/
import Derived.Test.YtlpombjidhloiaaGreatBbj
import Derived.Test.YtlpombjidhloiaaGreatProg
import Derived.Maps.RangeRun
import Derived.Lib.IndexMore
import Derived.Sort.KeysCollected
import Derived.Sort.EncStr
namespace Go.Proofs.YtlpombjidhloiaaGreat.Eng
theorem afI{u v:Value}(h:zE u v=true):u=v:=by
 unfold zE at h;split at h<;>first|rfl|(cases h;done)|skip
 ·rw[Bool.and_eq_true]at h;rw[Nat.eq_of_beq_eq_true h.1,Nat.eq_of_beq_eq_true h.2]
 ·rw[Nat.eq_of_beq_eq_true h]
theorem afJ{a b:Cp}(h:LZ a b=true):a=b:=by
 cases a<;>cases b<;>first|(cases h;done)|(rw[Nat.eq_of_beq_eq_true (show Nat.beq _ _=true from h)])
theorem UU:∀{l m:List Nat},gA l m=true→l=m
 |[],[],_=>rfl
 |[],_::_,h=>by cases h
 |_::_,[],h=>by cases h
 |a::l,b::m,h=>by
  replace h:(Bool.rec false (gA l m) (Nat.beq a b):Bool)=true:=h
  cases hb:Nat.beq a b with
  |false=>rw[hb]at h;cases h
  |true=>rw[hb]at h;rw[Nat.eq_of_beq_eq_true hb,UU h]
section
variable {e:En} {k:Nat}
mutual
theorem uw:∀{x y:AV} {v:Value},mO x y=true→R e k y v→R e k x v
 |.bot,_,_,_,_=>trivial
 |.int kd n,y,v,h,hR=>by
  replace h:Ff kd n y=true:=h
  cases y<;>first|(cases h;done)|skip
  have h:=(Bool.and_eq_true _ _).mp h;rw[of_decide_eq_true h.1,of_decide_eq_true h.2];exact hR
 |.bool b,y,v,h,hR=>by
  replace h:Fg b y=true:=h
  cases y<;>first|(cases h;done)|skip
  rw[eq_of_beq (show(b==_)=true from h)];exact hR
 |.str l,y,v,h,hR=>by
  replace h:Fh l y=true:=h
  cases y<;>first|(cases h;done)|skip
  rw[UU (show gA l _=true from h)];exact hR
 |.lit u,y,v,h,hR=>by
  replace h:Fi u y=true:=h
  cases y<;>first|(cases h;done)|skip
  rw[afI (show zE u _=true from h)];exact hR
 |.ptr b o,y,v,h,hR=>by
  replace h:Fj b o y=true:=h
  cases y<;>first|(cases h;done)|skip
  have h:=(Bool.and_eq_true _ _).mp h;rw[Nat.eq_of_beq_eq_true h.1,Nat.eq_of_beq_eq_true h.2];exact hR
 |.slc b o n c,y,v,h,hR=>by
  replace h:Fk b o n c y=true:=h
  cases y<;>first|(cases h;done)|skip
  have h:=(Bool.and_eq_true _ _).mp h;have h1:=(Bool.and_eq_true _ _).mp h.1;have h2:=(Bool.and_eq_true _ _).mp h.2;rw[Nat.eq_of_beq_eq_true h1.1,Nat.eq_of_beq_eq_true h1.2,Nat.eq_of_beq_eq_true h2.1,afJ h2.2];exact hR
 |.map b,y,v,h,hR=>by
  replace h:Fm b y=true:=h
  cases y<;>first|(cases h;done)|skip
  rw[Nat.eq_of_beq_eq_true (show Nat.beq b _=true from h)];exact hR
 |.agg l,y,v,h,hR=>by
  replace h:Fo (jX l) y=true:=h
  cases y<;>first|(cases h;done)|skip
  obtain⟨cs,h1,h2⟩:=hR;exact⟨cs,h1,yg (show jX l _=true from h) h2⟩
 |.tup l,y,v,h,hR=>by
  replace h:Fp (jX l) y=true:=h
  cases y<;>first|(cases h;done)|skip
  obtain⟨cs,h1,h2⟩:=hR;exact⟨cs,h1,yg (show jX l _=true from h) h2⟩
 |.ifc t a,y,v,h,hR=>by
  replace h:Fq t (mO a) y=true:=h
  cases y<;>first|(cases h;done)|skip
  have h:=(Bool.and_eq_true _ _).mp h;obtain⟨u,h1,h2⟩:=hR;rw[Nat.eq_of_beq_eq_true h.1];exact⟨u,h1,uw h.2 h2⟩
 |.fn f a c,y,v,h,hR=>by
  replace h:Fs f (jX a) (jX c) y=true:=h
  cases y<;>first|(cases h;done)|skip
  have h:=(Bool.and_eq_true _ _).mp h;have h2:=(Bool.and_eq_true _ _).mp h.2;obtain⟨p,q,h3,h4,h5⟩:=hR;rw[Nat.eq_of_beq_eq_true h.1];exact⟨p,q,h3,yg h2.1 h4,yg h2.2 h5⟩
 |.cls _ _ _,_,_,h,_=>by cases h
 |.emp,y,v,h,hR=>by
  replace h:Ft y=true:=h
  cases y<;>first|(cases h;done)|exact hR
theorem yg:∀{l m:List AV} {vs:List Value},jX l m=true→RL e k m vs→RL e k l vs
 |[],[],_,_,hR=>hR
 |[],_::_,_,h,_=>by cases h
 |_::_,[],_,h,_=>by cases h
 |a::l,b::m,vs,h,hR=>by
  replace h:and (mO a b) (jX l m)=true:=h
  have h:=(Bool.and_eq_true _ _).mp h;obtain⟨v,us,h1,h2,h3⟩:=hR;exact⟨v,us,h1,uw h.1 h2,yg h.2 h3⟩
end
end
theorem AA:∀{l m:List AV},jX l m=true→l.length=m.length∧∀(j:Nat) (a:AV),l[j]? =some a→∃b,m[j]? =some b∧mO a b=true
 |[],[],_=>⟨rfl,fun j a h=>by simp at h⟩
 |[],_::_,h=>by cases h
 |_::_,[],h=>by cases h
 |x::l,y::m,h=>by
  replace h:and (mO x y) (jX l m)=true:=h
  have h:=(Bool.and_eq_true _ _).mp h;obtain⟨h1,h2⟩:=AA h.2;refine⟨by simp[h1],fun j a hj=>?_⟩;cases j with
  |zero=>cases hj;exact⟨y,rfl,h.1⟩
  |succ j=>exact h2 j a hj
theorem UV{c:T (List AV)}:∀{lit:List (List AV)} {i:Nat},zF lit c i=true→∀(j:Nat) (l:List AV),lit[j]? =some l→fL l=true∧∃m,c.at_ (i+j)=some m∧jX l m=true
 |[],_,_,j,l,h=>by simp at h
 |x::lit,i,h,j,l,hj=>by
  replace h:and (and (fL x) (Option.rec false (fun m=>jX x m) (c.at_ i))) (zF lit c (i+1))=true:=h
  have h:=(Bool.and_eq_true _ _).mp h;have h1:=(Bool.and_eq_true _ _).mp h.1;cases j with
  |zero=>
   cases hj;cases hc:c.at_ i with
   |none=>rw[hc]at h1;cases(show false=true from h1.2)
   |some m=>rw[hc]at h1;exact⟨h1.1,m,rfl,h1.2⟩
  |succ j=>
   obtain⟨h0,m,h1,h2⟩:=UV h.2 j l hj;exact⟨h0,m,by rw[←h1];congr 1;omega,h2⟩
theorem Nz{c0:Nat}{h:T bk}:∀{l:List OB},zH c0 h l=true→∀o∈l,c0≤o.b∧zG o (h.at_ o.b)=true
 |[],_,o,ho=>by simp at ho
 |x::l,hh,o,ho=>by
  replace hh:and (and (Nat.ble c0 x.b) (zG x (h.at_ x.b))) (zH c0 h l)=true:=hh
  have hh:=(Bool.and_eq_true _ _).mp hh;rcases List.mem_cons.1 ho with rfl|ho
  ·have h1:=(Bool.and_eq_true _ _).mp hh.1;exact⟨Nat.le_of_ble_eq_true h1.1,h1.2⟩
  ·exact Nz hh.2 o ho
theorem YN [FX]{e:En}{k b:Nat}{x:OB}{o:bk}{r:Obj}(h:zG x (some o)=true)(hR:RO e k b o r):RO e k b x.obj r:=by
 cases o with
 |cells c n size t room=>
  replace h:and (and (zF x.rows c 0) (Nat.beq (cK x.rows) n)) (and (Nat.beq x.size size) (and (Nat.beq x.t t) (x.room==room)))=true:=h
  have h:=(Bool.and_eq_true _ _).mp h;have h1:=(Bool.and_eq_true _ _).mp h.1;have h2:=(Bool.and_eq_true _ _).mp h.2;have h3:=(Bool.and_eq_true _ _).mp h2.2;have hn:=Nat.eq_of_beq_eq_true h1.2;have hs:=Nat.eq_of_beq_eq_true h2.1;have ht:=Nat.eq_of_beq_eq_true h3.1;have hro:=eq_of_beq h3.2;obtain⟨cs,fz,q1,q2,q3,q4,q5⟩:=hR;show RO e k b (.cells (fR x.rows 0 .leaf) (cK x.rows) x.size x.t x.room) r;rw[hn,hs,ht,hro];refine⟨cs,fz,q1,q2,q3,q4,fun i l hi=>?_⟩;rw[qF,Nat.zero_add,T.at_leaf]at hi;by_cases hc:0≤i∧i<x.rows.length
  ·rw[if_pos hc,Nat.sub_zero]at hi;obtain⟨h0,m,h4,h5⟩:=UV h1.1 i l hi;rw[Nat.zero_add]at h4;obtain⟨h6,h7,h8⟩:=q5 i m h4;obtain⟨h9,h10⟩:=AA h5;refine⟨h6,by rw[h9,h7],fun j a hj=>?_⟩;obtain⟨y,h11,h12⟩:=h10 j a hj;obtain⟨h13,v,h14,h15⟩:=h8 j y h11;exact⟨oD h0 a (List.mem_of_getElem? hj),v,h14,uw h12 h15⟩
  ·rw[if_neg hc]at hi;cases hi
 |map kk es=>cases h
 |siter l p=>cases h
theorem aZ.none [FX]{e:En}{w:World}(h:∀g o,FX.F g=some o→w.heap[g]? =some o)(c:Nat):aZ e ⟨.leaf,c,[]⟩ w:=
 ⟨fun b o hb=>(by rw[T.at_leaf]at hb;cases hb),fun b o b' o' hb=>(by rw[T.at_leaf]at hb;cases hb),fun g o hg=>⟨h g o hg,fun b o' hb=>(by rw[T.at_leaf]at hb;cases hb)⟩⟩
theorem Ym [FX]{P:Program}{B:Tb}(ht:bS P B)(hX:ug P B)(hmx:P.follows .mixedOrders=true){n f:Nat}{args:List AV}{vs:Array Value}{w:World}(hx:B.ext.at_ f=none)(h:zI (run B n (.fn f args ⟨.leaf,1000,[]⟩))=true)(hl:∀e,RL e 1000 args vs.toList)(hfx:∀g o,FX.F g=some o→w.heap[g]? =some o):
 Calls P f vs w fun en w'=>en=.returned (.bool true)∧RowKit.Below w.heap.size w w':=by
 let e:En:=⟨id,fun _=>0,fun _=>true,fun _=>none⟩
 have cT:aZ e ⟨.leaf,1000,[]⟩ w:=aZ.none (e:=e) hfx 1000;have hgl:Gl e 1000:=fun g hg=>⟨hg,rfl,rfl⟩
 cases hrun:run B n (.fn f args ⟨.leaf,1000,[]⟩)with
 |ret v s'=>
  rw[hrun]at h;unfold zI at h;split at h<;>first|(cases h;done)|skip
  rename_i s2 heq;injection heq with h1 h2
  subst h1 h2;refine(Ny ht hX hmx hx hrun cT hgl (hl e)).mono fun en w' hh=>?_
  obtain⟨e',u,rfl,st,hu⟩:=hh;rw[show u=.bool true from hu];exact⟨rfl,st.os,st.tape,st.output,st.size,fun k hk=>st.kp k hk fun b o hb=>by rw[T.at_leaf]at hb;cases hb⟩
 |ok _ _ _ _=>rw[hrun]at h;cases h
 |pan _ _ _ _=>rw[hrun]at h;cases h
 |okR _ _ _ _=>rw[hrun]at h;cases h
 |retR _ _=>rw[hrun]at h;cases h
 |bad _=>rw[hrun]at h;cases h
def sT(Q:Exit→Act→World→Prop)(K:Act→World→Prop):Exit→Act→World→Prop
 |.normal,a,w=>K a w
 |ex,a,w=>Q ex a w
section
variable {P:Program} {ops:Array Oper} {Q:Exit→Act→World→Prop} {K:Act→World→Prop}
theorem sT.lets(h:LetsOut (sT Q K)):LetsOut Q:=let⟨a,w,q⟩:=h;⟨a,w,q⟩
theorem Oper.wp_cut [FX]{o:Oper}{a:Act}{w:World}{N N':Act→World→Prop}(h:∀a w,N a w→N' a w)(hh:o.wp P a w N (sT Q K)):o.wp P a w N' Q:=by
 unfold Oper.wp at *;generalize(execOp a.eval o).run P w=r at *;cases r with
 |ok n w'=>
  cases n<;>simp only[Oper.upon]at hh ⊢ <;>
   first
    |exact h _ _ hh
    |exact Calls.mono hh (fun e w'' he=>by cases e<;>first|exact h _ _ he|exact sT.lets he|exact he)
    |exact Rows.mono hh (fun _ _ he=>h _ _ he)
 |halt x w'=>cases x<;>simp only[Oper.upon]at hh ⊢ <;>exact hh
theorem jg [FX]:∀(l l':List Oper) {a:Act} {w:World},wpList P ops (sT Q (wpList P ops Q l')) l a w→wpList P ops Q (l++l') a w
 |[],l',a,w,h=>h
 |o::l,l',a,w,h=>by
  rw[List.cons_append];unfold wpList at h ⊢;split
  ·rename_i hw;rw[if_pos hw]at h;exact h.imp (Oper.wp_cut fun a w=>jg l l') fun q=>⟨q.1,sT.lets q.2⟩
  ·rename_i hw;rw[if_neg hw]at h;exact jg l l' h
theorem XZ [FX]{l l':List Oper}(e:ops.toList=l++l'){a:Act}{w:World}(h:wpList P ops (sT Q (wpList P ops Q l')) l a w):wpList P ops Q ops.toList a w:=by
 rw[e];exact jg l l' h
end
theorem RO.perm{e:En}{k b:Nat}{kk:KK}{es es':List (AV×AV)}{r:Obj}(hp:es'.Perm es)(h:RO e k b (.map kk es) r):RO e k b (.map kk es') r:=by
 obtain⟨ents,clock,l,h1,h2,h3⟩:=h;exact⟨ents,clock,l,h1,h2,⟨hp.trans h3.1.1,h3.1.2⟩,h3.2⟩
theorem aZ.perm [FX]{e:En}{s:St}{w:World}(h:aZ e s w){b:Nat}{kk:KK}{es es':List (AV×AV)}(hb:s.heap.at_ b=some (.map kk es))(hp:es'.Perm es){s':St}(hn:s'.next=s.next)(hs:∀c,s'.heap.at_ c=if b=c then some (.map kk es')else s.heap.at_ c):aZ e s' w:=by
 have hold:∀c o,s'.heap.at_ c=some o→∃o',s.heap.at_ c=some o'∧∀r,RO e s.next c o' r→RO e s.next c o r:=fun c o hc=>by
  rw[hs]at hc;by_cases hbc:b=c
  ·subst hbc;rw[if_pos rfl]at hc;cases hc;exact⟨_,hb,fun r q=>q.perm hp⟩
  ·rw[if_neg hbc]at hc;exact⟨o,hc,fun r q=>q⟩
 refine⟨fun c o hc=>?_,fun c o c' o' hc hc' he=>?_,fun g o hg=>⟨(h.fx g o hg).1,fun c o' hc=>?_⟩⟩
 ·obtain⟨o',h1,h2⟩:=hold c o hc;obtain⟨q1,q2,r,q3,q4⟩:=h.obj c o' h1;rw[hn];exact⟨q1,q2,r,q3,h2 r q4⟩
 ·obtain⟨o1,h1,_⟩:=hold c o hc;obtain⟨o2,h2,_⟩:=hold c' o' hc';exact h.inj c o1 c' o2 h1 h2 he
 ·obtain⟨o1,h1,_⟩:=hold c o' hc;exact(h.fx g o hg).2 c o1 h1
end Go.Proofs.YtlpombjidhloiaaGreat.Eng
namespace Go.Proofs.YtlpombjidhloiaaGreat.Eng
open Go.ChangeMaps (setBlock)
structure sU(k:Nat)(w w':World):Prop where
 os:w'.os=w.os
 tape:w'.tape=w.tape
 output:w'.output=w.output
 size:w'.heap.size=w.heap.size
 at_:∀j,j≠k→w'.heap[j]? =w.heap[j]?
theorem sU.of{k:Nat}{w w1:World}(h:w1=w∨w1=w.drew)(o:Obj):sU k w (setBlock w1 k o):=by
 rcases h with rfl|rfl
 ·exact UW
 ·exact UW
theorem aW.side [FX]{e0 e:En}{s0 s:St}{w0 w w':World}(h:aW e0 s0 w0 e s w){k:Nat}(hk:w0.heap.size≤k)(hn:∀b o,s.heap.at_ b=some o→e.σ b≠k)(hf:∀g o,FX.F g=some o→g≠k)(hb:sU k w w'):aW e0 s0 w0 e s w' where
 rep:=⟨fun b o h1=>by
  obtain⟨q1,q2,r,q3,q4⟩:=h.rep.obj b o h1;exact⟨q1,by rw[hb.size];exact q2,r,by rw[hb.at_ _ (hn b o h1)];exact q3,q4⟩,h.rep.inj,fun g o hg=>⟨by rw[hb.at_ _ (hf g o hg)];exact(h.rep.fx g o hg).1,(h.rep.fx g o hg).2⟩⟩
 ext:=h.ext
 nx:=h.nx
 own:=h.own
 os:=hb.os.trans h.os
 tape:=hb.tape.trans h.tape
 output:=hb.output.trans h.output
 size:=by rw[hb.size];exact h.size
 kp:=fun j hj hj'=>by rw[hb.at_ _ (by omega)];exact h.kp j hj hj'
 lg:=h.lg
 fx:=h.fx
theorem aW.more [FX]{e0 e:En}{s0 s:St}{w0 w:World}(h:aW e0 s0 w0 e s w)(o:Obj):aW e0 s0 w0 e s (w.alloc o) where
 rep:=⟨fun b o' h1=>by
  obtain⟨q1,q2,r,q3,q4⟩:=h.rep.obj b o' h1;exact⟨q1,by show _<(w.heap.push o).size;simp;omega,r,by show(w.heap.push o)[_]? =_;rw[Array.getElem?_push,if_neg (by omega)];exact q3,q4⟩,h.rep.inj,fun g o' hg=>⟨by
   have q:=(h.rep.fx g o' hg).1;have:g<w.heap.size:=(Array.getElem?_eq_some_iff.1 q).1;show(w.heap.push o)[_]? =_;rw[Array.getElem?_push,if_neg (by omega)];exact q,(h.rep.fx g o' hg).2⟩⟩
 ext:=h.ext
 nx:=h.nx
 own:=h.own
 os:=h.os
 tape:=h.tape
 output:=h.output
 size:=by show _≤(w.heap.push o).size;simp;have:=h.size;omega
 kp:=fun j hj hj'=>by
  have:=h.size;show(w.heap.push o)[_]? =_;rw[Array.getElem?_push,if_neg (by omega)];exact h.kp j hj hj'
 lg:=h.lg
 fx:=h.fx
def lQ(e:En)(s:St)(w:World)(k:Nat):Prop:=k<w.heap.size∧∀b o,s.heap.at_ b=some o→e.σ b≠k
theorem lQ.step [FX]{e e':En}{s s':St}{w w':World}{k:Nat}(h:lQ e s w k)(st:aW e s w e' s' w'):lQ e' s' w' k∧w'.heap[k]? =w.heap[k]? :=
 ⟨⟨Nat.lt_of_lt_of_le h.1 st.size,fun b o hb he=>by
  rcases st.own b o hb with⟨b0,o0,h1,h2⟩|h1
  ·exact h.2 b0 o0 h1 (h2.trans he)
  ·have:=h.1;omega⟩,st.kp k h.1 h.2⟩
def Wk(q it:Nat)(es xs:List MapEntry)(w:World):Prop:=
 ∃ents clock seen,w.heap[q]? =some (.map ents clock)∧ents.toList=es∧Bo es clock∧w.heap[it]? =some (.mapIter (some q) clock seen clock)∧xs.Perm (es.filter fun x=>seen.contains x.born)
theorem Wk.keep{q it:Nat}{es xs:List MapEntry}{w w':World}(h:Wk q it es xs w)(h1:w'.heap[q]? =w.heap[q]?)(h2:w'.heap[it]? =w.heap[it]?):Wk q it es xs w':=by
 obtain⟨ents,clock,seen,a,b,c,d,f⟩:=h;exact⟨ents,clock,seen,h1.trans a,b,c,h2.trans d,f⟩
theorem Ya{P:Program}{w:World}{t k e:TypeId}(ht:P.underlying t=some (.map k e)){q clock:Nat}{ents:Array MapEntry}(hq:w.heap[q]? =some (.map ents clock))(hb:Bo ents.toList clock):
 (Instr.range t (.map (some q))).run P w=.ok (.pointer (some ⟨w.heap.size,0,none⟩)) (w.alloc (.mapIter (some q) clock #[] clock))∧Wk q w.heap.size ents.toList [] (w.alloc (.mapIter (some q) clock #[] clock)):=by
 refine⟨run_range_map w t k e q ents clock ht hq,ents,clock,#[],?_,rfl,hb,?_,by simp⟩
 ·have:=(Array.getElem?_eq_some_iff.1 hq).1;show(w.heap.push _)[_]? =_;rw[Array.getElem?_push,if_neg (by omega)];exact hq
 ·show(w.heap.push _)[_]? =_;simp
theorem afK{l:List MapEntry}(h:l.Pairwise (fun a b=>a.born<b.born)):(l.map (·.born)).Nodup:=by
 rw[List.nodup_iff_pairwise_ne,List.pairwise_map];exact h.imp (fun h=>Nat.ne_of_lt h)
theorem UX(seen:Array Nat)(e:MapEntry):∀(l:List MapEntry),(l.map (·.born)).Nodup→e∈l→seen.contains e.born=false→(l.filter fun x=>(seen.push e.born).contains x.born).Perm (l.filter (fun x=>seen.contains x.born)++[e])
 |[],_,he,_=>by cases he
 |x::l,hn,he,hs=>by
  rw[List.map_cons,List.nodup_cons]at hn;by_cases hx:x=e
  ·subst hx;have h1:(seen.push x.born).contains x.born=true:=by rw[contains_push,beq_self_eq_true,Bool.or_true]
   rw[List.filter_cons_of_pos (by simp),List.filter_cons_of_neg (p:=fun y:MapEntry=>seen.contains y.born) (by rw[hs];simp)];have h2:l.filter (fun y=>(seen.push x.born).contains y.born)=l.filter (fun y=>seen.contains y.born):=by
    apply List.filter_congr;intro y hy;rw[contains_push];have:(y.born==x.born)=false:=beq_eq_false_iff_ne.2 (fun e=>hn.1 (e▸List.mem_map.2 ⟨y,hy,rfl⟩));rw[this,Bool.or_false]
   rw[h2];exact(List.perm_append_singleton _ _).symm
  ·have hel:e∈l:=(List.mem_cons.1 he).resolve_left (fun h=>hx h.symm);have ih:=UX seen e l hn.2 hel hs;have hne:(x.born==e.born)=false:=beq_eq_false_iff_ne.2 (fun h=>hn.1 (h▸List.mem_map.2 ⟨e,hel,rfl⟩));have h1:(seen.push e.born).contains x.born=seen.contains x.born:=by rw[contains_push,hne,Bool.or_false]
   cases hc:seen.contains x.born with
   |true=>
    rw[List.filter_cons_of_pos (p:=fun y:MapEntry=>(seen.push e.born).contains y.born) (by rw[h1,hc]),List.filter_cons_of_pos (p:=fun y:MapEntry=>seen.contains y.born) hc];exact ih.cons x
   |false=>
    rw[List.filter_cons_of_neg (p:=fun y:MapEntry=>(seen.push e.born).contains y.born) (by rw[h1,hc];simp),List.filter_cons_of_neg (p:=fun y:MapEntry=>seen.contains y.born) (by rw[hc];simp)];exact ih
theorem Yd [FX]{P:Program}{q it:Nat}{es xs:List MapEntry}{w:World}(h:Wk q it es xs w)(hne:q≠it)(ty:TypeId):
 (xs.Perm es∧(Instr.next (.pointer (some ⟨it,0,none⟩)) false ty).run P w=.ok (.tuple #[.bool false]) w)∨
 ∃x∈es,x∉xs∧∃w',(Instr.next (.pointer (some ⟨it,0,none⟩)) false ty).run P w=.ok (.tuple #[.bool true,x.key,x.val]) w'∧Wk q it es (xs++[x]) w'∧sU it w w'∧∀w2:World,w2.heap[q]? =w'.heap[q]? →w2.heap[it]? =w'.heap[it]? →(Instr.entry (.pointer (some ⟨it,0,none⟩))).run P w2=.ok (.tuple #[x.key,x.val]) w2:=by
 obtain⟨ents,clock,seen,h1,rfl,h3,h4,h5⟩:=h;have hnd:=afK h3.2;rcases run_next_at (P:=P) w ty it q clock clock seen ents clock h4 h1 h3.1 (Nat.le_refl _)with⟨h6,h7⟩|⟨x,hx,w1,az,h7⟩
 ·refine .inl ⟨?_,h7⟩;have hall:ents.toList.filter (fun x=>seen.contains x.born)=ents.toList:=by
   rw[List.filter_eq_self];intro y hy;cases hc:seen.contains y.born with
   |true=>rfl
   |false=>
    have:y∈leftOf ents seen:=by
     unfold leftOf;exact Array.mem_filter.2 ⟨Array.mem_toList_iff.1 hy,by rw[hc];rfl⟩
    obtain⟨i,hi,_⟩:=Array.mem_iff_getElem.1 this;omega
  rw[hall]at h5;exact h5
 ·obtain⟨hm,hc⟩:=mem_left hx;have hit:it<w.heap.size:=(Array.getElem?_eq_some_iff.1 h4).1;have hq':∀o,(setBlock w1 it o).heap[q]? =some (.map ents clock):=fun o=>by rw[(sU.of az o).at_ _ hne];exact h1
  have hit':∀o,(setBlock w1 it o).heap[it]? =some o:=fun o=>by rcases az with rfl|rfl<;>exact Array.getElem?_setIfInBounds_self_of_lt hit
  refine .inr ⟨x,hm,fun hx'=>?_,_,h7,⟨ents,clock,seen.push x.born,hq' _,rfl,h3,hit' _,?_⟩,sU.of az _,fun w2 h8 h9=>run_entry_at w2 it q clock seen ents clock x (h9.trans (hit' _)) (h8.trans (hq' _)) hm hnd⟩
  ·have:=(List.mem_filter.1 (h5.mem_iff.1 hx')).2;rw[hc]at this;cases this
  ·exact(h5.append_right [x]).trans (UX seen x _ hnd hm hc).symm
end Go.Proofs.YtlpombjidhloiaaGreat.Eng
namespace Go.Proofs.YtlpombjidhloiaaGreat.Eng
noncomputable def po(l:List (Nat×bk))(h:T bk):T bk:=List.rec h (fun p _ ih=>ih.set p.1 p.2) l
theorem vk{h:T bk}:∀(l:List (Nat×bk)) {b:Nat} {o:bk},(po l h).at_ b=some o→(∃x∈l,x.1=b∧o=x.2)∨((∀x∈l,x.1≠b)∧h.at_ b=some o)
 |[],b,o,hb=>.inr ⟨fun x hx=>by simp at hx,hb⟩
 |x::l,b,o,hb=>by
  replace hb:((po l h).set x.1 x.2).at_ b=some o:=hb
  rw[T.at_set]at hb;by_cases hx:x.1=b
  ·rw[if_pos hx]at hb;cases hb;exact .inl ⟨x,by simp,hx,rfl⟩
  ·rw[if_neg hx]at hb;rcases vk l hb with⟨y,h1,h2⟩|⟨h1,h2⟩
   ·exact .inl ⟨y,by simp[h1],h2⟩
   ·refine .inr ⟨fun y hy=>?_,h2⟩;rcases List.mem_cons.1 hy with rfl|hy
    ·exact hx
    ·exact h1 y hy
theorem UY{h:T bk}:∀(l:List (Nat×bk)) {b:Nat},(∀x∈l,x.1≠b)→(po l h).at_ b=h.at_ b
 |[],b,_=>rfl
 |x::l,b,hn=>by
  show((po l h).set x.1 x.2).at_ b=_;rw[T.at_set,if_neg (hn x (by simp)),UY l fun y hy=>hn y (by simp[hy])]
def afL(e:En)(c0:Nat)(h:T bk)(l:List (Nat×bk)):Prop:=∀x∈l,c0≤x.1∧∃oG,h.at_ x.1=some oG∧∀k r,RO e k x.1 oG r→RO e k x.1 x.2 r
def Loc [FX](P:Program)(f:Nat)(args:List AV)(c0 c1:Nat)(v:AV)(l:List (Nat×bk)):Prop:=∀(e:En) (w:World) (vs:Array Value),aZ e ⟨.leaf,c0,[]⟩ w→Gl e c0→RL e c0 args vs.toList→
 ∀{o:Oper} {a:Act} {K:Act→World→Prop} {Q:Exit→Act→World→Prop},(∀e' w' u g,aW e ⟨.leaf,c0,[]⟩ w e' g w'→g.next≤c1→afL e' c0 g.heap l→R e' c1 v u→K (a.put o.dst u) w')→o.upon P a K Q ((callFunc f vs).run P w)
theorem Yk [FX]{P:Program}{f:Nat}{args:List AV}{c0 c1:Nat}{v:AV}{l:List (Nat×bk)}(hL:Loc P f args c0 c1 v l){s:St}{e:En}{w:World}{vs:Array Value}(hle:s.next≤c0)(hr:aZ e s w)(hgl:Gl e s.next)(hl:RL e s.next args vs.toList)
 {o:Oper} {a:Act} {K:Act→World→Prop} {Q:Exit→Act→World→Prop} (hK:∀e' w' u,aW e s w e' ⟨po l s.heap,c1,s.wr⟩ w'→R e' c1 v u→K (a.put o.dst u) w'):o.upon P a K Q ((callFunc f vs).run P w):=by
 have cT:aZ e ⟨.leaf,c0,[]⟩ w:=aZ.none (fun g o hg=>(hr.fx g o hg).1) c0;refine hL e w vs cT (hgl.ext (cW.refl _ _) hle) (hl.ext (cW.refl _ _) hle) fun e' w' u g st qb hob hu=>?_
 have hnx:c0≤g.next:=st.nx;have hext:cW c0 e e':=st.ext;have hlit:∀x∈l,∃oG,g.heap.at_ x.1=some oG∧∀k r,RO e' k x.1 oG r→RO e' k x.1 x.2 r:=fun x hx=>(hob x hx).2
 have hnone:∀b o,(⟨.leaf,c0,[]⟩:St).heap.at_ b=some o→False:=fun b o hb=>by rw[show(⟨.leaf,c0,[]⟩:St).heap=.leaf from rfl,T.at_leaf]at hb;cases hb
 have hfar:∀{b oG},g.heap.at_ b=some oG→w.heap.size≤e'.σ b:=fun {b oG} hb=>by
  rcases st.own b oG hb with⟨b0,o0,q,_⟩|q
  ·exact(hnone b0 o0 q).elim
  ·exact q
 have hold:∀{b o},s.heap.at_ b=some o→b<s.next∧e'.σ b=e.σ b∧e.σ b<w.heap.size∧∃r,w'.heap[e'.σ b]? =some r∧RO e' c1 b o r:=fun {b o} hb=>by
  obtain⟨q1,q2,r,q3,q4⟩:=hr.obj b o hb;have q5:=(hext b (by omega)).1;refine⟨q1,q5,q2,r,?_,q4.ext (fun b' hb'=>hext b' (by omega)) (by omega) q1⟩;rw[q5,st.kp _ q2 fun b1 o1 ae=>(hnone b1 o1 ae).elim];exact q3
 refine hK e' w' u ?_ hu;exact {
  rep:=⟨fun b o hb=>by
   rcases vk l hb with⟨x,hx,rfl,rfl⟩|⟨_,af⟩
   ·obtain⟨oG,q1,q2⟩:=hlit x hx;obtain⟨q3,q4,r,q5,q6⟩:=st.rep.obj x.1 oG q1;exact⟨show x.1<c1 by omega,q4,r,q5,(q2 _ _ q6).mono qb⟩
   ·obtain⟨q1,q2,q3,r,q4,q5⟩:=hold af;exact⟨show b<c1 by omega,by rw[q2];exact Nat.lt_of_lt_of_le q3 st.size,r,q4,q5⟩,fun b o b' o' hb hb' he=>by
   rcases vk l hb with⟨x,hx,rfl,rfl⟩|⟨_,af⟩<;>rcases vk l hb' with⟨x',hx',rfl,rfl⟩|⟨_,hb2'⟩
   ·obtain⟨oG,q1,_⟩:=hlit x hx;obtain⟨oG',q1',_⟩:=hlit x' hx';exact st.rep.inj _ _ _ _ q1 q1' he
   ·obtain⟨oG,q1,_⟩:=hlit x hx;obtain⟨_,q2,q3,_⟩:=hold hb2';have:=hfar q1;omega
   ·obtain⟨oG,q1,_⟩:=hlit x' hx';obtain⟨_,q2,q3,_⟩:=hold af;have:=hfar q1;omega
   ·obtain⟨_,q2,_⟩:=hold af;obtain⟨_,q2',_⟩:=hold hb2';exact hr.inj _ _ _ _ af hb2' (by rw[←q2,←q2'];exact he),fun g o hg=>by
   have q:=st.rep.fx g o hg;refine⟨q.1,fun b o' hb=>?_⟩;rcases vk l hb with⟨x,hx,rfl,rfl⟩|⟨_,af⟩
   ·obtain⟨oG,q1,_⟩:=hlit x hx;exact q.2 x.1 oG q1
   ·rw[(hold af).2.1];exact(hr.fx g o hg).2 b o' af⟩
  fx:=st.fx
  ext:=fun b hb=>hext b (by omega)
  nx:=show s.next≤c1 by omega
  own:=fun b o hb=>by
   rcases vk l hb with⟨x,hx,rfl,rfl⟩|⟨_,af⟩
   ·obtain⟨oG,q1,_⟩:=hlit x hx;exact .inr (hfar q1)
   ·exact .inl ⟨b,o,af,(hold af).2.1.symm⟩
  os:=st.os
  tape:=st.tape
  output:=st.output
  size:=st.size
  kp:=fun k hk _=>st.kp k hk fun b o hb=>(hnone b o hb).elim
  lg:=⟨[],rfl,fun b hb _=>UY l fun x hx he=>by
   have:=(hob x hx).1;omega⟩}
noncomputable def pre(p:List Nat):List Nat→Bool:=List.rec (fun _=>true) (fun a _ ih l=>List.rec false (fun b l _=>Bool.rec false (ih l) (Nat.beq a b)) l) p
noncomputable def yh(p l:List Nat):Bool:=List.rec (pre p []) (fun b l ih=>Bool.rec ih true (pre p (b::l))) l
theorem afM{a b:Nat}(ha:a<256)(hb:b<256):(UInt8.ofNat a==UInt8.ofNat b)=Nat.beq a b:=by
 cases h:Nat.beq a b with
 |true=>rw[Nat.eq_of_beq_eq_true h];exact beq_self_eq_true _
 |false=>
  refine beq_eq_false_iff_ne.2 fun he=>?_
  have h1:=congrArg UInt8.toNat he;rw[UInt8.toNat_ofNat_of_lt' ha,UInt8.toNat_ofNat_of_lt' hb]at h1;rw[h1]at h;exact absurd (Nat.beq_refl b) (by rw[h];decide)
theorem UZ [FX]:∀{p l:List Nat},(∀b∈p,b<256)→(∀b∈l,b<256)→pre p l=(p.map UInt8.ofNat).isPrefixOf (l.map UInt8.ofNat)
 |[],_,_,_=>rfl
 |_::_,[],_,_=>rfl
 |a::p,b::l,hp,hl=>by
  show(Bool.rec false (pre p l) (Nat.beq a b):Bool)=(UInt8.ofNat a==UInt8.ofNat b&&(p.map UInt8.ofNat).isPrefixOf (l.map UInt8.ofNat));rw[UZ (fun b hb=>hp b (by simp[hb])) (fun b hb=>hl b (by simp[hb])),afM (hp a (by simp)) (hl b (by simp))];cases Nat.beq a b<;>rfl
theorem MK [FX]{p:List Nat}(hp:∀b∈p,b<256):∀{l:List Nat},(∀b∈l,b<256)→yh p l=Lib.contains (l.map UInt8.ofNat) (p.map UInt8.ofNat)
 |[],_=>by cases p<;>rfl
 |b::l,hl=>by
  have ih:=MK hp (l:=l) (fun b hb=>hl b (by simp[hb]));have hpre:=UZ hp hl;show(Bool.rec (yh p l) true (pre p (b::l)):Bool)=_;rw[ih,hpre];unfold Lib.contains;rw[List.map_cons,Lib.index];cases h:(p.map UInt8.ofNat).isPrefixOf (UInt8.ofNat b::l.map UInt8.ofNat)with
  |true=>rfl
  |false=>
   show decide _=_;by_cases h2:Lib.index (l.map UInt8.ofNat) (p.map UInt8.ofNat)= -1
   ·simp[h2]
   ·have hge: -1≤Lib.index (l.map UInt8.ofNat) (p.map UInt8.ofNat):=Lib.index_ge _ _;simp[h2];omega
noncomputable def uf(s:St):List AV→Option (AV×St)
 |[.str a,.str b]=>Bool.rec none (some (.bool (yh b a),s)) (Nat.ble (cK a) 4294967280)
 |_=>none
theorem XC{s s':St}{v:AV}{l:List AV}(h:uf s l=some (v,s')):∃a b,l=[.str a,.str b]∧cK a<4294967281∧v=.bool (yh b a)∧s'=s:=by
 unfold uf at h;split at h
 ·rename_i a b;cases hb:Nat.ble (cK a) 4294967280 with
  |false=>rw[hb]at h;cases h
  |true=>
   rw[hb]at h;have h1:=Nat.le_of_ble_eq_true hb;injection (show some (AV.bool (yh b a),s)=some (v,s')from h)with h
   injection h with h2 h3
   exact⟨a,b,rfl,by omega,h2.symm,h3.symm⟩
 ·cases h
theorem XE{e:En}{k:Nat}{a b:List Nat}{vs:Array Value}(h:RL e k [.str a,.str b] vs.toList):(∀c∈a,c<256)∧(∀c∈b,c<256)∧vs=#[.string (bw a),.string (bw b)]:=by
 obtain⟨v,us,h1,⟨h2,rfl⟩,v',us',rfl,⟨h3,rfl⟩,h4⟩:=h;refine⟨h2,h3,?_⟩;have:us'=[]:=h4;subst this;exact Array.toList_inj.1 h1
theorem XG [FX]{P:Program}{f:Nat}{vs:Array Value}{e:En}{s:St}{w:World}(hr:aZ e s w){v:AV}{u:Value}(hen:(callFunc f vs).run P w=.ok (.enter f vs) w)(hc:Calls P f vs w fun en w'=>en=.returned u∧w'=w)(hu:R e s.next v u)
 {o:Oper} {a:Act} {K:Act→World→Prop} {Q:Exit→Act→World→Prop} (hK:∀e' w' u,aW e s w e' s w'→R e' s.next v u→K (a.put o.dst u) w'):o.upon P a K Q ((callFunc f vs).run P w):=by
 rw[hen,Oper.upon_enter];refine hc.mono fun en w' h=>?_
 obtain⟨rfl,rfl⟩:=h;exact hK e _ u (aW.refl hr) hu
end Go.Proofs.YtlpombjidhloiaaGreat.Eng
namespace Go.Proofs.YtlpombjidhloiaaGreat.Eng
open Go.RowKit (Below)
open Go.Proofs (encStr)
open Go.WideElems (Fit rd rg)
theorem aW.far [FX]{e:En}{s:St}{w w':World}(h:aZ e s w)(hb:Below w.heap.size w w')(o:bk)(r:Obj)(c g:Nat)(hg:w.heap.size≤g)(hr:w'.heap[g]? =some r)(ho:RO (e.up s.next g c) (s.next+1) s.next o r):aW e s w (e.up s.next g c) (s.add o) w' where
 rep:=by
  have hgl:g<w'.heap.size:=(Array.getElem?_eq_some_iff.1 hr).1;refine⟨fun b o' hb'=>?_,fun b o1 b' o2 ae af he=>?_,fun g' o' hg'=>?_⟩
  ·change (s.heap.set s.next o).at_ b=some o' at hb';rw[T.at_set]at hb';by_cases hk:s.next=b
   ·rw[if_pos hk]at hb';cases hb';subst hk;refine⟨Nat.lt_succ_self _,by simpa[En.up]using hgl,r,by simpa[En.up]using hr,ho⟩
   ·rw[if_neg hk]at hb';obtain⟨h1,h2,r',h3,h4⟩:=h.obj b o' hb';have hσ:(e.up s.next g c).σ b=e.σ b:=(En.up_ext e _ _ _ b h1).1;rw[hσ];exact⟨Nat.lt_succ_of_lt h1,Nat.lt_of_lt_of_le h2 hb.size,r',by rw[hb.block _ h2];exact h3,h4.ext (En.up_ext e _ _ _) (Nat.le_succ _) h1⟩
  ·change (s.heap.set s.next o).at_ b=some o1 at ae;change (s.heap.set s.next o).at_ b'=some o2 at af;rw[T.at_set]at ae af;by_cases hk:s.next=b<;>by_cases hk':s.next=b'
   ·omega
   ·rw[if_neg hk']at af;obtain⟨h1,h2,_⟩:=h.obj b' o2 af;exact UG
   ·rw[if_neg hk]at ae;obtain⟨h1,h2,_⟩:=h.obj b o1 ae;exact UH
   ·rw[if_neg hk]at ae;rw[if_neg hk']at af;obtain⟨h1,_⟩:=h.obj b o1 ae;obtain⟨h2,_⟩:=h.obj b' o2 af;rw[(En.up_ext e _ _ _ b h1).1,(En.up_ext e _ _ _ b' h2).1]at he;exact h.inj b o1 b' o2 ae af he
  ·obtain⟨q1,q2⟩:=h.fx g' o' hg';have hlt:=(Array.getElem?_eq_some_iff.1 q1).1;refine⟨by rw[hb.block _ hlt];exact q1,fun b o2 af=>?_⟩;change (s.heap.set s.next o).at_ b=some o2 at af;rw[T.at_set]at af;by_cases hk:s.next=b
   ·subst hk;simp only[En.up,if_true];omega
   ·rw[if_neg hk]at af;rw[(En.up_ext e _ _ _ b (h.obj b o2 af).1).1];exact q2 b o2 af
 ext:=En.up_ext e _ _ _
 nx:=Nat.le_succ _
 own:=fun b o' hb'=>by
  change (s.heap.set s.next o).at_ b=some o' at hb';rw[T.at_set]at hb';by_cases hk:s.next=b
  ·subst hk;right;simpa[En.up]using hg
  ·rw[if_neg hk]at hb';exact .inl ⟨b,o',hb',((En.up_ext e _ _ _ b (h.obj b o' hb').1).1).symm⟩
 os:=hb.os
 tape:=hb.tape
 output:=hb.output
 size:=hb.size
 kp:=fun k hk _=>hb.block k hk
 lg:=⟨[],rfl,fun b hb' _=>by
  show(s.heap.set s.next o).at_ b=_;rw[T.at_set,if_neg (by omega)]⟩
 fx:=rfl
def mo(l:List Nat):List UInt8:=l.map UInt8.ofNat
end Go.Proofs.YtlpombjidhloiaaGreat.Eng
namespace Go.Proofs.YtlpombjidhloiaaGreat.Eng
open Go.RowKit (Below)
structure eF [FX](e0:En)(c0:Nat)(w0:World)(e:En)(s:St)(w:World):Prop where
 rep:aZ e s w
 ext:cW c0 e0 e
 nx:c0≤s.next
 far:∀b o,s.heap.at_ b=some o→w0.heap.size≤e.σ b
 below:Below w0.heap.size w0 w
 fxl:∀g o,FX.F g=some o→g<w0.heap.size
 fx:e.fx=e0.fx
theorem afO{c0:Nat}{b:Nat}{o:bk}(h:(⟨.leaf,c0,[]⟩:St).heap.at_ b=some o):False:=by
 rw[show(⟨.leaf,c0,[]⟩:St).heap=.leaf from rfl,T.at_leaf]at h;cases h
theorem eF.start [FX]{e:En}{c0:Nat}{w:World}(h:aZ e ⟨.leaf,c0,[]⟩ w):eF e c0 w e ⟨.leaf,c0,[]⟩ w:=
 ⟨h,cW.refl _ _,Nat.le_refl _,fun _ _ hb=>(afO hb).elim,Below.refl _ _,fun g o hg=>(Array.getElem?_eq_some_iff.1 (h.fx g o hg).1).1,rfl⟩
section
variable {e0 e e':En} {c0:Nat} {w0 w w':World} {s s':St}
theorem eF.step [FX](h:eF e0 c0 w0 e s w)(st:aW e s w e' s' w'):eF e0 c0 w0 e' s' w' where
 rep:=st.rep
 ext:=h.ext.trans st.ext h.nx
 nx:=Nat.le_trans h.nx st.nx
 far:=fun b o hb=>by
  rcases st.own b o hb with⟨b0,o0,h1,h2⟩|h1
  ·rw[←h2];exact h.far b0 o0 h1
  ·exact Nat.le_trans h.below.size h1
 below:=⟨st.os.trans h.below.os,st.tape.trans h.below.tape,st.output.trans h.below.output,Nat.le_trans h.below.size st.size,fun k hk=>by
  rw[st.kp k (Nat.lt_of_lt_of_le hk h.below.size) fun b o hb he=>by have:=h.far b o hb;omega];exact h.below.block k hk⟩
 fxl:=h.fxl
 fx:=st.fx.trans h.fx
theorem eF.drop [FX](h:eF e0 c0 w0 e s w)(hs:∀b o,s'.heap.at_ b=some o→s.heap.at_ b=some o)(hn:s.next≤s'.next):eF e0 c0 w0 e s' w where
 rep:=⟨fun b o hb=>by
  obtain⟨h1,h2,r,h3,h4⟩:=h.rep.obj b o (hs b o hb);exact⟨Nat.lt_of_lt_of_le h1 hn,h2,r,h3,h4.mono hn⟩,fun b o b' o' hb hb' he=>h.rep.inj b o b' o' (hs b o hb) (hs b' o' hb') he,fun g o hg=>⟨(h.rep.fx g o hg).1,fun b o' hb=>(h.rep.fx g o hg).2 b o' (hs b o' hb)⟩⟩
 ext:=h.ext
 nx:=Nat.le_trans h.nx hn
 far:=fun b o hb=>h.far b o (hs b o hb)
 below:=h.below
 fxl:=h.fxl
 fx:=h.fx
theorem eF.perm [FX](h:eF e0 c0 w0 e s w){b:Nat}{kk:KK}{es es':List (AV×AV)}(hb:s.heap.at_ b=some (.map kk es))(hp:es'.Perm es)(hn:s'.next=s.next)(hs:∀c,s'.heap.at_ c=if b=c then some (.map kk es')else s.heap.at_ c):eF e0 c0 w0 e s' w where
 rep:=h.rep.perm hb hp hn hs
 ext:=h.ext
 nx:=by rw[hn];exact h.nx
 far:=fun c o hc=>by
  rw[hs]at hc;by_cases hbc:b=c
  ·subst hbc;exact h.far b _ hb
  ·rw[if_neg hbc]at hc;exact h.far c o hc
 below:=h.below
 fxl:=h.fxl
 fx:=h.fx
theorem eF.side [FX](h:eF e0 c0 w0 e s w){k:Nat}(hk:w0.heap.size≤k)(hn:∀b o,s.heap.at_ b=some o→e.σ b≠k)(hb:sU k w w'):eF e0 c0 w0 e s w' where
 rep:=⟨fun b o h1=>by
  obtain⟨q1,q2,r,q3,q4⟩:=h.rep.obj b o h1;exact⟨q1,by rw[hb.size];exact q2,r,by rw[hb.at_ _ (hn b o h1)];exact q3,q4⟩,h.rep.inj,fun g o hg=>⟨by rw[hb.at_ _ (by have:=h.fxl g o hg;omega)];exact(h.rep.fx g o hg).1,(h.rep.fx g o hg).2⟩⟩
 ext:=h.ext
 nx:=h.nx
 far:=h.far
 below:=⟨hb.os.trans h.below.os,hb.tape.trans h.below.tape,hb.output.trans h.below.output,by rw[hb.size];exact h.below.size,fun j hj=>by rw[hb.at_ _ (by omega)];exact h.below.block j hj⟩
 fxl:=h.fxl
 fx:=h.fx
theorem eF.more [FX](h:eF e0 c0 w0 e s w)(o:Obj):eF e0 c0 w0 e s (w.alloc o) where
 rep:=⟨fun b o' h1=>by
  obtain⟨q1,q2,r,q3,q4⟩:=h.rep.obj b o' h1;exact⟨q1,by show _<(w.heap.push o).size;simp;omega,r,by show(w.heap.push o)[_]? =_;rw[Array.getElem?_push,if_neg (by omega)];exact q3,q4⟩,h.rep.inj,fun g o' hg=>⟨by
   have q:=(h.rep.fx g o' hg).1;have:g<w.heap.size:=(Array.getElem?_eq_some_iff.1 q).1;show(w.heap.push o)[_]? =_;rw[Array.getElem?_push,if_neg (by omega)];exact q,(h.rep.fx g o' hg).2⟩⟩
 ext:=h.ext
 nx:=h.nx
 far:=h.far
 below:=h.below.alloc h.below.size o
 fxl:=h.fxl
 fx:=h.fx
theorem eF.stp [FX](h:eF e0 c0 w0 e s w)(hw:s.wr=[])(hs:∀b,b<c0→s.heap.at_ b=none):aW e0 ⟨.leaf,c0,[]⟩ w0 e s w where
 rep:=h.rep
 ext:=h.ext
 nx:=h.nx
 own:=fun b o hb=>.inr (h.far b o hb)
 os:=h.below.os
 tape:=h.below.tape
 output:=h.below.output
 size:=h.below.size
 kp:=fun k hk _=>h.below.block k hk
 lg:=⟨[],hw,fun b hb _=>by rw[hs b hb];rfl⟩
 fx:=h.fx
end
theorem aY.two{e:En}{k:Nat}{ns:NS}{a:Act}{t1 t2:Nat}{v1 v2:AV}(hg:Gl e k)(h1:R e k v1 (a.tmps.getD t1 undef))(h2:R e k v2 (a.tmps.getD t2 undef)):aY e k ns ⟨(T.set .leaf t1 v1).set t2 v2,.nil⟩ a:=⟨hg,fun t=>by
 unfold bM;cases hd:ns.at_ t with
 |none=>exact trivial
 |some u=>
  show R e k (vI (((T.set .leaf t1 v1).set t2 v2).at_ t)) _;rw[T.at_set,T.at_set];by_cases qf:t2=t
  ·subst qf;rw[if_pos rfl];exact h2
  ·rw[if_neg qf];by_cases tc:t1=t
   ·subst tc;rw[if_pos rfl];exact h1
   ·rw[if_neg tc,T.at_leaf];exact trivial⟩
theorem aY.none{e:En}{k:Nat}{ns:NS}{a:Act}(hg:Gl e k):aY e k ns ⟨.leaf,.nil⟩ a:=⟨hg,fun t=>by
 unfold bM;cases ns.at_ t<;>exact trivial⟩
theorem Yc{P:Program}{N:Nat}{body:Code}{Q:Exit→Act→World→Prop}{I:List MapEntry→Act→World→Prop}
 (hI:∀xs a w,I xs a w→xs.length≤N)
 (hround:∀xs a w,I xs a w→body.wp P (Exit.then (fun a' w'=>∃x,I (xs++[x]) a' w') Q) a w) {a:Act} {w:World} (h0:I [] a w):(Code.loop body).wp P Q a w:=by
 have key:∀n xs a w,I xs a w→N-xs.length<n→Code.rounds P body Q n a w:=by
  intro n
  induction n with
  |zero=>intro xs a w _ h;omega
  |succ n ih=>
   intro xs a w h hn;rw[rounds_succ];refine wp_mono (hround xs a w h) fun ex a' w' hq=>?_
   cases ex<;>first|exact hq|skip
   obtain⟨x,hx⟩:=hq;refine ih (xs++[x]) a' w' hx ?_;have:=hI _ _ _ hx;rw[List.length_append,List.length_singleton]at *;omega
 exact wp_loop_rounds (N+1) (key (N+1) [] a w h0 (by omega))
theorem Ah{e:En}{k:Nat}:∀{p:AV} {v:Value},(match p with|.str _=>True|.int _ _=>True|_=>False)→R e k p v→rN v=p
 |.str l,v,_,h=>by
  obtain⟨h1,rfl⟩:=h;show fm (bw l)=.str l;unfold fm;rw[oC];show AV.str ((((l.map UInt8.ofNat).toArray).toList).map UInt8.toNat)=_;rw[List.toList_toArray,List.map_map];congr 1;refine(List.map_congr_left fun x hx=>?_).trans (List.map_id l);show(UInt8.ofNat x).toNat=id x;rw[UInt8.toNat_ofNat_of_lt' (h1 x hx)];rfl
 |.int kd n,v,_,h=>by
  rw[show v=.int kd n from h];rfl
noncomputable def cj(x:MapEntry):AV×AV:=(rN x.key,rN x.val)
def MU(p:AV×AV):Prop:=(match p.1 with|.str _=>True|.int _ _=>True|_=>False)∧(match p.2 with|.str _=>True|.int _ _=>True|_=>False)
theorem dZ.back [FX]{e:En}{k:Nat}:∀{ps:List (AV×AV)} {l:List MapEntry},dZ e k ps (l.map fun x=>(x.key,x.val))→(∀p∈ps,MU p)→l.map cj=ps
 |[],[],_,_=>rfl
 |[],_::_,h,_=>by cases h
 |p::ps,[],h,_=>by obtain⟨u,v,r,h,_⟩:=h;cases h
 |p::ps,x::l,h,hp=>by
  obtain⟨u,v,r,h1,h2,h3,h4⟩:=h;injection h1 with h5 h6
  injection h5 with h7 h8
  subst h7 h8 h6;have hpp:=hp p (by simp);rw[List.map_cons,dZ.back h4 (fun q hq=>hp q (by simp[hq]))];unfold cj;rw[Ah hpp.1 h2,Ah hpp.2 h3]
end Go.Proofs.YtlpombjidhloiaaGreat.Eng
namespace Go.Proofs.YtlpombjidhloiaaGreat.Eng
section
variable {P:Program} {B:Tb} {n:Nat} {e:En} {s s':St} {w w':World} {ns:NS} {nt:Nat} {tm tm':Tm} {a:Act} {Q:Exit→Act→World→Prop}
theorem Ad [FX](hC:qB P B n){c:Code}{f:Nat}(hr:aZ e s w)(hm:aY e s.next (cY B f) tm a)(hsz:a.tmps.size=ew B f)(hd:a.defers=[]){ex:Ex}(h:run B n (.code c f tm [] s)=.ok ex tm' [] s')
 (hQ:∀e' a' w',aW e s w e' s' w'→aY e' s'.next (cY B f) tm' a'→a'.tmps.size=ew B f→a'.defers=[]→Q ex.out a' w'):c.wp P Q a w:=
 (hC c f tm [] s e w a Q hr hm hsz hd (by rw[h];exact fun e' a' w' h1 h2 h3 h4=>hQ e' a' w' h1 h2 h3 h4)).1
theorem Ae [FX](hO:uh P B n){ops:Array Oper}{l:List Oper}(hr:aZ e s w)(hm:aY e s.next ns tm a)(hsz:a.tmps.size=nt)(hd:a.defers=[]){ex:Ex}(h:run B n (.ops (bZ (fo B ns nt ops.toList) l) tm [] s)=.ok ex tm' [] s')
 (hQ:∀e' a' w',aW e s w e' s' w'→aY e' s'.next ns tm' a'→a'.tmps.size=nt→a'.defers=[]→Q ex.out a' w'):wpList P ops Q l a w:=
 hO ns nt ops l tm [] s e w a Q hr hm hsz hd (by rw[h];exact fun e' a' w' h1 h2 h3 h4=>hQ e' a' w' h1 h2 h3 h4)
theorem Af{ops:Array Oper}{o:Oper}{l:List Oper}(hg:o.guard=none){v:Value}(hx:(execOp a.eval o).run P w=.ok (.value v) w')(h:wpList P ops Q l (a.put o.dst v) w'):wpList P ops Q (o::l) a w:=by
 unfold wpList;rw[show Region.wanted o (yielded ops a.tmps)=true from by unfold Region.wanted;rw[hg],if_pos rfl];left;unfold Oper.wp;rw[hx];exact h
theorem Yb{o:Oper}{t:TypeId}{x:Operand}{u v:Value}(ho:o.op=.range t x)(hx:a.eval x=u)(hr:(Instr.range t u).run P w=.ok v w'):(execOp a.eval o).run P w=.ok (.value v) w':=by
 unfold execOp;rw[ho];simp[hx,hr]
theorem MX{o:Oper}{x:Operand}{u v:Value}{b:Bool}(ho:o.op=.next x b)(hx:a.eval x=u)(hr:(Instr.next u b o.type).run P w=.ok v w'):(execOp a.eval o).run P w=.ok (.value v) w':=by
 unfold execOp;rw[ho];simp[hx,hr]
theorem Ye{o:Oper}{x:Operand}{u v:Value}(ho:o.op=.entry x)(hx:a.eval x=u)(hr:(Instr.entry u).run P w=.ok v w'):(execOp a.eval o).run P w=.ok (.value v) w':=by
 unfold execOp;rw[ho];simp[hx,hr]
end
end Go.Proofs.YtlpombjidhloiaaGreat.Eng
namespace Go.Proofs.Tryz
open Go.Proofs.YtlpombjidhloiaaGreat.Eng
noncomputable def Xy(c:Nat)(args:List AV)(s:St):Option (AV×St):=Nat.rec (uf s args) (fun _ _=>none) c
noncomputable def Xz:T Nat:=T.set .leaf 148 0
noncomputable def B0:Tb:=tb Tryz.prog Xz Xy
def sl:Code→Code
 |.seq x _=>x
 |c=>c
def sr:Code→Code
 |.seq _ y=>y
 |c=>c
def bl:Code→Code
 |.block _ c=>c
 |c=>c
def lp:Code→Code
 |.loop c=>c
 |c=>c
def FL:Code→Array Oper
 |.region _ l _=>l
 |_=>#[]
def uj:aS→St
 |.ok _ _ _ s=>s
 |_=>Xi
def sc:aS→Tm
 |.ok _ tm _ _=>tm
 |_=>⟨.leaf,.nil⟩
noncomputable def sf:Code:=Tryz.f18.body.getD .skip
noncomputable def wD:Code:=lp (bl (sr (sl (sr (sr sf)))))
noncomputable def MN:Code:=sr (sr (sr sf))
noncomputable def ops2:Array Oper:=FL (sl (sl (sr (sr sf))))
noncomputable def ops3:Array Oper:=FL (sl wD)
noncomputable def ops4:Array Oper:=FL (sl (bl (sr (sr wD))))
noncomputable def FM:Code:=sr (bl (sr (sr wD)))
noncomputable def jY(l:Array Oper)(i:Nat):Oper:=l.toList.getD i ⟨none,.move (.tmp 0),0,"",#[],none⟩
theorem MP:Tryz.f18.body=some (.seq (sl sf) (.seq (sl (sr sf)) (.seq (.seq (.region 2 ops2 false) (.block 0 (.loop wD))) MN))):=by kernel_rfl
theorem XJ:wD=.seq (.region 3 ops3 false) (.seq (.cond (.tmp 15) .skip (.exit 0)) (.block 1 (.seq (.region 4 ops4 false) FM))):=by kernel_rfl
theorem XK:ops2.toList=ops2.toList.take 7++[jY ops2 7]:=by kernel_rfl
theorem XL:ops3.toList=[jY ops3 0,jY ops3 1]:=by kernel_rfl
theorem XM:ops4.toList=jY ops4 0::ops4.toList.drop 1:=by kernel_rfl
theorem FO:(jY ops2 7).op=.range 125 (.tmp 12)∧(jY ops2 7).dst=some 13∧(jY ops2 7).guard=none:=⟨by kernel_rfl,by kernel_rfl,by kernel_rfl⟩
theorem uk:(jY ops3 0).op=.next (.tmp 13) false∧(jY ops3 0).dst=some 14∧(jY ops3 0).guard=none:=⟨by kernel_rfl,by kernel_rfl,by kernel_rfl⟩
theorem FP:(jY ops4 0).op=.entry (.tmp 13)∧(jY ops4 0).dst=some 16∧(jY ops4 0).guard=none:=⟨by kernel_rfl,by kernel_rfl,by kernel_rfl⟩
theorem XN:∃k e,Tryz.prog.underlying 125=some (.map k e):=⟨9,3,by kernel_rfl⟩
theorem wE:ew B0 18=52:=by kernel_rfl
theorem XP:B0.fn.at_ 18=some Tryz.f18:=by kernel_rfl
noncomputable def dY:NS:=cY B0 18
noncomputable def A0(c0:Nat):aS:=run B0 100000 (.code (sl sf) 18 ⟨.leaf,.nil⟩ [] ⟨.leaf,c0,[]⟩)
noncomputable def A1(c0:Nat):aS:=run B0 100000 (.code (sl (sr sf)) 18 (sc (A0 c0)) [] (uj (A0 c0)))
noncomputable def A2(c0:Nat):aS:=run B0 100000 (.ops (bZ (fo B0 dY 52 ops2.toList) (ops2.toList.take 7)) ⟨(sc (A1 c0)).g,.nil⟩ [] (uj (A1 c0)))
def five:List (AV×AV):=[(.str [73,78,84,69,71,69,82],.int .i64 1),(.str [67,65,82,68,73,78,65,76],.int .i64 2),(.str [66,79,79,76,69,65,78],.int .i64 3),(.str [67,72,65,82],.int .i64 4),(.str [66,73,84,83,69,84],.int .i64 9)]
def dB(p:AV×AV):AV×AV:=(p.1,.agg [p.1,.int .u8 2,p.2,.lit .nilIface,.int .i64 0,.int .i64 0,.str [],.lit (.slice none 0 0)])
def nJ(c0:Nat):bk:=.cells (qq [.bool false,.map c0]) 1 2 121 false
def nK(c0:Nat):bk:=.cells (qq [.slc (c0+1) 0 1 (.ex 1)]) 1 1 124 false
noncomputable def jK(c0:Nat)(L:List (AV×AV)):T bk:=((T.set .leaf c0 (.map .str L)).set (c0+1) (nJ c0)).set (c0+2) (nK c0)
noncomputable def Sx(c0 i:Nat)(L:List (AV×AV)):St:=⟨jK c0 L,c0+4+2*i,[]⟩
noncomputable def nL(c0 it:Nat):Tm:=⟨(T.set .leaf 1 (.ptr (c0+2) 0)).set 13 (.lit (.pointer (some ⟨it,0,none⟩))),.nil⟩
noncomputable def A3(c0 i it:Nat)(x:AV)(L:List (AV×AV)):aS:=run B0 100000 (.ops (bZ (fo B0 dY 52 ops3.toList) [jY ops3 1]) (put (md dY (some 14)) x (nL c0 it)) [] (Sx c0 i L))
noncomputable def A4(c0 i it:Nat)(k n:AV)(L:List (AV×AV)):aS:=run B0 100000 (.ops (bZ (fo B0 dY 52 ops4.toList) (ops4.toList.drop 1)) (put (md dY (some 16)) (.tup [k,n]) (nL c0 it)) [] (Sx c0 i L))
noncomputable def A5(c0 i it:Nat)(k n:AV)(L:List (AV×AV)):aS:=run B0 100000 (.code FM 18 (sc (A4 c0 i it k n L)) [] (Sx c0 i L))
noncomputable def A6(c0 it:Nat):aS:=run B0 100000 (.code MN 18 (nL c0 it) [] (Sx c0 5 (five.map dB)))
noncomputable def FT(c0 c1 t:Nat)(tm:Tm)(s:St):Option bk×Option bk×Option bk×Bool×AV×AV×AV:=(s.heap.at_ c0,s.heap.at_ (c0+1),s.heap.at_ (c0+2),Nat.ble s.next c1,ev (bM dY 1) tm,ev (bM dY 13) tm,ev (bM dY t) tm)
noncomputable def um(c0 c1 t:Nat):aS→Option (Option bk×Option bk×Option bk×Bool×AV×AV×AV)
 |.ok .normal tm [] s=>some (FT c0 c1 t tm s)
 |_=>none
noncomputable def FU(c0 c1 t:Nat):aS→Option (Option bk×Option bk×Option bk×Bool×AV×AV×AV)
 |.ok .ret tm [] s=>some (FT c0 c1 t tm s)
 |_=>none
theorem wG{c0 c1 t:Nat}{r:aS}{o0 o1 o2:bk}{v1 v13 v:AV}(h:um c0 c1 t r=some (some o0,some o1,some o2,true,v1,v13,v)):∃tm s,r=.ok .normal tm [] s∧s.heap.at_ c0=some o0∧s.heap.at_ (c0+1)=some o1∧s.heap.at_ (c0+2)=some o2∧s.next≤c1∧ev (bM dY 1) tm=v1∧ev (bM dY 13) tm=v13∧ev (bM dY t) tm=v:=by
 unfold um at h;exact MQ
theorem XS{c0 c1 t:Nat}{r:aS}{o0 o1 o2:bk}{v1 v13 v:AV}(h:FU c0 c1 t r=some (some o0,some o1,some o2,true,v1,v13,v)):∃tm s,r=.ok .ret tm [] s∧s.heap.at_ c0=some o0∧s.heap.at_ (c0+1)=some o1∧s.heap.at_ (c0+2)=some o2∧s.next≤c1∧ev (bM dY 1) tm=v1∧ev (bM dY 13) tm=v13∧ev (bM dY t) tm=v:=by
 unfold FU at h;exact MQ
end Go.Proofs.Tryz
namespace Go.Proofs.Tryz
open Go.Proofs.YtlpombjidhloiaaGreat.Eng
set_option maxRecDepth 100000
open Go.RowKit (Below)
def pj(name:List Nat)(kind typ:Nat)(v:AV)(at_:Nat):AV×AV:=(.str name,.agg [.str name,.int .u8 (.ofNat kind),.int .i64 (.ofNat typ),v,.int .i64 0,.int .i64 (.ofNat at_),.str [],.lit (.slice none 0 0)])
def jk(name:List Nat)(at_:Nat):AV×AV:=pj name 8 0 (.lit .nilIface) at_
def items:List (AV×AV):=[pj [73,78,84,69,71,69,82] 2 1 (.lit .nilIface) 0,pj [67,65,82,68,73,78,65,76] 2 2 (.lit .nilIface) 0,pj [66,79,79,76,69,65,78] 2 3 (.lit .nilIface) 0,pj [67,72,65,82] 2 4 (.lit .nilIface) 0,pj [66,73,84,83,69,84] 2 9 (.lit .nilIface) 0,
 pj [70,65,76,83,69] 1 3 (.ifc 97 (.bool false)) 0,pj [84,82,85,69] 1 3 (.ifc 97 (.bool true)) 0,pj [78,73,76] 1 7 (.ifc 108 (.agg [])) 0,
 jk [65,66,83] 1,jk [67,65,80] 2,jk [67,72,82] 3,jk [68,69,67] 4,jk [68,73,83,80,79,83,69] 5,jk [69,88,67,76] 6,jk [72,65,76,84] 7,jk [72,73,71,72] 8,jk [73,78,67] 9,jk [73,78,67,76] 10,jk [77,65,88] 11,jk [77,73,78] 12,jk [78,69,87] 13,jk [79,68,68] 14,jk [79,82,68] 15,jk [83,73,90,69] 16,jk [86,65,76] 17]
def wH(c0:Nat):List (Nat×bk):=[(c0,.map .str items),(c0+1,nJ c0),(c0+2,nK c0)]
structure MR(c0:Nat):Prop where
 big:1000≤c0
 a0:A0 c0=.ok .normal (sc (A0 c0)) [] (uj (A0 c0))
 a1:A1 c0=.ok .normal (sc (A1 c0)) [] (uj (A1 c0))
 a2:um c0 (c0+4) 12 (A2 c0)=some (some (.map .str []),some (nJ c0),some (nK c0),true,.ptr (c0+2) 0,ev (bM dY 13) (sc (A2 c0)),.map (c0+3))
 a2m:(uj (A2 c0)).heap.at_ (c0+3)=some (.map .str five)
 a3:∀i it x y L,i<6→x=.bool true∨x=.bool false→um c0 (c0+4+2*i) 15 (A3 c0 i it (.tup (x::y)) L)=some (some (.map .str L),some (nJ c0),some (nK c0),true,.ptr (c0+2) 0,.lit (.pointer (some ⟨it,0,none⟩)),x)
 a4:∀i it p L,i<5→p∈five→um c0 (c0+4+2*i) 13 (A4 c0 i it p.1 p.2 L)=some (some (.map .str L),some (nJ c0),some (nK c0),true,.ptr (c0+2) 0,.lit (.pointer (some ⟨it,0,none⟩)),.lit (.pointer (some ⟨it,0,none⟩)))
 a5:∀i it p L,i<5→p∈five→um c0 (c0+4+2*(i+1)) 13 (A5 c0 i it p.1 p.2 L)=some (some (.map .str (gK p.1 (dB p).2 L)),some (nJ c0),some (nK c0),true,.ptr (c0+2) 0,.lit (.pointer (some ⟨it,0,none⟩)),.lit (.pointer (some ⟨it,0,none⟩)))
 a6:∀it,FU c0 (c0+55) 0 (A6 c0 it)=some (some (.map .str items),some (nJ c0),some (nK c0),true,.ptr (c0+2) 0,.lit (.pointer (some ⟨it,0,none⟩)),.ptr (c0+2) 0)
theorem MS{i:Nat}(h:i<5):i=0∨i=1∨i=2∨i=3∨i=4:=by omega
theorem XT{i:Nat}(h:i<6):i=0∨i=1∨i=2∨i=3∨i=4∨i=5:=by omega
theorem wI{p:AV×AV}(h:p∈five):p=(.str [73,78,84,69,71,69,82],.int .i64 1)∨p=(.str [67,65,82,68,73,78,65,76],.int .i64 2)∨p=(.str [66,79,79,76,69,65,78],.int .i64 3)∨p=(.str [67,72,65,82],.int .i64 4)∨p=(.str [66,73,84,83,69,84],.int .i64 9):=by
 simpa[five]using h
end Go.Proofs.Tryz
