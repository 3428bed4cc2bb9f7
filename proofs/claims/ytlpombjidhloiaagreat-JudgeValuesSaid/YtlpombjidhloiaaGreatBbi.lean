/- A drawn region's run, operation by operation. A region that draws its order. Condition: what each theorem says. -/
import Derived.Test.YtlpombjidhloiaaGreatBbh
namespace Go.Proofs.YtlpombjidhloiaaGreat.Eng
section
variable {P:Program} {B:Tb} {ns:NS} {nt:Nat} {ops:Array Oper} {tm tm':Tm} {s s':St} {ex:Ex}
def Rc.TP(r:Rc)(b:Nat):Prop:=b<r.hi∧(b∈r.tl∨r.lo≤b)
def Rc.Dom(r:Rc)(b:Nat):Prop:=b<r.lo∧(r.call=true∨b∈r.fp)
structure Rc.Ok(r:Rc)(nx:Nat):Prop where
 le:r.lo≤r.hi
 hi:r.hi≤nx
 tl:r.call=false→∀b,r.lo≤b→b<r.hi→b∈r.tl
structure Jm [FX](P:Program)(ns:NS)(nt:Nat)(ops:Array Oper)(base i:Nat)(o:Oper)(p:Nat)(rs:List Rc)(tm tml:Tm)(s:St)(F:T bk)(G:St)(v:AV)(r:Rc)(tm':Tm)(s':St):Prop where
 ix:r.ix=gN rs
 md:r.md=md ns o.dst
 lo:r.lo=s.next
 hi:r.hi=G.next
 ok:r.Ok G.next
 tl:∀b,b∈r.tl→b∈G.wr∨s.next≤b
 tw:∀b,b∈G.wr→b∈r.tl
 tmq:tm'=put (Eng.md ns o.dst) v tm
 nx:s'.next=G.next
 lg:s'.wr=jj base G.wr s.wr
 sub:∀b o,F.at_ b=some o→s.heap.at_ b=some o
 dom:∀b o,F.at_ b=some o→r.call=true∨b∈r.fp
 c1:∀q∈cI p rs,∀b o,F.at_ b=some o→¬q.TP b
 c2:∀q∈cI p rs,∀b,r.TP b→¬q.Dom b
 c3:∀q∈cI p rs,∀b,r.TP b→¬q.TP b
 hp1:∀b,r.TP b→s'.heap.at_ b=G.heap.at_ b
 hp2:(∀b o,s.heap.at_ b=some o→b<s.next)→(∀b o,G.heap.at_ b=some o→b<G.next)→(∀b,b<s.next→b∉G.wr→G.heap.at_ b=F.at_ b)→∀b,¬r.TP b→s'.heap.at_ b=s.heap.at_ b
 later:∀t,ev (bM ns t) tml=.bot∨((∀(j:Nat) (o:Oper),i<j→ops[j]? =some o→o.dst=some t→∃p',cX (cn ops j) o.after.toList=some p'∧cL p' i=true)∧ev (bM ns t) tml=ev (bM ns t) tm)
 run:∀(e:En) (w:World) (a:Act),aZ e ⟨F,s.next,[]⟩ w→aY e s.next ns (hU (cI p rs) tml) a→a.tmps.size=nt→∀(K:Act→World→Prop) (Q:Exit→Act→World→Prop),
  (∀e' w' u,aW e ⟨F,s.next,[]⟩ w e' G w'→R e' G.next v u→(∀d,o.dst=some d→d<nt∨(v=und∧u=undef))→K (a.put o.dst u) w')→wpOp P ops Q i K a w
theorem afv [FX]{un:List Rc}{fp lg:List Nat}(h:zB un fp lg=true):(∀q∈un,∀b∈fp,b∉q.tl)∧(∀q∈un,∀b∈lg,b∉q.fp∧b∉q.tl)∧∀q∈un,q.call=true→lg=[]∧∀b∈fp,¬(q.lo≤b∧b<q.hi):=by
 unfold zB at h;rw[Bool.and_eq_true,Bool.and_eq_true]at h;obtain⟨h1,h2,h3⟩:=h;refine⟨fun q hq b hb hm=>xV h1 b hb ((oE _).2 ⟨q,hq,hm⟩),fun q hq b hb=>?_,fun q hq hc=>?_⟩
 ·have:=xV h2 b hb;rw[qY,List.mem_append,not_or]at this;exact⟨fun hm=>this.1 ((oE _).2 ⟨q,hq,hm⟩),fun hm=>this.2 ((oE _).2 ⟨q,hq,hm⟩)⟩
 ·have h4:=xW h3 q hq;simp only[hc,Bool.true_and,Bool.or_eq_false_iff]at h4;obtain⟨h5,h6⟩:=h4;refine⟨?_,fun b hb hh=>?_⟩
  ·cases lg with
   |nil=>rfl
   |cons x l=>cases(show(!false)=false from h5)
  ·have h7:=xW (l:=fp) (p:=ER q.lo q.hi) (by rw[h6];rfl) b hb;unfold ER at h7;rw[Nat.ble_eq_true_of_le hh.1,Nat.ble_eq_true_of_le hh.2]at h7;cases h7
theorem afw [FX]{un:List Rc}{nx:Nat}{lg:List Nat}(h:zC un nx lg=true):(∀q∈un,q.call=false)∧(∀q∈un,∀b∈q.tl,b<nx)∧∀q∈un,∀b∈lg,b∉q.fp∧b∉q.tl:=by
 unfold zC at h;rw[Bool.and_eq_true,Bool.and_eq_true]at h;obtain⟨h1,h2,h3⟩:=h;refine⟨fun q hq=>xW h1 q hq,fun q hq b hb=>?_,fun q hq b hb=>?_⟩
 ·have h4:=xW h2 b ((oE _).2 ⟨q,hq,hb⟩);rcases Nat.lt_or_ge b nx with h5|h5
  ·exact h5
  ·rw[Nat.ble_eq_true_of_le h5]at h4;cases h4
 ·refine⟨fun hm=>?_,fun hm=>?_⟩
  ·exact xV h3 b (by rw[qY,List.mem_append];exact .inl ((oE _).2 ⟨q,hq,hm⟩)) hb
  ·exact xV h3 b (by rw[qY,List.mem_append];exact .inr ((oE _).2 ⟨q,hq,hm⟩)) hb
theorem Jn [FX](h:T bk)(l:List Nat){b:Nat}{o:bk}(hb:(gf h l .leaf).at_ b=some o):h.at_ b=some o∧b∈l:=by
 rw[rh]at hb;by_cases hm:b∈l
 ·rw[if_pos hm]at hb;exact⟨hb,hm⟩
 ·rw[if_neg hm,T.at_leaf]at hb;cases hb
theorem UC [FX](h:T bk)(l:List Nat){b:Nat}{o:bk}(hb:(gf .leaf l h).at_ b=some o):h.at_ b=some o∧b∉l:=by
 rw[rh]at hb;by_cases hm:b∈l
 ·rw[if_pos hm,T.at_leaf]at hb;cases hb
 ·rw[if_neg hm]at hb;exact⟨hb,hm⟩
structure UD [FX](P:Program)(ns:NS)(nt:Nat)(ops:Array Oper)(base i:Nat)(o:Oper)(p:Nat)(rs:List Rc)(tm tml:Tm)(s:St)(G:St)(v:AV)(s':St):Prop where
 un:cI p rs=[]
 sp:s'=⟨G.heap,G.next,jj base G.wr s.wr⟩
 later:∀t,ev (bM ns t) tml=.bot∨((∀(j:Nat) (o:Oper),i<j→ops[j]? =some o→o.dst=some t→∃p',cX (cn ops j) o.after.toList=some p'∧cL p' i=true)∧ev (bM ns t) tml=ev (bM ns t) tm)
 wait:∀(j:Nat) (o:Oper),i<j→ops[j]? =some o→∃p',cX (cn ops j) o.after.toList=some p'∧cL p' i=true
 run:∀(e:En) (w:World) (a:Act),aZ e ⟨s.heap,s.next,[]⟩ w→aY e s.next ns tml a→a.tmps.size=nt→∀(K:Act→World→Prop) (Q:Exit→Act→World→Prop),
  (∀e' w' u,aW e ⟨s.heap,s.next,[]⟩ w e' G w'→R e' G.next v u→Q (.panic [{v:=u,recovered:=false}]) a w')→wpOp P ops Q i K a w
theorem afx{x r:aS}{k q:AV→St→aS}(h:ES x k q=r)(hr:∀m,r≠.bad m):∃v g,(x=.ret v g∧k v g=r)∨(∃tm ds,x=.pan v tm ds g∧q v g=r):=by
 cases x with
 |ret v g=>exact⟨v,g,.inl ⟨rfl,h⟩⟩
 |pan v tm ds g=>exact⟨v,g,.inr ⟨tm,ds,rfl,h⟩⟩
 |ok _ _ _ _=>exact absurd h.symm (hr _)
 |okR _ _ _ _=>exact absurd h.symm (hr _)
 |retR _ _=>exact absurd h.symm (hr _)
 |bad _=>exact absurd h.symm (hr _)
theorem UE [FX]{B:Tb}{all:List Oper}{ix:Nat}:∀(l:List Oper) (k:Nat),ops.toList.drop k=l→zD ix (lM B ns nt all l k (cn ops k))=true→∀(j:Nat) (o:Oper),k≤j→ops[j]? =some o→∃p',cX (cn ops j) o.after.toList=some p'∧cL p' ix=true
 |[],k,hl,_,j,o,hj,ho=>by
  have h4:=List.drop_eq_nil_iff.1 hl;have h5:=(Array.getElem?_eq_some_iff.1 ho).1;simp at h4;omega
 |o::l,k,hl,h,j,o',hj,ho'=>by
  have hlt:k<ops.size:=by
   rcases Nat.lt_or_ge k ops.size with h1|h1
   ·exact h1
   ·exact Di
  have ho:ops[k]? =some o:=by
   have h1:(ops.toList.drop k)[0]? =some o:=by rw[hl];rfl
   exact Dk
  have je:ops.toList.drop (k+1)=l:=by
   exact Dl
  replace h:and (Option.rec false (fun p=>cL p ix) (cX (cn ops k) o.after.toList)) (zD ix (lM B ns nt all l (k+1) (pe (cX (cn ops k) o.after.toList) k (cn ops k))))=true:=h
  rw[Bool.and_eq_true,←xY ho]at h;by_cases hjk:j=k
  ·subst hjk;rw[ho]at ho';cases ho';cases hp:cX (cn ops j) o.after.toList with
   |none=>rw[hp]at h;cases h.1
   |some p=>rw[hp]at h;exact⟨p,rfl,h.1⟩
  ·exact UE l (k+1) je h.2 j o' (by omega) ho'
theorem UF [FX]{B:Tb}{all:List Oper}{ix t:Nat}{tm:Tm}:∀(l:List Oper) (k:Nat),ops.toList.drop k=l→ev (bM ns t) (gM ix (lM B ns nt all l k (cn ops k)) tm)=.bot∨((∀(j:Nat) (o:Oper),k≤j→ops[j]? =some o→o.dst=some t→∃p',cX (cn ops j) o.after.toList=some p'∧cL p' ix=true)∧ev (bM ns t) (gM ix (lM B ns nt all l k (cn ops k)) tm)=ev (bM ns t) tm)
 |[],k,hl=>.inr ⟨fun j o hj ho=>by
  have h4:=List.drop_eq_nil_iff.1 hl;have h5:=(Array.getElem?_eq_some_iff.1 ho).1;simp at h4;omega,rfl⟩
 |o::l,k,hl=>by
  have hlt:k<ops.size:=by
   rcases Nat.lt_or_ge k ops.size with h1|h1
   ·exact h1
   ·exact Di
  have ho:ops[k]? =some o:=by
   have h1:(ops.toList.drop k)[0]? =some o:=by rw[hl];rfl
   exact Dk
  have je:ops.toList.drop (k+1)=l:=by
   exact Dl
  have ih:=UF (B:=B) (all:=all) (ix:=ix) (t:=t) (tm:=tm) l (k+1) je;rw[xY ho]at ih;show ev (bM ns t) (EP (md ns o.dst) (gM ix (lM B ns nt all l (k+1) (pe (cX (cn ops k) o.after.toList) k (cn ops k))) tm) ix (cX (cn ops k) o.after.toList))=.bot∨(_∧ev (bM ns t) (EP (md ns o.dst) (gM ix (lM B ns nt all l (k+1) (pe (cX (cn ops k) o.after.toList) k (cn ops k))) tm) ix (cX (cn ops k) o.after.toList))=_);generalize gM ix (lM B ns nt all l (k+1) (pe (cX (cn ops k) o.after.toList) k (cn ops k))) tm=T at ih;have hput:ev (bM ns t) (put (md ns o.dst) .bot T)=.bot∨(o.dst≠some t∧ev (bM ns t) (put (md ns o.dst) .bot T)=ev (bM ns t) T):=by
   cases hd:o.dst with
   |none=>exact .inr ⟨(fun hh=>(by cases hh)),rfl⟩
   |some d=>
    rw[xS];by_cases hdt:d=t
    ·exact .inl (if_pos hdt)
    ·exact .inr ⟨fun hh=>hdt (by cases hh;rfl),if_neg hdt⟩
  have hblot:ev (bM ns t) (put (md ns o.dst) .bot T)=.bot∨((∀(j:Nat) (o:Oper),k≤j→ops[j]? =some o→o.dst=some t→∃p',cX (cn ops j) o.after.toList=some p'∧cL p' ix=true)∧ev (bM ns t) (put (md ns o.dst) .bot T)=ev (bM ns t) tm):=by
   rcases hput with h1|⟨h1,h2⟩
   ·exact .inl h1
   ·rcases ih with h3|⟨h3,h4⟩
    ·exact .inl (h2.trans h3)
    ·refine .inr ⟨fun j o' hj ho' hd'=>?_,h2.trans h4⟩;by_cases hjk:j=k
     ·subst hjk;rw[ho]at ho';cases ho';exact absurd hd' h1
     ·exact h3 j o' (by omega) ho' hd'
  cases hp:cX (cn ops k) o.after.toList with
  |none=>exact hblot
  |some p=>
   show ev (bM ns t) (Bool.rec (put (md ns o.dst) .bot T) T (cL p ix))=.bot∨(_∧ev (bM ns t) (Bool.rec (put (md ns o.dst) .bot T) T (cL p ix))=_);cases hb:cL p ix with
   |false=>exact hblot
   |true=>
    rcases ih with h3|⟨h3,h4⟩
    ·exact .inl h3
    ·refine .inr ⟨fun j o' hj ho' hd'=>?_,h4⟩;by_cases hjk:j=k
     ·subst hjk;rw[ho]at ho';cases ho';exact⟨p,hp,hb⟩
     ·exact h3 j o' (by omega) ho' hd'
theorem afy [FX](ht:bS P B){n:Nat}(hF:qD P B n){base i dn:Nat}{o:Oper}(ho:ops[i]? =some o){l:List DO}{rs:List Rc}(hrs:∀q∈rs,q.Ok s.next)(hix:gN rs=i)(hl:l=lM B ns nt ops.toList (ops.toList.drop (i+1)) (i+1) (cn ops (i+1))){r0:aS}(cT:∀m,r0≠.bad m)
 (h:LI (cX (cn ops i) o.after.toList) (rV o.dst dn) ⟨fo B ns nt ops.toList o,o.dst,cX (cn ops i) o.after.toList,bZ (mv ns) o.op.operands.toList⟩ (run B n) l rs base tm s=r0):
 ∃p gb G v,cX (cn ops i) o.after.toList=some p∧rV o.dst dn=some gb∧((∃F r jT s1,Jm P ns nt ops base i o p rs tm (gM i l tm) s F G v r jT s1∧run B n (.dops l (r::rs) gb base jT s1)=r0)∨∃s1,UD P ns nt ops base i o p rs tm (gM i l tm) s G v s1∧r0=.pan v tm [] s1):=by
 have hlat:=fun t=>by
  have:=UF (B:=B) (ns:=ns) (nt:=nt) (all:=ops.toList) (ix:=i) (t:=t) (tm:=tm) (ops.toList.drop (i+1)) (i+1) rfl;rw[←hl]at this;exact this
 cases hp:cX (cn ops i) o.after.toList with
 |none=>rw[hp]at h;exact absurd h.symm (cT _)
 |some p=>
  cases hd:rV o.dst dn with
  |none=>rw[hp,hd]at h;exact absurd h.symm (cT _)
  |some gb=>
   rw[hp,hd]at h;have hun:∀q∈cI p rs,q.Ok s.next:=fun q hq=>hrs q (xX.1 hq).1
   replace h:LH (nD (Option.rec none (qt ns ops.toList) o.guard) (hU (cI p rs) (gM (gN rs) l tm))) (cI p rs) ⟨fo B ns nt ops.toList o,o.dst,some p,bZ (mv ns) o.op.operands.toList⟩ (hU (cI p rs) (gM (gN rs) l tm)) (run B n) l rs gb base tm s=r0:=h
   rw[hix]at h;cases hw:nD (Option.rec none (qt ns ops.toList) o.guard) (hU (cI p rs) (gM i l tm))with
   |none=>rw[hw]at h;exact absurd h.symm (cT _)
   |some wb=>
    rw[hw]at h;cases wb with
    |false=>
     replace h:run B n (.dops l (⟨gN rs,md ns o.dst,[],[],s.next,s.next,false⟩::rs) gb base (put (md ns o.dst) und tm) s)=r0:=h
     have hno:∀b,¬(Rc.TP ⟨gN rs,md ns o.dst,[],[],s.next,s.next,false⟩ b):=fun b hb=>by
      obtain⟨h1,h2|h2⟩:=hb
      ·cases h2
      ·exact absurd h1 (Nat.not_lt.2 h2)
     refine⟨p,gb,⟨.leaf,s.next,[]⟩,und,rfl,rfl,.inl ⟨.leaf,⟨gN rs,md ns o.dst,[],[],s.next,s.next,false⟩,_,s,?_,h⟩⟩;exact {
      ix:=rfl,md:=rfl,lo:=rfl,hi:=rfl,ok:=⟨Nat.le_refl _,Nat.le_refl _,fun _ b h1 h2=>absurd h2 (Nat.not_lt.2 h1)⟩,tl:=fun b hb=>((by cases hb)),tw:=fun b hb=>((by cases hb)),tmq:=rfl,nx:=rfl,lg:=rfl
      sub:=fun b o hb=>by rw[T.at_leaf]at hb;cases hb
      dom:=fun b o hb=>by rw[T.at_leaf]at hb;cases hb
      later:=fun t=>(hlat t).imp id fun h=>⟨fun j o hj=>h.1 j o hj,h.2⟩
      c1:=fun q _ b o hb=>by rw[T.at_leaf]at hb;cases hb
      c2:=fun q _ b hb=>absurd hb (hno b)
      c3:=fun q _ b hb=>absurd hb (hno b)
      hp1:=fun b hb=>absurd hb (hno b)
      hp2:=fun _ _ _ b _=>rfl
      run:=fun e w a hr hm hsz K Q hK=>by
       unfold wpOp;simp only[ho];rw[vf (ops:=ops) hm hw,if_neg (by decide)];exact hK e w undef (aW.refl hr) rf fun d _=>.inr ⟨rfl,rfl⟩}
    |true=>
     replace h:LG (iG (kF nt (cmp ns o.op B) o.dst)) (cI p rs) ⟨fo B ns nt ops.toList o,o.dst,some p,bZ (mv ns) o.op.operands.toList⟩ (hU (cI p rs) (gM i l tm)) (run B n) l rs gb base tm s=r0:=h
     cases hcb:iG (kF nt (cmp ns o.op B) o.dst)with
     |false=>
      rw[hcb]at h
      replace h:LF (fS (kF nt (cmp ns o.op B) o.dst) (hU (cI p rs) (gM i l tm)) ⟨gf s.heap (vV (bZ (mv ns) o.op.operands.toList) (hU (cI p rs) (gM i l tm))) .leaf,s.next,[]⟩) (LC (cI p rs) (vV (bZ (mv ns) o.op.operands.toList) (hU (cI p rs) (gM i l tm))) (run B n) l rs gb base tm (md ns o.dst) s)=r0:=h
      generalize vV (bZ (mv ns) o.op.operands.toList) (hU (cI p rs) (gM i l tm))=fp at h;have hne:kF nt (cmp ns o.op B) o.dst≠.none:=by intro hh;rw[hh]at h;exact absurd h.symm (cT _)
      obtain⟨hdc,hlt⟩:=Df rfl hne;rw[hdc]at h;cases hx:fS (cmp ns o.op B) (hU (cI p rs) (gM i l tm)) ⟨gf s.heap fp .leaf,s.next,[]⟩with
      |val v g=>
       rw[hx]at h;obtain⟨hg,h⟩:=Jl (show(Bool.rec (.bad [920]) (vX (run B n) l rs gb base tm (md ns o.dst) v ⟨gN rs,md ns o.dst,fp,iD g.wr (nF s.next (Nat.sub g.next s.next)),s.next,g.next,false⟩ ⟨gf g.heap (iD g.wr (nF s.next (Nat.sub g.next s.next))) s.heap,g.next,jj base g.wr s.wr⟩) (and (Nat.ble s.next g.next) (zB (cI p rs) fp g.wr)):aS)=r0 from h) cT;rw[Bool.and_eq_true]at hg;have hle:s.next≤g.next:=Nat.le_of_ble_eq_true hg.1;obtain⟨k1,k2,k3⟩:=afv hg.2;have htl:∀b,b∈iD g.wr (nF s.next (Nat.sub g.next s.next))↔b∈g.wr∨(s.next≤b∧b<g.next):=fun b=>by
        rw[qY,List.mem_append,UA,show s.next+Nat.sub g.next s.next=g.next from Nat.add_sub_cancel' hle]
       refine⟨p,gb,g,v,rfl,rfl,.inl ⟨gf s.heap fp .leaf,⟨gN rs,md ns o.dst,fp,iD g.wr (nF s.next (Nat.sub g.next s.next)),s.next,g.next,false⟩,_,_,?_,h⟩⟩;have hTP:∀b,Rc.TP ⟨gN rs,md ns o.dst,fp,iD g.wr (nF s.next (Nat.sub g.next s.next)),s.next,g.next,false⟩ b→b<g.next∧(b∈g.wr∨s.next≤b):=fun b hb=>by
        obtain⟨h1,h2|h2⟩:=hb
        ·rcases(htl b).1 h2 with h3|h3
         ·exact⟨h1,.inl h3⟩
         ·exact⟨h1,.inr h3.1⟩
        ·exact⟨h1,.inr h2⟩
       exact {
        ix:=rfl,md:=rfl,lo:=rfl,hi:=rfl,ok:=⟨hle,Nat.le_refl _,fun _ b h1 h2=>(htl b).2 (.inr ⟨h1,h2⟩)⟩
        tl:=fun b hb=>((htl b).1 hb).imp id (·.1)
        tw:=fun b hb=>(htl b).2 (.inl hb)
        tmq:=rfl,nx:=rfl,lg:=rfl
        sub:=fun b o hb=>(Jn _ _ hb).1
        dom:=fun b o hb=>.inr (Jn _ _ hb).2
        later:=fun t=>(hlat t).imp id fun h=>⟨fun j o hj=>h.1 j o hj,h.2⟩
        c1:=fun q hq b o hb hT=>by
         have hf:=(Jn _ _ hb).2;obtain⟨h1,h2|h2⟩:=hT
         ·exact k1 q hq b hf h2
         ·cases hc:q.call with
          |true=>exact(k3 q hq hc).2 b hf ⟨h2,h1⟩
          |false=>exact k1 q hq b hf ((hun q hq).tl hc b h2 h1)
        c2:=fun q hq b hT hD=>by
         obtain⟨h1,h2|h2⟩:=hTP b hT
         ·obtain⟨h3,h4|h4⟩:=hD
          ·rw[(k3 q hq h4).1]at h2;cases h2
          ·exact(k2 q hq b h2).1 h4
         ·have:=(hun q hq).le;have:=(hun q hq).hi;have:=hD.1;omega
        c3:=fun q hq b hT rF=>by
         obtain⟨h1,h2|h2⟩:=hTP b hT
         ·obtain⟨h3,h4|h4⟩:=rF
          ·exact(k2 q hq b h2).2 h4
          ·cases hc:q.call with
           |true=>rw[(k3 q hq hc).1]at h2;cases h2
           |false=>exact(k2 q hq b h2).2 ((hun q hq).tl hc b h4 h3)
         ·have:=(hun q hq).hi;have:=rF.1;omega
        hp1:=fun b hT=>by
         show(gf g.heap _ s.heap).at_ b=_;rw[rh,if_pos];obtain⟨h1,h2|h2⟩:=hTP b hT
         ·exact(htl b).2 (.inl h2)
         ·exact(htl b).2 (.inr ⟨h2,h1⟩)
        hp2:=fun hs hgb _ b hT=>by
         show(gf g.heap _ s.heap).at_ b=_;rw[rh];by_cases hm:b∈iD g.wr (nF s.next (Nat.sub g.next s.next))
         ·rw[if_pos hm];have hge:g.next≤b:=by
           rcases Nat.lt_or_ge b g.next with h1|h1
           ·exact absurd ⟨h1,.inl hm⟩ hT
           ·exact h1
          cases h2:g.heap.at_ b with
          |some o'=>have:=hgb b o' h2;omega
          |none=>
           cases h3:s.heap.at_ b with
           |some o'=>have:=hs b o' h3;omega
           |none=>rfl
         ·rw[if_neg hm]
        run:=fun e w a hr hm hsz K Q hK=>by
         unfold wpOp;simp only[ho];rw[vf (ops:=ops) hm hw,if_pos rfl];left;obtain⟨e1,w1,nx,h1,h2,h3⟩:=Jh ht hr hm hx;unfold Oper.wp;rw[h1];rcases h3 with⟨u,rfl,hu⟩|⟨rfl,rfl⟩
         ·exact hK e1 w1 u h2 hu fun d hd=>.inl (hlt d hd)
         ·exact hK e1 w1 undef h2 rf fun d hd=>.inl (hlt d hd)}
      |call f args g=>rw[hx]at h;exact absurd h.symm (cT _)
      |defer f args g=>rw[hx]at h;exact absurd h.symm (cT _)
      |recov g=>rw[hx]at h;exact absurd h.symm (cT _)
      |pan v g=>rw[hx]at h;exact absurd h.symm (cT _)
      |bad m=>rw[hx]at h;exact absurd h.symm (cT _)
     |true=>
      rw[hcb]at h
      replace h:LD (fS (kF nt (cmp ns o.op B) o.dst) (hU (cI p rs) (gM i l tm)) ⟨gf .leaf (iT Rc.tl (cI p rs)) s.heap,s.next,[]⟩) (run B n) (mN (cI p rs) (run B n) l rs gb base tm (md ns o.dst) s) (EU (cI p rs) l rs base tm s)=r0:=h
      have hne:kF nt (cmp ns o.op B) o.dst≠.none:=by intro hh;rw[hh]at h;exact absurd h.symm (cT _)
      obtain⟨hdc,hlt⟩:=Df rfl hne;rw[hdc]at h hcb;obtain⟨g0,as,gI⟩:=Jj hcb;obtain⟨c,x,hop,hcal,rfl,rfl⟩:∃c x,o.op=.call c∧c.callee=.value x∧g0=mv ns x∧as=bZ (mv ns) c.args.toList:=by
       cases vg gI rfl with
       |call c x h1 h2 h3=>cases h3;exact⟨c,x,h1,h2,rfl,rfl⟩
       |defer c x _ _ h3=>cases h3
       |panic x _ h3=>cases h3
       |recov c _ _ h3=>cases h3
      cases hx:fS (cmp ns o.op B) (hU (cI p rs) (gM i l tm)) ⟨gf .leaf (iT Rc.tl (cI p rs)) s.heap,s.next,[]⟩with
      |call f args s2=>
       rw[hx]at h;rw[gI]at hx;obtain⟨fi,cp,_,_,bu⟩:=Ji hx;subst bu;obtain⟨v,g,⟨hrun,h⟩|⟨Dy,ds9,hrun,h⟩⟩:=afx (show ES (run B n (.fn f args ⟨gf .leaf (iT Rc.tl (cI p rs)) s.heap,s.next,[]⟩)) (mN (cI p rs) (run B n) l rs gb base tm (md ns o.dst) s) (EU (cI p rs) l rs base tm s)=r0 from h) cT;rotate_left 1
       ·obtain⟨hg,h⟩:=Jl (show(Bool.rec (.bad [925]) (.pan v tm [] ⟨g.heap,g.next,jj base g.wr s.wr⟩) (and (rU (cI p rs)) (zD (gN rs) l)):aS)=r0 from h) cT;rw[Bool.and_eq_true,hix]at hg;have Wz:cI p rs=[]:=by
         cases hu:cI p rs with
         |nil=>rfl
         |cons q l=>rw[hu]at hg;cases(show false=true from hg.1)
        rw[Wz]at hw hx hrun;refine⟨p,gb,g,v,rfl,rfl,.inr ⟨_,?_,h.symm⟩⟩;exact {
         un:=Wz,sp:=rfl
         later:=fun t=>(hlat t).imp id fun h=>⟨fun j o hj=>h.1 j o hj,h.2⟩
         wait:=fun j o hj=>UE (B:=B) (ns:=ns) (nt:=nt) (all:=ops.toList) (ops.toList.drop (i+1)) (i+1) rfl (by rw[←hl];exact hg.2) j o hj
         run:=fun e w a hr hm hsz K Q hK=>by
          unfold wpOp;simp only[ho];rw[vf (ops:=ops) hm hw,if_pos rfl];left;obtain⟨_,vs,hvs,hexec⟩:=Db (P:=P) (s:=⟨s.heap,s.next,[]⟩) (w:=w) hm hop hcal hx;unfold Oper.wp;rw[hexec];refine hF f args _ e w vs hr hm.1 hvs ?_;have hrun':run B n (.fn f args ⟨s.heap,s.next,[]⟩)=.pan v Dy ds9 g:=hrun;rw[hrun'];exact fun e1 w1 u h1 hu=>hK e1 w1 u h1 hu}
       obtain⟨hg,h⟩:=Jl (show(Bool.rec (.bad [921]) (vX (run B n) l rs gb base tm (md ns o.dst) v ⟨gN rs,md ns o.dst,[],g.wr,s.next,g.next,true⟩ ⟨gf s.heap (iT Rc.tl (cI p rs)) g.heap,g.next,jj base g.wr s.wr⟩) (and (Nat.ble s.next g.next) (zC (cI p rs) s.next g.wr)):aS)=r0 from h) cT;rw[Bool.and_eq_true]at hg;have hle:s.next≤g.next:=Nat.le_of_ble_eq_true hg.1;obtain⟨k1,k2,k3⟩:=afw hg.2;refine⟨p,gb,g,v,rfl,rfl,.inl ⟨gf .leaf (iT Rc.tl (cI p rs)) s.heap,⟨gN rs,md ns o.dst,[],g.wr,s.next,g.next,true⟩,_,_,?_,h⟩⟩;exact {
        ix:=rfl,md:=rfl,lo:=rfl,hi:=rfl,ok:=⟨hle,Nat.le_refl _,fun hc=>((by cases hc))⟩
        tl:=fun b hb=>.inl hb
        tw:=fun b hb=>hb
        tmq:=rfl,nx:=rfl,lg:=rfl
        sub:=fun b o hb=>(UC _ _ hb).1
        dom:=fun b o hb=>.inl rfl
        later:=fun t=>(hlat t).imp id fun h=>⟨fun j o hj=>h.1 j o hj,h.2⟩
        c1:=fun q hq b o hb hT=>by
         have hf:=(UC _ _ hb).2;obtain⟨h1,h2|h2⟩:=hT
         ·exact hf ((oE _).2 ⟨q,hq,h2⟩)
         ·exact hf ((oE _).2 ⟨q,hq,(hun q hq).tl (k1 q hq) b h2 h1⟩)
        c2:=fun q hq b hT hD=>by
         obtain⟨h1,h2|h2⟩:=hT
         ·obtain⟨h3,h4|h4⟩:=hD
          ·rw[k1 q hq]at h4;cases h4
          ·exact(k3 q hq b h2).1 h4
         ·have h2':s.next≤b:=h2;have:=(hun q hq).le;have:=(hun q hq).hi;have:=hD.1;omega
        c3:=fun q hq b hT rF=>by
         obtain⟨h1,h2|h2⟩:=hT
         ·obtain⟨h3,h4|h4⟩:=rF
          ·exact(k3 q hq b h2).2 h4
          ·exact(k3 q hq b h2).2 ((hun q hq).tl (k1 q hq) b h4 h3)
         ·have h2':s.next≤b:=h2;have:=(hun q hq).hi;have:=rF.1;omega
        hp1:=fun b hT=>by
         show(gf s.heap _ g.heap).at_ b=_;rw[rh,if_neg];intro hm;obtain⟨q,hq,hm⟩:=(oE _).1 hm;obtain⟨h1,h2|h2⟩:=hT
         ·exact(k3 q hq b h2).2 hm
         ·exact absurd (k2 q hq b hm) (Nat.not_lt.2 h2)
        hp2:=fun hs hgb hlg b hT=>by
         show(gf s.heap _ g.heap).at_ b=_;rw[rh];by_cases hm:b∈iT Rc.tl (cI p rs)
         ·rw[if_pos hm]
         ·rw[if_neg hm];rcases Nat.lt_or_ge b s.next with h1|h1
          ·have h2:b∉g.wr:=fun aU=>hT ⟨Nat.lt_of_lt_of_le h1 hle,.inl aU⟩
           rw[hlg b h1 h2,rh,if_neg hm]
          ·have hge:g.next≤b:=by
            rcases Nat.lt_or_ge b g.next with h2|h2
            ·exact absurd ⟨h2,.inr h1⟩ hT
            ·exact h2
           cases h2:g.heap.at_ b with
           |some o'=>have:=hgb b o' h2;omega
           |none=>
            cases h3:s.heap.at_ b with
            |some o'=>have:=hs b o' h3;omega
            |none=>rfl
        run:=fun e w a hr hm hsz K Q hK=>by
         unfold wpOp;simp only[ho];rw[vf (ops:=ops) hm hw,if_pos rfl];left;obtain⟨_,vs,hvs,hexec⟩:=Db (P:=P) (s:=⟨gf .leaf (iT Rc.tl (cI p rs)) s.heap,s.next,[]⟩) (w:=w) hm hop hcal hx;unfold Oper.wp;rw[hexec];refine hF f args _ e w vs hr hm.1 hvs ?_;rw[hrun];exact fun e1 w1 u h1 hu=>hK e1 w1 u h1 hu fun d hd=>.inl (hlt d hd)}
      |val v g=>rw[hx]at h;exact absurd h.symm (cT _)
      |defer f args g=>rw[hx]at h;exact absurd h.symm (cT _)
      |recov g=>rw[hx]at h;exact absurd h.symm (cT _)
      |pan v g=>rw[hx]at h;exact absurd h.symm (cT _)
      |bad m=>rw[hx]at h;exact absurd h.symm (cT _)
structure Ch where
 rs:Nat→List Rc
 tm:Nat→Tm
 s:Nat→St
 dn:Nat→Nat
 F:Nat→T bk
 G:Nat→St
 v:Nat→AV
 r:Nat→Rc
 p:Nat→Nat
 tl:Nat→Tm
def Ch.Ok [FX](C:Ch)(P:Program)(ns:NS)(nt:Nat)(ops:Array Oper)(base i M:Nat):Prop:=∀j o,i≤j→j<M→ops[j]? =some o→cX (cn ops j) o.after.toList=some (C.p j)∧rV o.dst (C.dn j)=some (C.dn (j+1))∧C.rs (j+1)=C.r j::C.rs j∧
 Jm P ns nt ops base j o (C.p j) (C.rs j) (C.tm j) (C.tl j) (C.s j) (C.F j) (C.G j) (C.v j) (C.r j) (C.tm (j+1)) (C.s (j+1))
inductive Ch.End [FX](C:Ch)(P:Program)(ns:NS)(nt:Nat)(ops:Array Oper)(base M:Nat):aS→Prop
 |all (h:M=ops.size):Ch.End C P ns nt ops base M (.ok .normal (C.tm M) [] (C.s M))
 |pan (o:Oper) (p:Nat) (tml:Tm) (G:St) (v:AV) (s':St) (ho:ops[M]? =some o) (hp:cX (cn ops M) o.after.toList=some p) (hS:UD P ns nt ops base M o p (C.rs M) (C.tm M) tml (C.s M) G v s'):Ch.End C P ns nt ops base M (.pan v (C.tm M) [] s')
def upd{α:Type}(i:Nat)(x:α)(f:Nat→α):Nat→α:=fun j=>if j=i then x else f j
theorem yd{α:Type}(i:Nat)(x:α)(f:Nat→α):upd i x f i=x:=by simp[upd]
theorem vi{α:Type}{i j:Nat}(x:α)(f:Nat→α)(h:j≠i):upd i x f j=f j:=by simp[upd,h]
theorem Ch.End.upd [FX]{C C':Ch}{P:Program}{base M:Nat}{r:aS}(h:C.End P ns nt ops base M r)(h1:C'.tm M=C.tm M)(h2:C'.s M=C.s M)(h3:C'.rs M=C.rs M):C'.End P ns nt ops base M r:=by
 cases h with
 |all h=>rw[←h1,←h2];exact .all h
 |pan o p tml G v s' ho hp hS=>
  rw[←h1];refine .pan o p tml G v s' ho hp ?_;rw[h1,h2,h3];exact hS
theorem qE [FX](ht:bS P B){base:Nat}:∀(n:Nat),(∀m,m<n→qD P B m)→∀(l:List Oper) (i:Nat) (rs:List Rc) (dn:Nat) (tm:Tm) (s:St) (r0:aS),ops.toList.drop i=l→i≤ops.size→(∀q∈rs,q.Ok s.next)→gN rs=i→(∀m,r0≠.bad m)→
 run B n (.dops (lM B ns nt ops.toList l i (cn ops i)) rs dn base tm s)=r0→
 ∃(C:Ch) (M:Nat),i≤M∧M≤ops.size∧C.Ok P ns nt ops base i M∧C.rs i=rs∧C.tm i=tm∧C.s i=s∧C.dn i=dn∧C.End P ns nt ops base M r0
 |0,_,_,_,_,_,_,_,_,_,_,_,_,cT,h=>absurd h.symm (cT _)
 |n+1,hF,l,i,rs,dn,tm,s,r0,hl,hi,hrs,hix,cT,h=>by
  cases l with
  |nil=>
   have h4:=List.drop_eq_nil_iff.1 hl;simp at h4;have hM:i=ops.size:=by omega
   replace h:aS.ok .normal tm [] s=r0:=h
   subst h;refine⟨⟨fun _=>rs,fun _=>tm,fun _=>s,fun _=>dn,fun _=>.leaf,fun _=>s,fun _=>und,fun _=>⟨0,.none,[],[],0,0,false⟩,fun _=>0,fun _=>tm⟩,i,Nat.le_refl _,hi,fun j o hj vr=>by omega,rfl,rfl,rfl,rfl,?_⟩;exact Ch.End.all (C:=⟨fun _=>rs,fun _=>tm,fun _=>s,fun _=>dn,fun _=>.leaf,fun _=>s,fun _=>und,fun _=>⟨0,.none,[],[],0,0,false⟩,fun _=>0,fun _=>tm⟩) hM
  |cons o l=>
   have hlt:i<ops.size:=by
    rcases Nat.lt_or_ge i ops.size with h1|h1
    ·exact h1
    ·exact Di
   have ho:ops[i]? =some o:=by
    have h1:(ops.toList.drop i)[0]? =some o:=by rw[hl];rfl
    exact Dk
   have je:ops.toList.drop (i+1)=l:=by
    exact Dl
   obtain⟨p,gb,G,v,h1,h2,⟨F,r,jT,s1,h3,h4⟩|⟨s1,h3,h4⟩⟩:=afy ht (hF n (Nat.lt_succ_self n)) ho hrs hix (l:=lM B ns nt ops.toList l (i+1) (pe (cX (cn ops i) o.after.toList) i (cn ops i))) (by rw[je,xY ho]) cT h
   ·rw[←xY ho]at h4;have ahu:∀q∈r::rs,q.Ok s1.next:=fun q hq=>by
     have hle:=h3.ok.le;rw[h3.lo,h3.hi]at hle;rcases List.mem_cons.1 hq with rfl|hq
     ·rw[h3.nx];exact h3.ok
     ·have:=hrs q hq;exact⟨this.le,by rw[h3.nx];exact Nat.le_trans this.hi hle,this.tl⟩
    obtain⟨C,M,h5,h6,h7,h8,h9,h10,h11,h12⟩:=qE ht n (fun m hm=>hF m (by omega)) l (i+1) (r::rs) gb jT s1 r0 je hlt ahu (by show r.ix+1=i+1;rw[h3.ix,hix]) cT h4;refine⟨⟨upd i rs C.rs,upd i tm C.tm,upd i s C.s,upd i dn C.dn,upd i F C.F,upd i G C.G,upd i v C.v,upd i r C.r,upd i p C.p,upd i (gM i (lM B ns nt ops.toList l (i+1) (pe (cX (cn ops i) o.after.toList) i (cn ops i))) tm) C.tl⟩,M,by omega,h6,fun j o' hj hjM ho'=>?_,yd _ _ _,yd _ _ _,yd _ _ _,yd _ _ _,h12.upd (vi _ _ (by omega)) (vi _ _ (by omega)) (vi _ _ (by omega))⟩;by_cases hji:j=i
    ·subst hji;rw[ho]at ho';cases ho';have hne:j+1≠j:=by omega
     simp only[yd,vi _ _ hne,h8,h9,h10,h11];exact⟨h1,h2,trivial,h3⟩
    ·have hne:j+1≠i:=by omega
     simp only[vi _ _ hji,vi _ _ hne];exact h7 j o' (by omega) hjM ho'
   ·refine⟨⟨fun _=>rs,fun _=>tm,fun _=>s,fun _=>dn,fun _=>.leaf,fun _=>s,fun _=>und,fun _=>⟨0,.none,[],[],0,0,false⟩,fun _=>0,fun _=>tm⟩,i,Nat.le_refl _,hi,fun j o hj vr=>by omega,rfl,rfl,rfl,rfl,?_⟩;rw[h4];exact Ch.End.pan (C:=⟨fun _=>rs,fun _=>tm,fun _=>s,fun _=>dn,fun _=>.leaf,fun _=>s,fun _=>und,fun _=>⟨0,.none,[],[],0,0,false⟩,fun _=>0,fun _=>tm⟩) o p _ G v s1 ho h1 h3
end
section
variable {e e' e'':En} {w w':World} {h h' F:T bk} {G:St} {c K K':Nat} {l0 l':List Nat} {TP:Nat→Prop}
theorem UI(A Bh:T bk)(TP:Nat→Prop):∀K,∃h:T bk,∀b,((b<K∧TP b)→h.at_ b=A.at_ b)∧(¬(b<K∧TP b)→h.at_ b=Bh.at_ b)
 |0=>⟨Bh,fun b=>⟨fun h=>absurd h.1 (Nat.not_lt_zero _),fun _=>rfl⟩⟩
 |K+1=>by
  obtain⟨h,hh⟩:=UI A Bh TP K;rcases Classical.em (TP K)with hT|hT
  ·refine⟨h.setP (iC K) (A.at_ K),fun b=>?_⟩;have hat:(h.setP (iC K) (A.at_ K)).at_ b=if K=b then A.at_ K else h.at_ b:=by
    show(h.setP (iC K) (A.at_ K)).get (iC b)=_;rw[T.get_setP];by_cases hk:K=b
    ·subst hk;simp
    ·rw[if_neg (fun e=>hk (xK e)),if_neg hk];rfl
   rw[hat];by_cases hk:K=b
   ·subst hk;rw[if_pos rfl];exact⟨fun _=>rfl,fun hn=>absurd ⟨Nat.lt_succ_self _,hT⟩ hn⟩
   ·rw[if_neg hk];exact⟨fun h1=>(hh b).1 ⟨by have:=h1.1;omega,h1.2⟩,fun hn=>(hh b).2 fun h1=>hn ⟨by have:=h1.1;omega,h1.2⟩⟩
  ·refine⟨h,fun b=>⟨fun h1=>(hh b).1 ⟨?_,h1.2⟩,fun hn=>(hh b).2 fun h1=>hn ⟨by have:=h1.1;omega,h1.2⟩⟩⟩;have h2:b≠K:=fun e=>hT (e▸h1.2)
   have:=h1.1;omega
theorem aZ.part [FX]{s:St}(hr:aZ e s w)(hs:∀b o,F.at_ b=some o→s.heap.at_ b=some o)(hb:∀b o,F.at_ b=some o→b<c∧∀r,RO e s.next b o r→RO e c b o r):aZ e ⟨F,c,l'⟩ w:=
 ⟨fun b o hf=>by
  obtain⟨h1,h2,r,h3,h4⟩:=hr.obj b o (hs b o hf);exact⟨(hb b o hf).1,h2,r,h3,(hb b o hf).2 r h4⟩,fun b o b' o' h1 h2 he=>hr.inj b o b' o' (hs _ _ h1) (hs _ _ h2) he,fun g o hg=>⟨(hr.fx g o hg).1,fun b o' hb=>(hr.fx g o hg).2 b o' (hs b o' hb)⟩⟩
structure Fr [FX](e:En)(w:World)(h:T bk)(K:Nat)(l0:List Nat)(F:T bk)(c:Nat)(e':En)(G:St)(w':World)(TP:Nat→Prop)(h':T bk):Prop where
 rep:aZ e ⟨h,K,l0⟩ w
 sub:∀b o,F.at_ b=some o→h.at_ b=some o
 lt:∀b o,F.at_ b=some o→b<c
 st:aW e ⟨F,c,[]⟩ w e' G w'
 in1:∀b,TP b→b<G.next∧h'.at_ b=G.heap.at_ b
 out:∀b,¬TP b→h'.at_ b=h.at_ b
 kp:∀b,¬TP b→b<c→G.heap.at_ b=F.at_ b
theorem Fr.cls [FX](f:Fr e w h K l0 F c e' G w' TP h'){b:Nat}{o:bk}(hb:h'.at_ b=some o):(G.heap.at_ b=some o∧b<G.next)∨(h.at_ b=some o∧F.at_ b=none∧¬TP b):=by
 rcases Classical.em (TP b)with hT|hT
 ·obtain⟨h1,h2⟩:=f.in1 b hT;exact .inl ⟨h2▸hb,h1⟩
 ·rw[f.out b hT]at hb;cases hF:F.at_ b with
  |none=>exact .inr ⟨hb,rfl,hT⟩
  |some o1=>
   have h1:=f.sub b o1 hF;rw[hb]at h1;cases h1;have h2:G.heap.at_ b=some o:=by rw[f.kp b hT (f.lt b _ hF),hF]
   exact .inl ⟨h2,(f.st.rep.obj b o h2).1⟩
theorem Fr.cross [FX](f:Fr e w h K l0 F c e' G w' TP h'){b b':Nat}{o o':bk}(h1:G.heap.at_ b=some o)(h2:h.at_ b'=some o')(h3:F.at_ b'=none)(he:e'.σ b=e.σ b'):False:=by
 rcases f.st.own b o h1 with⟨b0,o0,h4,h5⟩|h4
 ·have:=f.rep.inj b0 o0 b' o' (f.sub _ _ h4) h2 (h5.trans he);subst this;rw[show F.at_ b0=some o0 from h4]at h3;cases h3
 ·have:=(f.rep.obj b' o' h2).2.1;omega
theorem Fr.repA [FX](f:Fr e w h K l0 F c e' G w' TP h')(hK:G.next≤K')(hx:cW G.next e' e'')(_hfx:e''.fx=e.fx)(h5:∀b o,h.at_ b=some o→¬TP b→b<K'∧e''.σ b=e.σ b∧∀r,RO e K b o r→RO e'' K' b o r):aZ e'' ⟨h',K',l'⟩ w':=by
 refine⟨fun b o hb=>?_,fun b o b' o' hb hb' he=>?_,fun g o hg=>?_⟩
 ·rcases f.cls hb with⟨h1,h2⟩|⟨h1,h2,h3⟩
  ·obtain⟨_,q2,r,q3,q4⟩:=f.st.rep.obj b o h1;have hσ:=(hx b h2).1;refine⟨Nat.lt_of_lt_of_le h2 hK,by rw[hσ];exact q2,r,by rw[hσ];exact q3,q4.ext hx hK h2⟩
  ·obtain⟨_,q2,r,q3,q4⟩:=f.rep.obj b o h1;obtain⟨p1,p2,p3⟩:=h5 b o h1 h3;refine⟨p1,by rw[p2];exact Nat.lt_of_lt_of_le q2 f.st.size,r,?_,p3 r q4⟩;rw[p2,f.st.kp (e.σ b) q2 fun b1 o1 ae he=>?_]
   ·exact q3
   ·have:=f.rep.inj b1 o1 b o (f.sub _ _ ae) h1 he;subst this;rw[show F.at_ b1=some o1 from ae]at h2;cases h2
 ·rcases f.cls hb with⟨h1,h2⟩|⟨h1,h2,h3⟩<;>rcases f.cls hb' with⟨h1',h2'⟩|⟨h1',h2',h3'⟩
  ·rw[(hx b h2).1,(hx b' h2').1]at he;exact f.st.rep.inj b o b' o' h1 h1' he
  ·rw[(hx b h2).1,(h5 b' o' h1' h3').2.1]at he;exact(f.cross h1 h1' h2' he).elim
  ·rw[(h5 b o h1 h3).2.1,(hx b' h2').1]at he;exact(f.cross h1' h1 h2 he.symm).elim
  ·rw[(h5 b o h1 h3).2.1,(h5 b' o' h1' h3').2.1]at he;exact f.rep.inj b o b' o' h1 h1' he
 ·have q:=f.st.rep.fx g o hg;refine⟨q.1,fun b o' hb=>?_⟩;rcases f.cls hb with⟨h1,h2⟩|⟨h1,h2,h3⟩
  ·rw[(hx b h2).1];exact q.2 b o' h1
  ·rw[(h5 b o' h1 h3).2.1];exact(f.rep.fx g o hg).2 b o' h1
theorem Fr.own [FX](f:Fr e w h K l0 F c e' G w' TP h')(hx:cW G.next e' e'')(h5:∀b o,h.at_ b=some o→¬TP b→e''.σ b=e.σ b){p:Nat→Prop}{m:Nat}(hm:m≤w.heap.size)(ho:∀b o,h.at_ b=some o→p (e.σ b)∨m≤e.σ b):∀b o,h'.at_ b=some o→p (e''.σ b)∨m≤e''.σ b:=fun b o hb=>by
 rcases f.cls hb with⟨h1,h2⟩|⟨h1,h2,h3⟩
 ·rw[(hx b h2).1];rcases f.st.own b o h1 with⟨b0,o0,h4,h6⟩|h4
  ·have:=ho b0 o0 (f.sub _ _ h4);rw[h6]at this;exact this
  ·exact .inr (Nat.le_trans hm h4)
 ·rw[h5 b o h1 h3];exact ho b o h1
theorem Jo(p:Nat→Prop):∀i,(∀j,j<i→¬p j)∨∃j,j<i∧p j∧∀j',j<j'→j'<i→¬p j'
 |0=>.inl fun j hj=>absurd hj (Nat.not_lt_zero _)
 |i+1=>by
  rcases Classical.em (p i)with h|h
  ·exact .inr ⟨i,Nat.lt_succ_self _,h,fun j' h1 h2=>by omega⟩
  ·rcases Jo p i with h1|⟨j,h1,h2,h3⟩
   ·exact .inl fun j hj=>by
     by_cases hji:j=i
     ·subst hji;exact h
     ·exact h1 j (by omega)
   ·refine .inr ⟨j,by omega,h2,fun j' h4 h5=>?_⟩;by_cases hji:j'=i
    ·subst hji;exact h
    ·exact h3 j' h4 (by omega)
end
section
variable {ns:NS} {t:Nat}
theorem Jp [FX](g:Rc→Option Nat):∀{rs:List Rc} {tm:Tm},(∀r∈rs,r.md=md ns (g r))→ev (bM ns t) (hU rs tm)=.bot∨((∀r∈rs,g r≠some t)∧ev (bM ns t) (hU rs tm)=ev (bM ns t) tm)
 |[],tm,_=>.inr ⟨fun r hr=>by simp at hr,rfl⟩
 |r::rs,tm,h=>by
  have h1:=h r (by simp);show ev (bM ns t) (put r.md .bot (hU rs tm))=.bot∨(_∧ev (bM ns t) (put r.md .bot (hU rs tm))=_);rw[h1];rcases Jp g (rs:=rs) (tm:=tm) (fun q hq=>h q (List.mem_cons_of_mem _ hq))with h2|⟨h2,h3⟩
  ·left;cases hg:g r with
   |none=>exact h2
   |some d=>
    rw[xS];by_cases hd:d=t
    ·rw[if_pos hd]
    ·rw[if_neg hd];exact h2
  ·cases hg:g r with
   |none=>
    right;refine⟨fun q hq=>?_,h3⟩;rcases List.mem_cons.1 hq with rfl|hq
    ·rw[hg];(intro hh;cases hh)
    ·exact h2 q hq
   |some d=>
    rw[xS];by_cases hd:d=t
    ·left;rw[if_pos hd]
    ·right;rw[if_neg hd];refine⟨fun q hq=>?_,h3⟩;rcases List.mem_cons.1 hq with rfl|hq
     ·rw[hg];intro hh;cases hh;exact hd rfl
     ·exact h2 q hq
theorem UJ [FX]{d:Option Nat}{dn gb:Nat}(h:rV d dn=some gb):(∀x,cL dn x=true→cL gb x=true)∧∀t,d=some t→cL dn t=false∧cL gb t=true:=by
 cases d with
 |none=>
  injection (show some dn=some gb from h)with h
  subst h;exact⟨fun x hx=>hx,fun t ht=>(by cases ht)⟩
 |some y=>
  replace h:(Bool.rec (some (Nat.lor dn (Nat.shiftLeft 1 y))) none (cL dn y):Option Nat)=some gb:=h
  cases hb:cL dn y with
  |true=>rw[hb]at h;cases h
  |false=>
   rw[hb]at h;injection (show some (Nat.lor dn (Nat.shiftLeft 1 y))=some gb from h)with h
   subst h;refine⟨fun x hx=>by rw[Dh,hx];rfl,fun t ht=>?_⟩;cases ht;exact⟨hb,by rw[Dh,Uy];simp⟩
end
section
variable {P:Program} {ns:NS} {nt base M:Nat} {ops:Array Oper} {C:Ch}
structure UK(C:Ch)(i:Nat):Prop where
 lg:∀b,b<(C.s i).next→b∉(C.G i).wr→(C.G i).heap.at_ b=(C.F i).at_ b
 bd:∀b o,(C.G i).heap.at_ b=some o→b<(C.G i).next
def pQ [FX](C:Ch)(ns:NS)(nt i:Nat):Prop:=∃(e:En) (w:World) (a:Act),aZ e ⟨(C.s i).heap,(C.s i).next,[]⟩ w∧aY e (C.s i).next ns (C.tm i) a∧a.tmps.size=nt
theorem Ch.Ok.of [FX](hC:C.Ok P ns nt ops base 0 M)(hM:M≤ops.size){i:Nat}(hi:i<M):∃o,ops[i]? =some o∧cX (cn ops i) o.after.toList=some (C.p i)∧rV o.dst (C.dn i)=some (C.dn (i+1))∧C.rs (i+1)=C.r i::C.rs i∧
 Jm P ns nt ops base i o (C.p i) (C.rs i) (C.tm i) (C.tl i) (C.s i) (C.F i) (C.G i) (C.v i) (C.r i) (C.tm (i+1)) (C.s (i+1)):=by
 have hlt:i<ops.size:=by omega
 have ho:ops[i]? =some ops[i]:=by simp[hlt]
 exact⟨ops[i],ho,hC i ops[i] (Nat.zero_le _) hi ho⟩
theorem afz [FX](hC:C.Ok P ns nt ops base 0 M)(hM:M≤ops.size){i:Nat}(hi:i<M):(C.s i).next≤(C.s (i+1)).next:=by
 obtain⟨_,_,_,_,_,D⟩:=hC.of hM hi;have:=D.ok.le;rw[D.lo,D.hi]at this;rw[D.nx];exact this
theorem nu [FX](hC:C.Ok P ns nt ops base 0 M)(hM:M≤ops.size):∀{j i:Nat},i≤j→j≤M→(C.s i).next≤(C.s j).next
 |0,i,h,_=>by rw[show i=0 by omega];exact Nat.le_refl _
 |j+1,i,h,hj=>by
  by_cases hij:i=j+1
  ·rw[hij];exact Nat.le_refl _
  ·exact Nat.le_trans (nu hC hM (j:=j) (by omega) (by omega)) (afz hC hM (by omega))
theorem Dn [FX](hC:C.Ok P ns nt ops base 0 M)(hM:M≤ops.size)(h0:C.rs 0=[]):∀{i:Nat},i≤M→gN (C.rs i)=i∧∀q,q∈C.rs i↔∃j,j<i∧q=C.r j
 |0,_=>by
  rw[h0];exact⟨rfl,fun q=>⟨fun h=>by simp at h,fun⟨j,hj,_⟩=>absurd hj (Nat.not_lt_zero _)⟩⟩
 |i+1,hi=>by
  obtain⟨h1,h2⟩:=Dn hC hM h0 (i:=i) (by omega);obtain⟨_,_,_,_,h3,D⟩:=hC.of hM (i:=i) (by omega);rw[h3];refine⟨?_,fun q=>?_⟩
  ·show(C.r i).ix+1=i+1;rw[D.ix,h1]
  ·rw[List.mem_cons,h2];constructor
   ·rintro(rfl|⟨j,hj,rfl⟩)
    ·exact⟨i,by omega,rfl⟩
    ·exact⟨j,by omega,rfl⟩
   ·rintro⟨j,hj,rfl⟩;by_cases hji:j=i
    ·subst hji;exact .inl rfl
    ·exact .inr ⟨j,by omega,rfl⟩
theorem Jq [FX](hC:C.Ok P ns nt ops base 0 M)(hM:M≤ops.size)(h0:C.rs 0=[]){i:Nat}(hi:i<M):(C.r i).ix=i:=by
 obtain⟨_,_,_,_,_,D⟩:=hC.of hM hi;rw[D.ix,(Dn hC hM h0 (by omega)).1]
theorem ye [FX](hC:C.Ok P ns nt ops base 0 M)(hM:M≤ops.size)(h0:C.rs 0=[]){i j:Nat}{p:Nat}(hi:i≤M)(hj:j<i)(hn:cL p j=false):C.r j∈cI p (C.rs i):=
 xX.2 ⟨((Dn hC hM h0 hi).2 _).2 ⟨j,hj,rfl⟩,by rw[Jq hC hM h0 (by omega)];exact hn⟩
theorem UL [FX](hC:C.Ok P ns nt ops base 0 M)(hM:M≤ops.size)(h0:C.rs 0=[]){i:Nat}{p:Nat}(hi:i≤M):∀q∈cI p (C.rs i),q.md=md ns (((ops[q.ix]?).bind (·.dst))):=fun q hq=>by
 obtain⟨j,hj,rfl⟩:=((Dn hC hM h0 hi).2 q).1 (xX.1 hq).1;obtain⟨_,ho,_,_,_,Dj⟩:=hC.of hM (i:=j) (by omega);rw[Jq hC hM h0 (by omega),Dj.md,ho];rfl
theorem vj [FX](hC:C.Ok P ns nt ops base 0 M)(hM:M≤ops.size)(h0:C.rs 0=[])(hT:pQ C ns nt 0):∀{i:Nat},i≤M→pQ C ns nt i∧∀j,j<i→UK C j
 |0,_=>⟨hT,fun j hj=>absurd hj (Nat.not_lt_zero _)⟩
 |i+1,hi=>by
  obtain⟨⟨e,w,a,hr,hm,hsz⟩,hfs⟩:=vj hC hM h0 hT (i:=i) (by omega);obtain⟨o,ho,_,_,_,D⟩:=hC.of hM (i:=i) (by omega);have hrF:aZ e ⟨C.F i,(C.s i).next,[]⟩ w:=hr.part D.sub fun b o hb=>⟨(hr.obj b o (D.sub b o hb)).1,fun r h=>h⟩
  have hmb:aY e (C.s i).next ns (hU (cI (C.p i) (C.rs i)) (C.tl i)) a:=⟨hm.1,fun t=>by
   rcases Jp (t:=t) (tm:=C.tl i) _ (UL hC hM h0 (i:=i) (p:=C.p i) (by omega))with h|⟨_,h⟩
   ·rw[h];exact trivial
   ·rw[h];rcases D.later t with h|⟨_,h⟩
    ·rw[h];exact trivial
    ·rw[h];exact hm.2 t⟩
  obtain⟨a',w',e',u,h1,h2,rfl,h3⟩:=afu (D.run e w a hrF hmb hsz (fun a' w'=>∃e' u,aW e ⟨C.F i,(C.s i).next,[]⟩ w e' (C.G i) w'∧R e' (C.G i).next (C.v i) u∧a'=a.put o.dst u∧∀d,o.dst=some d→d<nt∨(C.v i=und∧u=undef)) (fun _ _ _=>False) fun e' w' u h1 h2 h3=>⟨e',u,h1,h2,rfl,h3⟩);have hle:(C.s i).next≤(C.G i).next:=h1.nx;have fct:UK C i:=⟨fun b hb hn=>by
   obtain⟨l,q1,q2⟩:=h1.lg;refine q2 b hb ?_;rw[q1]at hn;simpa using hn,fun b o hb=>(h1.rep.obj b o hb).1⟩
  have hout:∀b,¬(C.r i).TP b→(C.s (i+1)).heap.at_ b=(C.s i).heap.at_ b:=D.hp2 (fun b o hb=>(hr.obj b o hb).1) fct.bd fct.lg;have fr:Fr e w (C.s i).heap (C.s i).next [] (C.F i) (C.s i).next e' (C.G i) w' (C.r i).TP (C.s (i+1)).heap:=
   ⟨hr,D.sub,fun b o hb=>(hr.obj b o (D.sub b o hb)).1,h1,fun b hT=>⟨D.hi▸hT.1,D.hp1 b hT⟩,hout,fun b hT hb=>fct.lg b hb fun hw=>hT ⟨by rw[D.hi];omega,.inl (D.tw b hw)⟩⟩
  refine⟨⟨e',w',a.put o.dst u,?_,?_,by rw[jZ];exact hsz⟩,fun j hj=>?_⟩
  ·refine fr.repA (by rw[D.nx];exact Nat.le_refl _) (cW.refl _ _) h1.fx fun b o hb _=>?_
   have kK:=(hr.obj b o hb).1;exact⟨by rw[D.nx];exact Nat.lt_of_lt_of_le kK hle,(h1.ext b kK).1,fun r hq=>hq.ext h1.ext (by rw[D.nx];exact hle) kK⟩
  ·rw[D.nx,D.tmq];exact(hm.ext h1.ext hle).put h2 fun d hd=>by rw[hsz];exact h3 d hd
  ·by_cases hji:j=i
   ·subst hji;exact fct
   ·exact hfs j (by omega)
end
end Go.Proofs.YtlpombjidhloiaaGreat.Eng
