/- A region that draws its order and makes new variables while . The document's tokens of a source, in plain words. Condition: what each theorem says. -/
import Derived.Test.YtlpombjidhloiaaGreatBaf
import Derived.StillTail
import Derived.Deep.Quiet
namespace Go.Proofs.YtlpombjidhloiaaGreat
open Go.RowKit
structure Al where
 idx:Nat
 slot:Nat
 cells:Array Value
 ty:TypeId
abbrev Fl:=List (Al×Option Nat)
def dG(L:Array Bool):Fl→Array Bool
 |[]=>L
 |(m,some _)::fl=>(dG L fl).setIfInBounds m.idx true
 |(_,none)::fl=>dG L fl
def gh(a:Act):Fl→Act
 |[]=>a
 |(m,some b)::fl=>(gh a fl).put (some m.slot) (.pointer (some ⟨b,0,none⟩))
 |(_,none)::fl=>gh a fl
def gP(B:Nat)(w:World):Fl→Prop
 |[]=>True
 |(m,some b)::fl=>(B≤b∧w.heap[b]? =some (.cells m.cells m.ty)∧∀m' b',(m',some b')∈fl→b'≠b)∧gP B w fl
 |(_,none)::fl=>gP B w fl
theorem ld{w:World}{b:Nat}{o:Obj}(h:w.heap[b]? =some o):b<w.heap.size:=by
 rcases Nat.lt_or_ge b w.heap.size with h'|h'
 ·exact h'
 ·rw[Array.getElem?_eq_none h']at h;cases h
theorem gP.later{B:Nat}{w w':World}:∀{fl:Fl},gP B w fl→Below w.heap.size w w'→gP B w' fl
 |[],_,_=>trivial
 |(_,some _)::_,⟨⟨h1,h2,h3⟩,h4⟩,hb=>⟨⟨h1,(hb.block _ (ld h2)).trans h2,h3⟩,h4.later hb⟩
 |(_,none)::fl,h,hb=>gP.later (fl:=fl) h hb
theorem gP.lt{B:Nat}{w:World}:∀{fl:Fl},gP B w fl→∀m b,(m,some b)∈fl→b<w.heap.size
 |(_,some _)::_,⟨⟨_,h2,_⟩,h4⟩,m,b,h=>by
  rcases List.mem_cons.1 h with h|h
  ·cases h;exact ld h2
  ·exact h4.lt m b h
 |(_,none)::fl,h,m,b,hm=>by
  rcases List.mem_cons.1 hm with h'|h'
  ·cases h'
  ·exact gP.lt (fl:=fl) h m b h'
def upd(i b:Nat):Fl→Fl
 |[]=>[]
 |(m,x)::fl=>if m.idx=i then(m,some b)::fl else(m,x)::upd i b fl
theorem Mc(i b:Nat):∀fl:Fl,(upd i b fl).map (·.1)=fl.map (·.1)
 |[]=>rfl
 |(m,x)::fl=>by
  unfold upd;split
  ·rfl
  ·simp[Mc i b fl]
theorem Fu(L:Array Bool)(i b:Nat):∀fl:Fl,(∃m,(m,none)∈fl∧m.idx=i)→(fl.map (·.1.idx)).Nodup→dG L (upd i b fl)=(dG L fl).setIfInBounds i true
 |[],⟨_,h,_⟩,_=>by cases h
 |(m,x)::fl,⟨m',hm,hi⟩,hn=>by
  simp only[List.map_cons,List.nodup_cons]at hn;unfold upd;split
  ·rename_i he;rcases List.mem_cons.1 hm with h|h
   ·obtain⟨rfl,rfl⟩:=Prod.mk.inj h;simp[dG,he]
   ·exact absurd (List.mem_map.2 ⟨_,h,rfl⟩) (by rw[he,←hi]at hn;exact hn.1)
  ·rename_i he;have hm':(m',none)∈fl:=by
    rcases List.mem_cons.1 hm with h|h
    ·cases h;exact absurd hi he
    ·exact h
   have ih:=Fu L i b fl ⟨m',hm',hi⟩ hn.2;cases x with
   |none=>exact ih
   |some k=>
    simp only[dG];rw[ih,Array.setIfInBounds_comm _ _ he]
theorem Me(a:Act)(m:Al)(b:Nat):∀fl:Fl,(m,none)∈fl→(fl.map (·.1.idx)).Nodup→(fl.map (·.1.slot)).Nodup→gh a (upd m.idx b fl)=(gh a fl).put (some m.slot) (.pointer (some ⟨b,0,none⟩))
 |[],h,_,_=>by cases h
 |(m',x)::fl,hm,hn,hs=>by
  simp only[List.map_cons,List.nodup_cons]at hn hs;unfold upd;split
  ·rename_i he;rcases List.mem_cons.1 hm with h|h
   ·obtain⟨rfl,rfl⟩:=Prod.mk.inj h;rfl
   ·exact absurd (List.mem_map.2 ⟨_,h,rfl⟩) (by rw[he]at hn;exact hn.1)
  ·rename_i he;have hm':(m,none)∈fl:=by
    rcases List.mem_cons.1 hm with h|h
    ·cases h;exact absurd rfl he
    ·exact h
   have ih:=Me a m b fl hm' hn.2 hs.2;have hne:m.slot≠m'.slot:=fun e=>hs.1 (by rw[←e];exact List.mem_map.2 ⟨_,hm',rfl⟩)
   cases x with
   |none=>exact ih
   |some k=>
    simp only[gh];rw[ih,Act.put_comm _ _ _ (by intro d hd;cases hd;intro e;exact hne (Option.some.inj e).symm)]
theorem Mf{i b:Nat}:∀{fl:Fl} {m:Al} {k:Nat},(m,some k)∈upd i b fl→(m,some k)∈fl∨k=b
 |(m',x)::fl,m,k,h=>by
  unfold upd at h;split at h
  ·rcases List.mem_cons.1 h with h|h
   ·cases h;exact .inr rfl
   ·exact .inl (List.mem_cons_of_mem _ h)
  ·rcases List.mem_cons.1 h with h|h
   ·exact .inl (h▸List.mem_cons_self ..)
   ·exact(Mf h).imp (List.mem_cons_of_mem _) id
theorem gP.upd{B:Nat}{w:World}{m:Al}(hB:B≤w.heap.size):∀{fl:Fl},gP B w fl→(m,none)∈fl→(fl.map (·.1.idx)).Nodup→gP B (w.alloc (.cells m.cells m.ty)) (upd m.idx w.heap.size fl)
 |(m',x)::fl,h,hm,hn=>by
  have hbl:Below w.heap.size w (w.alloc (.cells m.cells m.ty)):=(Below.refl _ _).alloc (Nat.le_refl _) _;simp only[List.map_cons,List.nodup_cons]at hn;unfold Go.Proofs.YtlpombjidhloiaaGreat.upd;split
  ·rename_i he;rcases List.mem_cons.1 hm with h'|h'
   ·obtain⟨rfl,rfl⟩:=Prod.mk.inj h';have h0:gP B w fl:=h;exact⟨⟨hB,heap_alloc_new w _,fun m' b' hb'=>by have:=h0.lt m' b' hb';omega⟩,h0.later hbl⟩
   ·exact absurd (List.mem_map.2 ⟨_,h',rfl⟩) (by rw[he]at hn;exact hn.1)
  ·rename_i he;have hm':(m,none)∈fl:=by
    rcases List.mem_cons.1 hm with h'|h'
    ·cases h';exact absurd rfl he
    ·exact h'
   cases x with
   |none=>exact gP.upd (fl:=fl) hB h hm' hn.2
   |some k=>
    obtain⟨⟨h1,h2,h3⟩,h4⟩:=h;refine⟨⟨h1,(hbl.block _ (ld h2)).trans h2,fun m1 b1 ae=>?_⟩,gP.upd hB h4 hm' hn.2⟩;rcases Mf ae with h5|rfl
    ·exact h3 _ _ h5
    ·have:=ld h2;omega
def bits:Nat→List (List Bool)
 |0=>[[]]
 |n+1=>(bits n).map (true::·)++(bits n).map (false::·)
theorem zJ:∀l:List Bool,l∈bits l.length
 |[]=>by simp[bits]
 |true::l=>by simp[bits,zJ l]
 |false::l=>by simp[bits,zJ l]
def ft(L:Array Bool):List Al→List Bool→Array Bool
 |m::ms,true::bs=>(ft L ms bs).setIfInBounds m.idx true
 |_::ms,false::bs=>ft L ms bs
 |_,_=>L
theorem vZ(L:Array Bool):∀fl:Fl,dG L fl=ft L (fl.map (·.1)) (fl.map (·.2.isSome))
 |[]=>rfl
 |(m,some _)::fl=>by simp[dG,ft,vZ L fl]
 |(m,none)::fl=>by simp[dG,ft,vZ L fl]
theorem lN(L:Array Bool)(i:Nat):∀fl:Fl,(∀m∈fl.map (·.1),m.idx≠i)→dG (L.setIfInBounds i true) fl=(dG L fl).setIfInBounds i true
 |[],_=>rfl
 |(m,x)::fl,h=>by
  have ih:=lN L i fl (fun m hm=>h m (List.mem_cons_of_mem _ hm));cases x with
  |none=>exact ih
  |some b=>
   simp only[dG];rw[ih,Array.setIfInBounds_comm _ _ (Ne.symm (h m (List.mem_cons_self ..)))]
theorem tY(a:Act)(d:Option Tmp)(v:Value):∀fl:Fl,(∀m∈fl.map (·.1),d≠some m.slot)→gh (a.put d v) fl=(gh a fl).put d v
 |[],_=>rfl
 |(m,x)::fl,h=>by
  have ih:=tY a d v fl (fun m hm=>h m (List.mem_cons_of_mem _ hm));cases x with
  |none=>exact ih
  |some b=>
   simp only[gh];rw[ih,Act.put_comm _ _ _ (by intro e he;subst he;intro q;exact h m (List.mem_cons_self ..) q.symm)]
section
variable {P:Program} {ops:Array Oper} {Q:Exit→Act→World→Prop}
structure fN(P:Program)(ops:Array Oper)(m:Al):Prop where
 ex:∃o,ops[m.idx]? =some o∧o.guard=none∧o.dst=some m.slot∧∀(ρ:Operand→Value) (w:World),(execOp ρ o).run P w=.ok (.value (.pointer (some ⟨w.heap.size,0,none⟩))) (w.alloc (.cells m.cells m.ty))
def eE(ops:Array Oper)(late:List Nat)(ms:List Al):Bool:=
 Region.noSelect ops&&decide ((ms.map (·.idx)).Nodup)&&decide ((ms.map (·.slot)).Nodup)&&ms.all fun m=>decide (m.idx<ops.size)&& !late.contains m.idx
def pg(ops:Array Oper)(ms:List Al)(i:Nat):Bool:=match ops[i]? with
 |none=>false
 |some o=>ms.all fun m=>decide (m.idx≠i)&& !(o.looksAt ops).contains m.slot&&decide (o.dst≠some m.slot)
def cZ(P:Program)(ops:Array Oper)(Q:Exit→Act→World→Prop)(w0:World)(late:List Nat)(ms:List Al)(w:World)(listed:Array Bool)(a:Act):Prop:=
 ∀fl:Fl,fl.map (·.1)=ms→∀wr,Below w.heap.size w wr→gP w0.heap.size wr fl→∀n,gi ops (dG listed fl)≤n→
  iH P .any ops Q (fun w'=>Below w0.heap.size w0 w') (fun _=>True) late n (dG listed fl) (gh a fl) wr
theorem tZ{ms:List Al}{i:Nat}{o:Oper}(ho:ops[i]? =some o)(h:pg ops ms i=true)(hs:∀cs b,o.op≠.select cs b)(a:Act):∀fl:Fl,fl.map (·.1)=ms→
 execOp (gh a fl).eval o=execOp a.eval o∧Region.wanted o (yielded ops (gh a fl).tmps)=Region.wanted o (yielded ops a.tmps):=by
 intro fl hm;subst hm;unfold pg at h;rw[ho]at h;simp only[List.all_eq_true,Bool.and_eq_true,Bool.not_eq_true',decide_eq_true_eq]at h
 induction fl with
 |nil=>exact⟨rfl,rfl⟩
 |cons p fl ih=>
  obtain⟨m,x⟩:=p;have ih:=ih (fun m hm=>h m (List.mem_cons_of_mem _ hm));cases x with
  |none=>exact ih
  |some b=>
   have h1:=(h m (List.mem_cons_self ..)).1.2;have h2:∀d,(some m.slot:Option Tmp)=some d→d∉o.looksAt ops:=fun d hd=>by
    cases hd;intro hc;rw[List.contains_iff_mem.2 hc]at h1;cases h1
   simp only[gh];rw[execOp_put o hs _ _ _ h2,wanted_put o _ _ _ h2];exact ih
theorem ua{ms:List Al}{i:Nat}{o:Oper}(ho:ops[i]? =some o)(h:pg ops ms i=true):(∀m∈ms,o.dst≠some m.slot)∧∀m∈ms,m.idx≠i:=by
 unfold pg at h;rw[ho]at h;simp only[List.all_eq_true,Bool.and_eq_true,Bool.not_eq_true',decide_eq_true_eq]at h;exact⟨fun m hm=>(h m hm).2,fun m hm=>(h m hm).1.1⟩
def Fv(ops:Array Oper)(late:List Nat)(ms:List Al)(listed:Array Bool)(i:Nat):Bool:=
 pg ops ms i&&Fw .any ops late i&& !late.contains i&&(bits ms.length).all fun b=>(Region.ready .any ops (ft listed ms b)).contains i&&Region.free .any ops (ft listed ms b) i
theorem rX{ms:List Al}{f:Array Bool→Bool}{listed:Array Bool}(h:((bits ms.length).all fun b=>f (ft listed ms b))=true)(fl:Fl)(hm:fl.map (·.1)=ms):f (dG listed fl)=true:=by
 rw[vZ,hm];refine List.all_eq_true.1 h _ ?_;have:=zJ (fl.map (·.2.isSome));rw[List.length_map]at this;rw[←hm,List.length_map];exact this
theorem qx{listed:Array Bool}{i:Nat}(h:(Region.ready .any ops listed).contains i=true)(n:Nat)(hn:gi ops listed≤n):∃m,n=m+1∧gi ops (listed.setIfInBounds i true)≤m:=by
 have h1:i∈Region.ready .any ops listed:=by simpa using h
 obtain⟨h0,o,ho,_⟩:=mem_ready.1 h1;have:=rY (ops:=ops) (Array.getElem?_eq_some_iff.1 ho).1 h0;cases n with
 |zero=>omega
 |succ n=>exact⟨n,rfl,by omega⟩
theorem Xj{w0 w:World}{late:List Nat}{ms:List Al}{listed:Array Bool}{a:Act}{i:Nat}{o:Oper}{v:Value}(hf:eE ops late ms=true)(ho:ops[i]? =some o)(hB:Fv ops late ms listed i=true)
 (hQ:∀c a d v w,Q (.panic c) (a.put d v) w↔Q (.panic c) a w) (hw:Below w0.heap.size w0 w) (hy:YieldsIf P ops (fun w'=>Below w0.heap.size w0 w') o v a)
 (h:cZ P ops Q w0 late ms w (listed.setIfInBounds i true) (a.put o.dst v)):cZ P ops Q w0 late ms w listed a:=by
 intro fl hm wr hwr hN n hn;simp only[Fv,Bool.and_eq_true,Bool.not_eq_true']at hB;obtain⟨⟨⟨hoff,hlate⟩,hnl⟩,hall⟩:=hB;have hrf:=rX (f:=fun L=>(Region.ready .any ops L).contains i&&Region.free .any ops L i) hall fl hm;simp only[Bool.and_eq_true]at hrf;simp only[eE,Bool.and_eq_true]at hf;obtain⟨k,rfl,hk⟩:=qx hrf.1 n hn;obtain⟨hd,hix⟩:=ua ho hoff;obtain⟨he,hwt⟩:=tZ ho hoff (fun cs b=>Region.noSelect_spec hf.1.1.1 i o cs b ho) a fl hm;have h2:=h fl hm wr hwr hN k (by rw[lN _ _ _ (by rw[hm];exact hix)];exact hk);rw[lN _ _ _ (by rw[hm];exact hix),tY _ _ _ _ (by rw[hm];exact hd)]at h2;exact Xk ho hf.1.1.1 hrf.2 hrf.1 hlate hnl (fun c a w=>(hQ c a _ _ w).1) (hy.of_same he hwt) (hw.trans (hwr.mono hw.size)) trivial h2
def ub(listed:Array Bool)(l:List Nat):Array Bool:=l.foldl (fun L i=>L.setIfInBounds i true) listed
def wj(o:Oper):Bool:=match o.op with
 |.move _|.assign _|.pick .. |.build .. |.load .. |.nilCheck _|.binOp .. |.unOp .. |.convert .. |.makeInterface .. |.fieldAddr .. |.field .. |.indexAddr .. |.index .. |.lookup .. |.extract .. |.typeAssert .. |.slice .. |.makeFunc .. =>true
 |.call c=>match c.callee with|.builtin .len=>true|_=>false
 |_=>false
theorem Xl{x:Sem Value}{w w':World}{n:Next}(h:(do pure (.value (←x)):Sem Next).run P w=.ok n w'):∃u,n=.value u:=by
 simp only[Sem.run_bind,Sem.run_pure]at h;cases hx:x.run P w with
 |ok u w1=>rw[hx]at h;simp only[Result.andThen]at h;cases h;exact⟨_,rfl⟩
 |halt e w1=>rw[hx]at h;cases h
theorem Xm{o:Oper}(hp:wj o=true){ρ:Operand→Value}{w w':World}{n:Next}(h:(execOp ρ o).run P w=.ok n w'):∃u,n=.value u:=by
 unfold wj at hp;unfold execOp at h;cases ho:o.op;case pick c x y=>
  rw[ho]at h;simp only[Sem.run_bind,Sem.run_pure]at h;cases hx:(asBool (ρ c)).run P w with
  |ok u w1=>rw[hx]at h;simp only[Result.andThen]at h;cases h;exact⟨_,rfl⟩
  |halt e w1=>rw[hx]at h;cases h
 case nilCheck x=>
  rw[ho]at h;dsimp only at h;split at h
  ·exact zK
  ·exact zK
  ·exact zK
  ·split at h
   ·exact zK
   ·simp only[Sem.run_bind,Result.andThen]at h
    repeat' (split at h)
    all_goals first
     |(cases h;done)
     |(simp only[Sem.run_pure]at h;cases h;exact⟨_,rfl⟩)
   ·simp only[Sem.run_pure]at h;cases h;exact⟨_,rfl⟩
  ·simp only[Sem.run_pure]at h;cases h;exact⟨_,rfl⟩
 case call c=>
  rw[ho]at h hp;dsimp only at h hp;cases hc:c.callee;case builtin b=>
   rw[hc]at hp;cases b<;>simp at hp
   simp only[resolve,hc,Sem.run_bind,Sem.run_pure,Result.andThen_ok,invoke,builtin]at h;cases hx:(Builtin.len_ c.argTypes o.type (Array.map ρ c.args)).run P w with
   |ok u w1=>rw[hx]at h;simp only[Result.andThen]at h;cases h;exact⟨_,rfl⟩
   |halt e w1=>rw[hx]at h;cases h
  all_goals (rw[hc]at hp;cases hp)
 all_goals rw[ho]at h hp
 all_goals first
  |(exfalso;exact Bool.false_ne_true hp)
  |exact Xl h
  |(simp only[Sem.run_pure]at h;cases h;exact⟨_,rfl⟩)
theorem Fx{C:World→Prop}{o:Oper}{a:Act}{w:World}{v:Value}(hp:wj o=true)(h:o.quietAt P a C w v):(execOp a.eval o).run P w=.ok (.value v) w:=by
 unfold Oper.quietAt at h;generalize hr:(execOp a.eval o).run P w=r at h;cases r with
 |halt x w'=>exact absurd h (by simp[Oper.quietUpon])
 |ok n w'=>
  obtain⟨u,rfl⟩:=Xm hp hr;obtain⟨rfl,rfl⟩:=h;rfl
def zL(o:Oper):Bool:=match o.op with
 |.move _|.assign _|.extract .. =>true
 |_=>false
theorem Mg{o:Oper}(h:zL o=true){ρ:Operand→Value}{w w':World}{v:Value}(hr:(execOp ρ o).run P w=.ok (.value v) w):(execOp ρ o).run P w'=.ok (.value v) w':=by
 unfold zL at h;unfold execOp at hr ⊢;cases ho:o.op
 all_goals rw[ho]at h hr
 all_goals first
  |(exfalso;exact Bool.false_ne_true h)
  |skip
 case move x=>
  simp only[Sem.run_pure]at hr ⊢;cases hr;rfl
 case assign x=>
  simp only[Sem.run_pure]at hr ⊢;cases hr;rfl
 case extract x i=>
  simp only[Sem.run_bind,Sem.run_pure]at hr ⊢;unfold Instr.extract at hr ⊢;generalize ρ x=u at *;cases u;case tuple vs=>
   dsimp only at hr ⊢;cases hx:vs[i]? with
   |none=>rw[hx]at hr;exact absurd hr (by simp[stuck,Result.andThen])
   |some u=>rw[hx]at hr;simp only[Sem.run_pure,Result.andThen]at hr ⊢;cases hr;rfl
  all_goals exact absurd hr (by simp[stuck,Result.andThen])
def uc(ops:Array Oper)(late:List Nat)(ms:List Al)(listed:Array Bool)(i:Nat):Bool:=
 pg ops ms i&& !late.contains i&&(match ops[i]? with|some o=>zL o|none=>false)&&(bits ms.length).all fun b=>(Region.ready .any ops (ft listed ms b)).contains i&&Region.free .any ops (ft listed ms b) i
theorem Mh{w0 w:World}{late:List Nat}{ms:List Al}{listed:Array Bool}{a:Act}{i:Nat}{o:Oper}{v:Value}(hf:eE ops late ms=true)(ho:ops[i]? =some o)(hB:uc ops late ms listed i=true)
 (hQ:∀c a d v w,Q (.panic c) (a.put d v) w↔Q (.panic c) a w) (hw:Below w0.heap.size w0 w) (hy:YieldsIf P ops (fun _=>True) o v a)
 (h:cZ P ops Q w0 late ms w (listed.setIfInBounds i true) (a.put o.dst v)):cZ P ops Q w0 late ms w listed a:=by
 intro fl hm wr hwr hN n hn;simp only[uc,Bool.and_eq_true,Bool.not_eq_true']at hB;obtain⟨⟨⟨hoff,hnl⟩,_⟩,hall⟩:=hB;have hrf:=rX (f:=fun L=>(Region.ready .any ops L).contains i&&Region.free .any ops L i) hall fl hm;simp only[Bool.and_eq_true]at hrf;simp only[eE,Bool.and_eq_true]at hf;obtain⟨k,rfl,hk⟩:=qx hrf.1 n hn;obtain⟨hd,hix⟩:=ua ho hoff;obtain⟨he,hwt⟩:=tZ ho hoff (fun cs b=>Region.noSelect_spec hf.1.1.1 i o cs b ho) a fl hm;have h2:=h fl hm wr hwr hN k (by rw[lN _ _ _ (by rw[hm];exact hix)];exact hk);rw[lN _ _ _ (by rw[hm];exact hix),tY _ _ _ _ (by rw[hm];exact hd)]at h2;exact Xn ho hf.1.1.1 hrf.2 hrf.1 hnl (fun c a w=>(hQ c a _ _ w).1) (hy.of_same he hwt) (hw.trans (hwr.mono hw.size)) trivial h2
theorem Mi{late:List Nat}{ms:List Al}{listed:Array Bool}{i:Nat}{o:Oper}(ho:ops[i]? =some o)(hB:uc ops late ms listed i=true):zL o=true:=by
 simp only[uc,Bool.and_eq_true,ho]at hB;exact hB.1.2
def dX(ops:Array Oper)(l:List Nat):List Oper:=l.filterMap fun i=>ops[i]?
def zM(ops:Array Oper)(late:List Nat)(ms:List Al):Array Bool→List Nat→Bool
 |_,[]=>true
 |listed,i::l=>(Fv ops late ms listed i||uc ops late ms listed i)&&zM ops late ms (listed.setIfInBounds i true) l
def nH(ops:Array Oper)(l:List Nat):Bool:=l.all fun i=>match ops[i]? with|some o=>wj o|none=>false
theorem zN{i:Nat}{l:List Nat}(h:nH ops (i::l)=true):∃o,ops[i]? =some o∧wj o=true∧nH ops l=true:=by
 unfold nH at h;rw[List.all_cons,Bool.and_eq_true]at h;cases ho:ops[i]? with
 |none=>rw[ho]at h;exact absurd h.1 (by simp)
 |some o=>rw[ho]at h;exact⟨o,rfl,h.1,h.2⟩
theorem zO{i:Nat}{l:List Nat}{o:Oper}(h:ops[i]? =some o):dX ops (i::l)=o::dX ops l:=by
 unfold dX;rw[List.filterMap_cons,h]
theorem qy{w0 w:World}{late:List Nat}{ms:List Al}(hf:eE ops late ms=true)(hQ:∀c a d v w,Q (.panic c) (a.put d v) w↔Q (.panic c) a w)(hw:Below w0.heap.size w0 w):
 ∀(l:List Nat) (listed:Array Bool) (a:Act),nH ops l=true→zM ops late ms listed l=true→
  wpQuiet P ops (fun w'=>∃x,w'=fc w0 x) (cZ P ops Q w0 late ms w (ub listed l)) (dX ops l) a→cZ P ops Q w0 late ms w listed a
 |[],_,_,_,_,h=>h
 |i::l,listed,a,hp,hB,h=>by
  obtain⟨o,ho,hpo,hpl⟩:=zN hp;rw[zO ho]at h;simp only[zM,Bool.and_eq_true,Bool.or_eq_true]at hB;have hst:qOp P ops (fun w'=>∃x,w'=fc w0 x) i (wpQuiet P ops (fun w'=>∃x,w'=fc w0 x) (cZ P ops Q w0 late ms w (ub (listed.setIfInBounds i true) l)) (dX ops l)) a:=by unfold qOp;simp only[ho];exact h
  obtain⟨v,hy,hK⟩:=yieldsIn_of_qOp ho hst;have hrest:=qy hf hQ hw l _ _ hpl hB.2 hK;rcases hB.1 with pR|pR
  ·refine Xj hf ho pR hQ hw ?_ hrest;rcases hy with⟨h1,h2⟩|h1
   ·exact zP
   ·exact .inr h1
  ·refine Mh hf ho pR hQ hw ?_ hrest;rcases hy with⟨h1,h2⟩|h1
   ·exact .inl ⟨h1,fun w' _=>Mg (Mi ho pR) (Fx hpo (h2 w0 (zQ (Below.refl _ _))))⟩
   ·exact .inr h1
def iG(ops:Array Oper)(late:List Nat)(ms:List Al)(listed:Array Bool)(i:Nat):Bool:=
 pg ops ms i&& !late.contains i&&(bits ms.length).all fun b=>(Region.ready .any ops (ft listed ms b)).contains i&&(Region.ready .any ops (ft listed ms b)).all fun j=>j==i||ms.any fun m=>m.idx==j
theorem Mj{L:Array Bool}:∀{fl:Fl} {j:Nat},(dG L fl).getD j true=false→(∃m∈fl.map (·.1),m.idx=j)→∃m,(m,none)∈fl∧m.idx=j
 |[],_,_,⟨_,h,_⟩=>by cases h
 |(m,none)::fl,j,h,⟨m',hm,hj⟩=>by
  by_cases he:m.idx=j
  ·exact⟨m,List.mem_cons_self ..,he⟩
  ·exact Ml
 |(m,some b)::fl,j,h,⟨m',hm,hj⟩=>by
  have h:((dG L fl).setIfInBounds m.idx true).getD j true=false:=h;by_cases he:m.idx=j
  ·exfalso;subst he;by_cases hs:m.idx<(dG L fl).size
   ·simp[hs]at h
   ·simp at h
  ·rw[getD_set_ne true he]at h;exact Ml
theorem Mm{w0:World}{late:List Nat}{ms:List Al}(hf:eE ops late ms=true)(hal:∀m∈ms,fN P ops m){fl:Fl}(hm:fl.map (·.1)=ms){L:Array Bool}{a:Act}{wr:World}(hwr:Below w0.heap.size w0 wr)(hN:gP w0.heap.size wr fl){n j:Nat}
 (hj:j∈Region.ready .any ops (dG L fl)) (hjm:∃m∈ms,m.idx=j)
 (h:∀fl':Fl,fl'.map (·.1)=ms→∀wr',Below wr.heap.size wr wr'→gP w0.heap.size wr' fl'→gi ops (dG L fl')<gi ops (dG L fl)→iH P .any ops Q (fun w'=>Below w0.heap.size w0 w') (fun _=>True) late n (dG L fl') (gh a fl') wr'):
 wpOp P ops Q j (fun a' w'=>True∧if late.contains j then wpAnyH P .any ops Q (fun _=>True) n ((dG L fl).setIfInBounds j true) a' w' else Below w0.heap.size w0 w'∧iH P .any ops Q (fun w'=>Below w0.heap.size w0 w') (fun _=>True) late n ((dG L fl).setIfInBounds j true) a' w') (gh a fl) wr:=by
 simp only[eE,Bool.and_eq_true,decide_eq_true_eq]at hf;obtain⟨⟨⟨_,hn⟩,hs⟩,hl⟩:=hf;subst hm;obtain⟨m,hmm,rfl⟩:=Mj (mem_ready.1 hj).1 hjm;have hmem:m∈fl.map (·.1):=List.mem_map.2 ⟨_,hmm,rfl⟩;have hml:=List.all_eq_true.1 hl m hmem;simp only[Bool.and_eq_true,Bool.not_eq_true',decide_eq_true_eq]at hml;obtain⟨o,ho,hg,hd,hr⟩:=(hal m hmem).ex;have hn':(fl.map (·.1.idx)).Nodup:=by simpa[List.map_map,Function.comp_def]using hn
 have hs':(fl.map (·.1.slot)).Nodup:=by simpa[List.map_map,Function.comp_def]using hs
 refine wpOp_step ho fun K' hK=>?_
 have hw:Region.wanted o (yielded ops (gh a fl).tmps)=true:=by simp[Region.wanted,hg]
 rw[if_pos hw];unfold Oper.wp;rw[hr];show K' ((gh a fl).put o.dst _) _;rw[hd];refine hK _ _ ⟨trivial,?_⟩;rw[hml.2];refine⟨hwr.alloc hwr.size _,?_⟩;have h1:=h (upd m.idx wr.heap.size fl) (Mc ..) _ ((Below.refl _ _).alloc (Nat.le_refl _) _) (hN.upd hwr.size hmm hn') (by
  rw[Fu _ _ _ _ ⟨m,hmm,rfl⟩ hn'];exact rY (Array.getElem?_eq_some_iff.1 ho).1 (mem_ready.1 hj).1)
 rw[Fu _ _ _ _ ⟨m,hmm,rfl⟩ hn',Me _ _ _ _ hmm hn' hs']at h1;exact h1
theorem lf{w0 w:World}{late:List Nat}{ms:List Al}{listed:Array Bool}{a:Act}{i:Nat}{o:Oper}{f:FuncId}{args:Array Value}(hf:eE ops late ms=true)(hal:∀m∈ms,fN P ops m)(ho:ops[i]? =some o)(hB:iG ops late ms listed i=true)
 (hw:Below w0.heap.size w0 w) (hwt:Region.wanted o (yielded ops a.tmps)=true) (hQ:∀c a d v w,Q (.panic c) (a.put d v) w↔Q (.panic c) a w)
 (hr:∀w1,Below w0.heap.size w0 w1→(execOp a.eval o).run P w1=.ok (.enter f args) w1)
 (h:∀w1,Below w.heap.size w w1→Calls P f args w1 fun e w2=>match e with
  |.returned v=>Below w1.heap.size w1 w2∧cZ P ops Q w0 late ms w2 (listed.setIfInBounds i true) (a.put o.dst v)
  |.panicked c=>Q (.panic c) a w2
  |.outgrown=>False):cZ P ops Q w0 late ms w listed a:=by
 intro fl hm wr hwr hN n hn;simp only[iG,Bool.and_eq_true,Bool.not_eq_true']at hB;obtain⟨⟨hoff,hnl⟩,hall⟩:=hB;obtain⟨hd,hix⟩:=ua ho hoff;have hsel:Region.noSelect ops=true:=by simp only[eE,Bool.and_eq_true]at hf;exact hf.1.1.1
 induction n generalizing fl wr with
 |zero=>
  exact Mn
 |succ n ih=>
  have hrf:=rX (f:=fun L=>(Region.ready .any ops L).contains i&&(Region.ready .any ops L).all fun j=>j==i||ms.any fun m=>m.idx==j) hall fl hm;simp only[Bool.and_eq_true]at hrf;obtain⟨k,hk,fQ⟩:=qx hrf.1 _ hn;obtain rfl:n=k:=by omega
  have hin:i∈Region.ready .any ops (dG listed fl):=by simpa using hrf.1
  refine⟨fun h0=>(by rw[h0]at hin;cases hin),fun j hj=>?_⟩;by_cases hji:j=i
  ·subst hji;obtain⟨he,hwt'⟩:=tZ ho hoff (fun cs b=>Region.noSelect_spec hsel j o cs b ho) a fl hm;refine wpOp_step ho fun K' hK=>?_
   rw[hwt',if_pos hwt];unfold Oper.wp;rw[he,hr wr (hw.trans (hwr.mono hw.size))];refine(h wr hwr).mono ?_;intro e w2 rj;have hQ2:∀c,Q (.panic c) a w2→∀fl:Fl,Q (.panic c) (gh a fl) w2:=by
    intro c hc fl
    induction fl with
    |nil=>exact hc
    |cons p fl ih=>
     obtain⟨m,x⟩:=p;cases x with
     |none=>exact ih
     |some b=>exact(hQ c _ _ _ _).2 ih
   cases e with
   |returned v=>
    obtain⟨hb,hF⟩:=rj;refine hK _ _ ⟨trivial,?_⟩;rw[hnl];refine⟨(hw.trans (hwr.mono hw.size)).trans (hb.mono (hw.trans (hwr.mono hw.size)).size),?_⟩;have h2:=hF fl hm w2 (Below.refl _ _) (hN.later hb) n (by rw[lN _ _ _ (by rw[hm];exact hix)];exact fQ);exact Mo
   |panicked c=>exact hQ2 c rj fl
   |outgrown=>exact rj.elim
  ·exact Mq
theorem Mr{md:Region.Mode}:∀(n:Nat) (listed:Array Bool) (a:Act) (w:World),wpAny P md ops Q n listed a w→wpAny P md ops Q (n+1) listed a w
 |0,listed,_,_,h=>⟨fun _=>h.2,fun i hi=>by rw[h.1]at hi;cases hi⟩
 |n+1,_,_,_,h=>⟨h.1,fun i hi=>wpOp_mono (fun a' w' h'=>Mr n _ a' w' h') (h.2 i hi)⟩
theorem Xo{md:Region.Mode}{n k:Nat}{listed:Array Bool}{a:Act}{w:World}(h:wpAny P md ops Q n listed a w)(hk:n≤k):wpAny P md ops Q k listed a w:=by
 induction hk with
 |refl=>exact h
 |step _ ih=>exact Mr _ _ _ _ ih
theorem Ms{md:Region.Mode}:∀(n:Nat) (listed:Array Bool) (a:Act) (w:World),wpAny P md ops Q n listed a w→wpAnyH P md ops Q (fun _=>True) n listed a w
 |0,_,_,_,h=>h
 |n+1,_,_,_,h=>⟨h.1,fun i hi=>wpOp_mono (fun a' w' h'=>⟨trivial,Ms n _ a' w' h'⟩) (h.2 i hi)⟩
def qz(ops:Array Oper)(late:List Nat)(ms:List Al)(listed:Array Bool)(k:Nat):Bool:=
 decide (k≤ops.size)&&Region.seqB .any ops (ops.size-k) k (ft listed ms (ms.map fun _=>true))&&(Region.ready .any ops (ft listed ms (ms.map fun _=>true))).all (fun j=>late.contains j)&&
  (bits ms.length).all fun b=>b.all id||((!(Region.ready .any ops (ft listed ms b)).isEmpty)&&(Region.ready .any ops (ft listed ms b)).all fun j=>ms.any fun m=>m.idx==j)
theorem Mt{w0 w:World}{late:List Nat}{ms:List Al}{listed:Array Bool}{a:Act}{i:Nat}{o:Oper}{v:Value}(hf:eE ops late ms=true)(hal:∀m∈ms,fN P ops m)(ho:ops[i]? =some o)(hB:iG ops late ms listed i=true)
 (hw:Below w0.heap.size w0 w) (hy:YieldsIf P ops (fun w'=>Below w.heap.size w w') o v a)
 (h:cZ P ops Q w0 late ms w (listed.setIfInBounds i true) (a.put o.dst v)):cZ P ops Q w0 late ms w listed a:=by
 intro fl hm wr hwr hN n hn;simp only[iG,Bool.and_eq_true,Bool.not_eq_true']at hB;obtain⟨⟨hoff,hnl⟩,hall⟩:=hB;obtain⟨hd,hix⟩:=ua ho hoff;have hsel:Region.noSelect ops=true:=by simp only[eE,Bool.and_eq_true]at hf;exact hf.1.1.1
 induction n generalizing fl wr with
 |zero=>
  exact Mn
 |succ n ih=>
  have hrf:=rX (f:=fun L=>(Region.ready .any ops L).contains i&&(Region.ready .any ops L).all fun j=>j==i||ms.any fun m=>m.idx==j) hall fl hm;simp only[Bool.and_eq_true]at hrf;obtain⟨k,hk,fQ⟩:=qx hrf.1 _ hn;obtain rfl:n=k:=by omega
  have hin:i∈Region.ready .any ops (dG listed fl):=by simpa using hrf.1
  refine⟨fun h0=>(by rw[h0]at hin;cases hin),fun j hj=>?_⟩;by_cases hji:j=i
  ·subst hji;obtain⟨he,hwt'⟩:=tZ ho hoff (fun cs b=>Region.noSelect_spec hsel j o cs b ho) a fl hm;refine(hy.of_same he hwt').wpOp ho hwr ⟨trivial,?_⟩;rw[hnl];refine⟨hw.trans (hwr.mono hw.size),?_⟩;have h2:=h fl hm wr hwr hN n (by rw[lN _ _ _ (by rw[hm];exact hix)];exact fQ);exact Mo
  ·exact Mq
def zR(ops:Array Oper)(late:List Nat)(ms:List Al):Array Bool→List Nat→Bool
 |_,[]=>true
 |listed,i::l=>(iG ops late ms listed i||uc ops late ms listed i)&&zR ops late ms (listed.setIfInBounds i true) l
theorem zS{w0 w:World}{late:List Nat}{ms:List Al}(hf:eE ops late ms=true)(hal:∀m∈ms,fN P ops m)(hQ:∀c a d v w,Q (.panic c) (a.put d v) w↔Q (.panic c) a w)(hw:Below w0.heap.size w0 w):
 ∀(l:List Nat) (listed:Array Bool) (a:Act),nH ops l=true→zR ops late ms listed l=true→
  wpQuiet P ops (fun w'=>∃x,w'=fc w x) (cZ P ops Q w0 late ms w (ub listed l)) (dX ops l) a→cZ P ops Q w0 late ms w listed a
 |[],_,_,_,_,h=>h
 |i::l,listed,a,hp,hB,h=>by
  obtain⟨o,ho,hpo,hpl⟩:=zN hp;rw[zO ho]at h;simp only[zR,Bool.and_eq_true,Bool.or_eq_true]at hB;have hst:qOp P ops (fun w'=>∃x,w'=fc w x) i (wpQuiet P ops (fun w'=>∃x,w'=fc w x) (cZ P ops Q w0 late ms w (ub (listed.setIfInBounds i true) l)) (dX ops l)) a:=by unfold qOp;simp only[ho];exact h
  obtain⟨v,hy,hK⟩:=yieldsIn_of_qOp ho hst;have hrest:=zS hf hal hQ hw l _ _ hpl hB.2 hK;rcases hB.1 with pR|pR
  ·refine Mt hf hal ho pR hw ?_ hrest;rcases hy with⟨h1,h2⟩|h1
   ·exact zP
   ·exact .inr h1
  ·refine Mh hf ho pR hQ hw ?_ hrest;rcases hy with⟨h1,h2⟩|h1
   ·exact .inl ⟨h1,fun w' _=>Mg (Mi ho pR) (Fx hpo (h2 w (zQ (Below.refl _ _))))⟩
   ·exact .inr h1
theorem Mu{ms:List Al}{listed:Array Bool}{fl:Fl}(hm:fl.map (·.1)=ms)(hfull:∀p∈fl,p.2.isSome=true):dG listed fl=ft listed ms (ms.map fun _=>true):=by
 rw[vZ,hm];congr 1;rw[←hm,List.map_map];exact List.map_congr_left fun p hp=>hfull p hp
theorem Mv{md:Region.Mode}:∀(n:Nat) (listed:Array Bool) (a:Act) (w:World),gi ops listed≤n→wpAny P md ops Q (n+1) listed a w→wpAny P md ops Q n listed a w
 |0,listed,_,_,hn,h=>by
  have h0:Region.ready md ops listed=[]:=List.eq_nil_iff_forall_not_mem.2 fun j hj=>by
   obtain⟨h0,o,ho,_⟩:=mem_ready.1 hj;have:=rY (ops:=ops) (Array.getElem?_eq_some_iff.1 ho).1 h0;omega
  exact⟨h0,h.1 h0⟩
 |n+1,listed,_,_,hn,h=>⟨h.1,fun j hj=>wpOp_mono (fun a' w' h'=>Mv n _ a' w' (by
   obtain⟨h0,o,ho,_⟩:=mem_ready.1 hj;have:=rY (ops:=ops) (Array.getElem?_eq_some_iff.1 ho).1 h0;omega) h') (h.2 j hj)⟩
theorem Mw{md:Region.Mode}{n:Nat}{listed:Array Bool}{a:Act}{w:World}(hn:gi ops listed≤n):∀d,wpAny P md ops Q (n+d) listed a w→wpAny P md ops Q n listed a w
 |0,h=>h
 |d+1,h=>Mw hn d (Mv (n+d) listed a w (by omega) h)
theorem Mx{ms:List Al}{listed:Array Bool}{fl:Fl}{a:Act}{wr:World}{k n:Nat}(hm:fl.map (·.1)=ms)(hfull:∀p∈fl,p.2.isSome=true)(_hk:k≤ops.size)(hseq:Region.seqB .any ops (ops.size-k) k (ft listed ms (ms.map fun _=>true))=true)
 (h:wpList P ops Q (ops.toList.drop k) (gh a fl) wr) (hn:gi ops (dG listed fl)≤n):wpAny P .any ops Q n (dG listed fl) (gh a fl) wr:=by
 have hlen:(ops.toList.drop k).length=ops.size-k:=by simp
 have h1:=wpAny_of_seq (md:=.any) (ops:=ops) (Q':=Q) (P:=P) (ops.toList.drop k) k (dG listed fl) (gh a fl) wr (fun j=>by simp[List.getElem?_drop]) (by rw[hlen,Mu hm hfull];exact hseq) h;exact Mw hn (ops.toList.drop k).length (Xo h1 (by omega))
theorem My{ms:List Al}{listed:Array Bool}(hall:((bits ms.length).all fun b=>b.all id||((!(Region.ready .any ops (ft listed ms b)).isEmpty)&&(Region.ready .any ops (ft listed ms b)).all fun j=>ms.any fun m=>m.idx==j))=true){fl:Fl}(hm:fl.map (·.1)=ms)(hfull:¬∀p∈fl,p.2.isSome=true):
 Region.ready .any ops (dG listed fl)≠[]∧∀j∈Region.ready .any ops (dG listed fl),∃m∈ms,m.idx=j:=by
 have hb:=zJ (fl.map (·.2.isSome));rw[List.length_map]at hb;have h1:=List.all_eq_true.1 hall _ (by rw[←hm,List.length_map];exact hb);rw[vZ,hm];have hno:((fl.map (·.2.isSome)).all id)=false:=by
  rw[Bool.eq_false_iff];intro ht;refine hfull fun p hp=>?_
  exact List.all_eq_true.1 ht _ (List.mem_map.2 ⟨p,hp,rfl⟩)
 rw[hno,Bool.false_or,Bool.and_eq_true]at h1;refine⟨fun h0=>?_,fun j hj=>?_⟩
 ·rw[h0]at h1;exact absurd h1.1 (by simp)
 ·obtain⟨m,h4,h5⟩:=List.any_eq_true.1 (List.all_eq_true.1 h1.2 j hj);exact⟨m,h4,by simpa using h5⟩
theorem Fy{w0 w:World}{late:List Nat}{ms:List Al}{listed:Array Bool}{a:Act}(k:Nat)(hf:eE ops late ms=true)(hal:∀m∈ms,fN P ops m)(hB:qz ops late ms listed k=true)(hw:Below w0.heap.size w0 w)
 (h:∀fl:Fl,fl.map (·.1)=ms→(∀p∈fl,p.2.isSome=true)→∀wr,Below w.heap.size w wr→gP w0.heap.size wr fl→wpList P ops Q (ops.toList.drop k) (gh a fl) wr):cZ P ops Q w0 late ms w listed a:=by
 intro fl hm wr hwr hN n hn;simp only[qz,Bool.and_eq_true,decide_eq_true_eq]at hB;obtain⟨⟨⟨hk,hseq⟩,hlate⟩,hall⟩:=hB;have key:∀n (fl:Fl),fl.map (·.1)=ms→∀wr,Below w.heap.size w wr→gP w0.heap.size wr fl→gi ops (dG listed fl)≤n→iH P .any ops Q (fun w'=>Below w0.heap.size w0 w') (fun _=>True) late n (dG listed fl) (gh a fl) wr:=by
  intro n
  induction n with
  |zero=>
   intro fl hm wr hwr hN hn;by_cases hfull:∀p∈fl,p.2.isSome=true
   ·exact(Mx hm hfull hk hseq (h fl hm hfull wr hwr hN) hn)
   ·have hb:=My hall hm hfull;obtain⟨j,hj⟩:=List.exists_mem_of_ne_nil _ hb.1;obtain⟨k,hk,_⟩:=qx (ops:=ops) (i:=j) (by simpa using hj) 0 hn;omega
  |succ n ih=>
   intro fl hm wr hwr hN hn;by_cases hfull:∀p∈fl,p.2.isSome=true
   ·have h1:=Mx hm hfull hk hseq (h fl hm hfull wr hwr hN) hn;have hl:∀j∈Region.ready .any ops (dG listed fl),late.contains j=true:=by
     rw[Mu hm hfull];exact fun j hj=>List.all_eq_true.1 hlate j hj
    exact⟨h1.1,fun j hj=>wpOp_mono (fun a' w' h'=>⟨trivial,by rw[hl j hj,if_pos rfl];exact Ms _ _ _ _ h'⟩) (h1.2 j hj)⟩
   ·have hb:=My hall hm hfull;exact⟨fun h0=>absurd h0 hb.1,fun j hj=>Mm hf hal hm (hw.trans (hwr.mono hw.size)) hN hj (hb.2 j hj) fun fl' hm' wr' hwr' hN' hlt=>ih fl' hm' wr' (hwr.trans (hwr'.mono hwr.size)) hN' (by omega)⟩
 exact key n fl hm wr hwr hN hn
theorem bh{id:Nat}{a:Act}{w:World}(late:List Nat)(ms:List Al)(hm:P.follows .mixedOrders=true)(h:cZ P ops Q w late ms w (Array.replicate ops.size false) a):(Code.region id ops true).wp P Q a w:=by
 refine Xp (fun w'=>Below w.heap.size w w') (fun _=>True) late hm ?_;have h0:∀ms:List Al,dG (Array.replicate ops.size false) (ms.map fun m=>(m,none))=Array.replicate ops.size false∧gh a (ms.map fun m=>(m,none))=a∧gP w.heap.size w.drew (ms.map fun m=>(m,none)):=by
  intro ms
  induction ms with
  |nil=>exact⟨rfl,rfl,trivial⟩
  |cons m ms ih=>exact ih
 have h1:=h (ms.map fun m=>(m,none)) (by simp[Function.comp_def]) w.drew ((Below.refl _ _).drew) (h0 ms).2.2 ops.size (by
  unfold gi;exact Nat.le_trans (List.length_filter_le _ _) (by simp))
 rw[(h0 ms).1,(h0 ms).2.1]at h1;exact h1
theorem cV{w0 w:World}{late:List Nat}{listed:Array Bool}{a:Act}(k:Nat)(hf:eE ops late []=true)(hB:qz ops late [] listed k=true)(hw:Below w0.heap.size w0 w)
 (h:∀wr,Below w.heap.size w wr→wpList P ops Q (ops.toList.drop k) a wr):cZ P ops Q w0 late [] w listed a:=
 Fy k hf (fun m hm=>by cases hm) hB hw fun fl hm _ wr hwr _=>by
  cases fl with
  |nil=>exact h wr hwr
  |cons p fl=>cases hm
theorem Mz{w0 w:World}{late:List Nat}{m:Al}{listed:Array Bool}{a:Act}(k:Nat)(hf:eE ops late [m]=true)(hal:fN P ops m)(hB:qz ops late [m] listed k=true)(hw:Below w0.heap.size w0 w)
 (h:∀wr,Below w.heap.size w wr→∀b,w0.heap.size≤b→wr.heap[b]? =some (.cells m.cells m.ty)→wpList P ops Q (ops.toList.drop k) (a.put (some m.slot) (.pointer (some ⟨b,0,none⟩))) wr):cZ P ops Q w0 late [m] w listed a:=
 Fy k hf (fun m' hm=>by rcases List.mem_singleton.1 hm with rfl;exact hal) hB hw fun fl hm hfull wr hwr hN=>by
  match fl,hm,hfull,hN with
  |[(m',some b)],hm,_,hN=>
   simp only[List.map_cons,List.map_nil,List.cons.injEq,and_true]at hm;subst hm;exact h wr hwr b hN.1.1 hN.1.2.1
  |[(m',none)],_,hfull,_=>exact absurd (hfull _ (List.mem_singleton.2 rfl)) (by simp)
theorem Xq{w0 w:World}{late:List Nat}{m m2:Al}{listed:Array Bool}{a:Act}(k:Nat)(hf:eE ops late [m,m2]=true)(hal:fN P ops m)(Jy:fN P ops m2)(hB:qz ops late [m,m2] listed k=true)(hw:Below w0.heap.size w0 w)
 (h:∀wr,Below w.heap.size w wr→∀b b2,w0.heap.size≤b→w0.heap.size≤b2→b2≠b→wr.heap[b]? =some (.cells m.cells m.ty)→wr.heap[b2]? =some (.cells m2.cells m2.ty)→wpList P ops Q (ops.toList.drop k) ((a.put (some m2.slot) (.pointer (some ⟨b2,0,none⟩))).put (some m.slot) (.pointer (some ⟨b,0,none⟩))) wr):cZ P ops Q w0 late [m,m2] w listed a:=
 Fy k hf (fun m' hm=>by
  rcases List.mem_cons.1 hm with rfl|hm
  ·exact hal
  ·rcases List.mem_singleton.1 hm with rfl;exact Jy) hB hw fun fl hm hfull wr hwr hN=>by
  match fl,hm,hfull,hN with
  |[(m',some b),(m2',some b2)],hm,_,hN=>
   simp only[List.map_cons,List.map_nil,List.cons.injEq,and_true]at hm;obtain⟨rfl,rfl⟩:=hm;exact h wr hwr b b2 hN.1.1 hN.2.1.1 (hN.1.2.2 _ _ (List.mem_singleton.2 rfl)) hN.1.2.1 hN.2.1.2.1
  |[(m',none),_],_,hfull,_=>exact absurd (hfull _ (List.mem_cons_self ..)) (by simp)
  |[(_,some _),(m',none)],_,hfull,_=>exact absurd (hfull _ (List.mem_cons_of_mem _ (List.mem_singleton.2 rfl))) (by simp)
theorem aG:∀m∈([]:List Al),fN P ops m:=fun _ h=>by cases h
theorem cr{m:Al}(h:fN P ops m):∀m'∈[m],fN P ops m':=fun m' hm=>by rcases List.mem_singleton.1 hm with rfl;exact h
theorem ud{m n:Al}(h:fN P ops m)(k:fN P ops n):∀m'∈[m,n],fN P ops m':=fun m' hm=>by
 rcases List.mem_cons.1 hm with rfl|hm
 ·exact h
 ·rcases List.mem_singleton.1 hm with rfl;exact k
end
end Go.Proofs.YtlpombjidhloiaaGreat
namespace Go.Proofs.YtlpombjidhloiaaGreat
abbrev cJ:=Nat×Nat
structure bA where
 kind:Int
 pos:cJ
 text:List UInt8
 n:Nat
deriving Inhabited,DecidableEq
def wV(s:List UInt8):Int×List UInt8:=
 if s=[60,62]then(5,[35])else if s=[38]then(6,[65,78,68])else if s=[126]then(6,[78,79,84])else(5,s)
def kN(p:cJ)(c:UInt8):cJ:=if c=10 then(p.1+1,1)else(p.1,p.2+1)
def ek(p:cJ)(s:List UInt8):cJ:=s.foldl kN p
inductive ao where
 |mk (kind:Int) (pos:cJ) (name:List UInt8) (n:Nat) (kids:List ao)
deriving Inhabited
def ao.kind:ao→Int|.mk k _ _ _ _=>k
def ao.pos:ao→cJ|.mk _ p _ _ _=>p
def ao.name:ao→List UInt8|.mk _ _ s _ _=>s
def ao.n:ao→Nat|.mk _ _ _ n _=>n
def ao.kids:ao→List ao|.mk _ _ _ _ l=>l
def ao.add:ao→ao→ao|.mk k p s n l,x=>.mk k p s n (l++[x])
def bL(L:List bA)(i:Nat):bA:=L.getD i ⟨0,(0,0),[],0⟩
def iK(L:List bA)(i:Nat)(s:List UInt8):Bool:=decide ((bL L i).kind=5)&&decide ((bL L i).text=s)
def aap(L:List bA)(i:Nat)(s:List UInt8):Bool:=decide ((bL L i).kind=6)&&decide ((bL L i).text=s)
def BG(L:List bA)(i:Nat)(ops:List (List UInt8)):Bool:=(decide ((bL L i).kind=5)||decide ((bL L i).kind=6))&&decide ((bL L i).text∈ops)
def PE:ao→Bool
 |.mk k _ _ _ (x::_)=>if k=2 then PE x else decide (k=1)
 |.mk k _ _ _ []=>decide (k=1)
def aaq:List (List UInt8):=[[42],[47],[68,73,86],[77,79,68],[65,78,68]]
def aar:List (List UInt8):=[[43],[45]]
def aas:List (List UInt8):=[[43],[45],[79,82]]
def aat:List (List UInt8):=[[61],[35],[60],[60,61],[62],[62,61],[73,78]]
mutual
def sC(L:List bA):Nat→Nat→Option (ao×Nat)
 |0,_=>none
 |f+1,i=>match PF L f i with
  |none=>none
  |some (x,i)=>if BG L i aat then
   match PF L f (i+1)with
   |none=>none
   |some (y,j)=>some (.mk 11 (bL L i).pos (bL L i).text 0 [x,y],j)
    else some (x,i)
def PF(L:List bA):Nat→Nat→Option (ao×Nat)
 |0,_=>none
 |f+1,i=>if BG L i aar then
   match GO L f (i+1)with
   |none=>none
   |some (x,j)=>GP L f (.mk 12 (bL L i).pos (bL L i).text 0 [x]) j
  else match GO L f i with
   |none=>none
   |some (x,j)=>GP L f x j
def GP(L:List bA):Nat→ao→Nat→Option (ao×Nat)
 |0,_,_=>none
 |f+1,x,i=>if BG L i aas then
   match GO L f (i+1)with
   |none=>none
   |some (y,j)=>GP L f (.mk 11 (bL L i).pos (bL L i).text 0 [x,y]) j
  else some (x,i)
def GO(L:List bA):Nat→Nat→Option (ao×Nat)
 |0,_=>none
 |f+1,i=>match GQ L f i with
  |none=>none
  |some (x,j)=>PG L f x j
def PG(L:List bA):Nat→ao→Nat→Option (ao×Nat)
 |0,_,_=>none
 |f+1,x,i=>if BG L i aaq then
   match GQ L f (i+1)with
   |none=>none
   |some (y,j)=>PG L f (.mk 11 (bL L i).pos (bL L i).text 0 [x,y]) j
  else some (x,i)
def GQ(L:List bA):Nat→Nat→Option (ao×Nat)
 |0,_=>none
 |f+1,i=>
  if(bL L i).kind=2 then some (.mk 5 (bL L i).pos [] (bL L i).n [],i+1)
  else if(bL L i).kind=3 then some (.mk 6 (bL L i).pos [] (bL L i).n [],i+1)
  else if(bL L i).kind=4 then some (.mk 7 (bL L i).pos (bL L i).text 0 [],i+1)
  else if iK L i [123]then setP L f (bL L i).pos (.mk 0 (0,0) [] 0 []) i
  else if iK L i [40]then match sC L f (i+1)with
   |none=>none
   |some (x,j)=>if iK L j [41]then some (x,j+1)else none
  else if aap L i [78,79,84]then match GQ L f (i+1)with
   |none=>none
   |some (x,j)=>some (.mk 12 (bL L i).pos [78,79,84] 0 [x],j)
  else match aau L f i with
   |none=>none
   |some (x,j)=>
    if iK L j [123]&&PE x then setP L f (bL L i).pos x j
    else if iK L j [40]then match aav L f j with
     |none=>none
     |some (l,k)=>some (.mk 10 (bL L j).pos [] 0 (x::l),k)
    else some (x,j)
def aau(L:List bA):Nat→Nat→Option (ao×Nat)
 |0,_=>none
 |f+1,i=>if(bL L i).kind=1 then BH L f (.mk 1 (bL L i).pos (bL L i).text 0 []) (i+1)else none
def BH(L:List bA):Nat→ao→Nat→Option (ao×Nat)
 |0,_,_=>none
 |f+1,x,i=>
  if iK L i [46]then
   if(bL L (i+1)).kind=1 then BH L f (.mk 2 (bL L i).pos (bL L (i+1)).text 0 [x]) (i+2)else none
  else if iK L i [94]then BH L f (.mk 4 (bL L i).pos [] 0 [x]) (i+1)
  else if iK L i [91]then match sC L f (i+1)with
   |none=>none
   |some (y,j)=>match PH L f (.mk 3 (bL L i).pos [] 0 [x,y]) j with
    |none=>none
    |some (z,k)=>if iK L k [93]then BH L f z (k+1)else none
  else some (x,i)
def PH(L:List bA):Nat→ao→Nat→Option (ao×Nat)
 |0,_,_=>none
 |f+1,x,i=>if iK L i [44]then
   match sC L f (i+1)with
   |none=>none
   |some (y,j)=>PH L f (.mk 3 (bL L i).pos [] 0 [x,y]) j
  else some (x,i)
def PI(L:List bA):Nat→Nat→Option (ao×Nat)
 |0,_=>none
 |f+1,i=>match sC L f i with
  |none=>none
  |some (x,j)=>if iK L j [46,46]then
   match sC L f (j+1)with
   |none=>none
   |some (y,k)=>some (.mk 9 (bL L i).pos [] 0 [x,y],k)
    else some (x,j)
def setP(L:List bA):Nat→cJ→ao→Nat→Option (ao×Nat)
 |0,_,_,_=>none
 |f+1,p,t,i=>if iK L i [123]then
   if iK L (i+1) [125]then some (.mk 8 p [] 0 [t],i+2)
   else match PI L f (i+1)with
    |none=>none
    |some (x,j)=>match PJ L f (.mk 8 p [] 0 [t,x]) j with
     |none=>none
     |some (y,k)=>if iK L k [125]then some (y,k+1)else none
  else none
def PJ(L:List bA):Nat→ao→Nat→Option (ao×Nat)
 |0,_,_=>none
 |f+1,x,i=>if iK L i [44]then
   match PI L f (i+1)with
   |none=>none
   |some (y,j)=>PJ L f (x.add y) j
  else some (x,i)
def aav(L:List bA):Nat→Nat→Option (List ao×Nat)
 |0,_=>none
 |f+1,i=>if iK L i [40]then
   if iK L (i+1) [41]then some ([],i+2)
   else match sC L f (i+1)with
    |none=>none
    |some (x,j)=>match PK L f [x] j with
     |none=>none
     |some (l,k)=>if iK L k [41]then some (l,k+1)else none
  else none
def PK(L:List bA):Nat→List ao→Nat→Option (List ao×Nat)
 |0,_,_=>none
 |f+1,l,i=>if iK L i [44]then
   match sC L f (i+1)with
   |none=>none
   |some (x,j)=>PK L f (l++[x]) j
  else some (l,i)
end
inductive aL where
 |none
 |whole (n:Int)
 |letter (n:Nat)
 |truth (b:Bool)
 |bits (n:Nat)
 |str (s:List UInt8)
 |item (t n:Int)
 |null
deriving Inhabited,DecidableEq
def aR:aL→Option Int
 |.whole n=>if -32768≤n∧n≤65535 then some n else Option.none
 |.letter c=>some c
 |.truth b=>some (if b then 1 else 0)
 |.item _ n=>some n
 |.str [c]=>some c.toNat
 |_=>Option.none
def dm:aL→Bool
 |.whole n=>decide (-32768≤n)&&decide (n≤65535)
 |.none=>false
 |_=>true
def eQ(n:Int):aL×Int:=if -32768≤n∧n≤65535 then(.whole n,0)else(.none,101)
def cR(t n:Int):aL:=
 if t=1∨t=2∨t=5 then(eQ n).1
 else if t=3 then(if n=0 then .truth false else if n=1 then .truth true else .none)
 else if t=4 then(if 0≤n∧n≤255 then .letter n.toNat else .none)
 else if 10≤t then .item t n else .none
def aT:aL→aL
 |.str [c]=>.letter c.toNat
 |v=>v
abbrev Op:=List UInt8
def dT:Op:=[61]
def eI:Op:=[35]
def gm:Op:=[60]
def fw:Op:=[60,61]
def gn:Op:=[62]
def fy:Op:=[62,61]
def bV:Op:=[43]
def bW:Op:=[45]
def cP:Op:=[42]
def fe:Op:=[47]
def eO:Op:=[68,73,86]
def eP:Op:=[77,79,68]
def bQ:Op:=[65,78,68]
def bR:Op:=[79,82]
def bB:Op:=[73,78]
def pz:Op:=[78,79,84]
def gE(op:Op)(a b:Int):Option Bool:=
 if op=dT then some (decide (a=b))else if op=eI then some (decide (a≠b))else if op=gm then some (decide (a<b))else if op=fw then some (decide (a≤b))
 else if op=gn then some (decide (b<a))else if op=fy then some (decide (b≤a))else Option.none
def fB(op:Op)(a b:Int):Option (aL×Int):=
 if op=bV then some (eQ (a+b))else if op=bW then some (eQ (a-b))else if op=cP then some (eQ (a*b))
 else if op=eO then some (if b=0 then(.none,102)else eQ (a.tdiv b))else if op=eP then some (if b=0 then(.none,102)else eQ (a.tmod b))else Option.none
def eY(op:Op)(a b:Nat):Option aL:=
 if op=bV then some (.bits (a ||| b))else if op=bW then some (.bits (a &&& (65535-b)))else if op=cP then some (.bits (a &&& b))else if op=fe then some (.bits (a ^^^ b))
 else if op=fw then some (.truth (decide (a &&& (65535-b)=0)))else if op=fy then some (.truth (decide (b &&& (65535-a)=0)))
 else if op=dT then some (.truth (decide (a=b)))else if op=eI then some (.truth (decide (a≠b)))else Option.none
def dz:aL→aL→Bool
 |.item t _,.item u _=>decide (t=u)
 |.whole _,.whole _=>true
 |.letter _,.letter _=>true
 |.truth _,.truth _=>true
 |.null,.null=>true
 |_,_=>false
def bC(op:Op)(a b:aL):aL×Int:=
 if(gE op 0 0).isNone&&(fB op 0 1).isNone&&(eY op 0 0).isNone&& !decide (op=bQ∨op=bR)&& !decide (op=bB)then(.none,103)
 else if !dm a|| !dm b then(.none,100)
 else if op=bB then
  match aR a,b with
  |some n,.bits s=>(.truth (decide (0≤n)&&decide (n<16)&&s.testBit n.toNat),0)
  |_,_=>(.none,100)
 else
  let a':=aT a
  let b':=aT b
  match a',eY op 0 0 with
  |.bits x,some _=>(match b' with
   |.bits y=>((eY op x y).getD .none,0)
   |_=>(.none,100))
  |_,_=>
   if !dz a' b' then(.none,100)
   else if a'=.null∧(op=dT∨op=eI)then(.truth (decide (op=dT)),0)
   else match aR a,aR b' with
    |some n,some m=>
     (match a',fB op n m with
     |.whole _,some r=>r
     |_,_=>
      match a' with
      |.truth _=>if op=bQ∨op=bR then(.truth ((decide (op=bQ)&&decide (n+m=2))||(decide (op=bR)&&decide (0<n+m))),0)
       else match gE op n m with
        |some r=>(.truth r,0)
        |Option.none=>(.none,100)
      |_=>match gE op n m with
       |some r=>(.truth r,0)
       |Option.none=>(.none,100))
    |_,_=>(.none,100)
structure Ty where
 kind:Int
 module:List UInt8
 name:List UInt8
 base:Int
 index:Int
 low:Int
 high:Int
 names:List (List UInt8)
 fields:List (List UInt8×Int×Int)
 arms:List (List Int×List Int×Bool)
 params:List (Bool×Int)
 result:Int
deriving Inhabited,DecidableEq
def dg:Ty:=⟨0,[],[],0,0,0,0,[],[],[],[],0⟩
def aF(T:List Ty)(i:Int):Ty:=if i<0 then dg else T.getD i.toNat dg
def aJ(T:List Ty)(i:Int):Int:=(aF T i).kind
def aP(T:List Ty)(i:Int):Int:=if(aF T i).kind=9 then(aF T i).base else i
def bP(T:List Ty)(i:Int):Int:=aJ T (aP T i)
def bH(T:List Ty)(i:Int):Bool:=decide (bP T i∈[1,2,3,4,5,8])
def bE(T:List Ty)(i:Int):Bool:=decide (bP T i∈[1,2,5])
def rangeT(T:List Ty)(i:Int):Int×Int×Bool:=
 if !bH T i then(0,0,false)
 else if aJ T i=1 then(-32768,32767,true)
 else if aJ T i=2 then(0,65535,true)
 else if aJ T i=3 then(0,1,true)
 else if aJ T i=4 then(0,255,true)
 else if aJ T i=5 then(-32768,65535,true)
 else((aF T i).low,(aF T i).high,true)
def mA(T:List Ty)(a b:Int):Bool:=
 if aJ T a=5 then decide (bP T b=1∨bP T b=2)
 else if aJ T a=7 then decide (aJ T b=14∨aJ T b=15∨aJ T b=16)
 else false
end Go.Proofs.YtlpombjidhloiaaGreat
