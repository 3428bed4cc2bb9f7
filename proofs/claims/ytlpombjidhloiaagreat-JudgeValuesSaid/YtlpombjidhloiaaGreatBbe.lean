/- The runner's literals are the program's. The runner's fields, elements and cuts are the program's. Condition: what each theorem says. -/
import Derived.Test.YtlpombjidhloiaaGreatBbd
import Derived.Great.BuildSlice
import Derived.Deep.AppendSrc
import Derived.Deep.AppendLies
import Derived.Maps.AppendAt
namespace Go.Proofs.YtlpombjidhloiaaGreat.Eng
section
variable {P:Program} {B:Tb} {e:En} {s s':St} {w:World} {ns:NS} {tm:Tm} {a:Act} {o:Oper} {v:AV} {q:Nat}
theorem Tt:∀(l:List Value) (k off:Nat) (cs:Array Value),off+k+l.length≤cs.size→
 ((l.zipIdx k).foldl (fun cs (x:Value×Nat)=>cs.setIfInBounds (off+x.2) x.1) cs).size=cs.size∧∀j,((l.zipIdx k).foldl (fun cs (x:Value×Nat)=>cs.setIfInBounds (off+x.2) x.1) cs)[j]? =if off+k≤j∧j<off+k+l.length then l[j-(off+k)]? else cs[j]?
 |[],k,off,cs,h=>⟨rfl,fun j=>by simp;omega⟩
 |v::l,k,off,cs,h=>by
  rw[List.zipIdx_cons,List.foldl_cons];simp only[List.length_cons]at h;obtain⟨h1,h2⟩:=Tt l (k+1) off (cs.setIfInBounds (off+k) v) (by simp;omega);refine⟨by rw[h1];simp,fun j=>?_⟩;rw[h2 j,Array.getElem?_setIfInBounds];by_cases hj:off+k=j
  ·subst hj;rw[if_neg (by omega),if_pos rfl,if_pos (by omega),if_pos (by simp)];simp
  ·rw[if_neg hj];by_cases hc:off+(k+1)≤j∧j<off+(k+1)+l.length
   ·rw[if_pos hc,if_pos (by simp;omega),show j-(off+k)=(j-(off+(k+1)))+1 by omega];simp
   ·rw[if_neg hc,if_neg (by simp;omega)]
theorem Tu [FX]{place:Nat→Option (Nat×Nat)}{cells:Array Value}{i:Nat}{v:Value}{rest:List (Nat×Value)}{off size:Nat}(hp:place i=some (off,size))(h1:v.cells.size=size)(h2:off+size≤cells.size):
 ∃c2:Array Value,Instr.fill place cells ((i,v)::rest)=Instr.fill place c2 rest∧c2.size=cells.size∧∀j,c2[j]? =if off≤j∧j<off+size then v.cells[j-off]? else cells[j]? :=by
 have hl:v.cells.toList.length=size:=by simpa using h1
 obtain⟨h3,h4⟩:=Tt v.cells.toList 0 off cells (by rw[hl];omega);refine⟨_,?_,h3,fun j=>?_⟩
 ·rw[Instr.fill,hp];simp only;rw[if_neg (by simp;omega)];congr 1;rw[←Array.foldl_toList];simp
 ·rw[h4 j,hl];simp
theorem Tv [FX]{x:AV}{u:Value}(hR:R e q x u)(h:∀a∈cellsOf x,iE a=true):u.cells.size=(cellsOf x).length:=by
 have:=(sP hR h).len;simpa using this
theorem lI{α:Type}{c:Bool}{x:Option α}{r:α}(h:(Bool.rec none x c:Option α)=some r):c=true∧x=some r:=by
 cases c with
 |false=>cases h
 |true=>exact⟨rfl,h⟩
theorem Tw [FX](hm:aY e q ns tm a){size n:Nat}:∀(ps:List (Nat×Operand)) (c c':T (List AV)) (cells:Array Value),tJ size n (zr (bZ (fun p=>(p.1,mv ns p.2)) ps) tm) c=some c'→Rows e q c n size cells→cells.size=n*size→
 ∃cells',Instr.fill (fun i=>some (i*size,size)) cells (ps.map fun p=>(p.1,a.eval p.2))=some cells'∧cells'.size=n*size∧Rows e q c' n size cells'
 |[],c,c',cells,h,hr,hs=>by cases h;exact⟨cells,rfl,hs,hr⟩
 |p::ps,c,c',cells,h,hr,hs=>by
  obtain⟨hc,h⟩:=lI (x:=tJ size n (zr (bZ (fun p=>(p.1,mv ns p.2)) ps) tm) (c.set p.1 (cellsOf (ev (mv ns p.2) tm)))) h;obtain⟨h1,h2⟩:=ec hc;obtain⟨h2,h3⟩:=ec h2;have h1:=oD h1;have h2:=Nat.eq_of_beq_eq_true h2;have h3:=Nat.le_of_ble_eq_true h3;rw[gQ]at h2;have hR:=cQ hm p.2;have hsz:=Tv hR h1;have hcs:=sP hR h1;have hle:p.1*size+size≤cells.size:=by
   rw[hs,←Nat.succ_mul];exact Nat.mul_le_mul_right _ h3
  obtain⟨c2,h4,h5,h6⟩:=Tu (place:=fun i=>some (i*size,size)) (i:=p.1) (v:=a.eval p.2) (rest:=ps.map fun p=>(p.1,a.eval p.2)) rfl (by rw[hsz];exact h2) hle;rw[List.map_cons,h4];refine Tw hm ps _ c' c2 h (fun i l hi=>?_) (by rw[h5];exact hs);rw[T.at_set]at hi;by_cases hpi:p.1=i
  ·subst hpi;rw[if_pos rfl]at hi;cases hi;refine⟨h3,h2,fun j y hj=>?_⟩;obtain⟨v,h7,h8⟩:=hcs.at hj;have hjl:=(List.getElem?_eq_some_iff.1 hj).1;have h2':(cellsOf (ev (mv ns p.2) tm)).length=size:=h2;refine⟨h1 _ (List.mem_of_getElem? hj),v,?_,h8⟩;rw[h6,if_pos (by omega),show p.1*size+j-p.1*size=j by omega];simpa using h7
  ·rw[if_neg hpi]at hi;obtain⟨h7,h8,h9⟩:=hr i l hi;refine⟨h7,h8,fun j y hj=>?_⟩;obtain⟨h10,v,h11,h12⟩:=h9 j y hj;refine⟨h10,v,?_,h12⟩;have hjl:=(List.getElem?_eq_some_iff.1 hj).1;rw[h6,if_neg ?_]
   ·exact h11
   ·rintro⟨h13,h14⟩;rcases Nat.lt_trichotomy i p.1 with hlt|heq|hgt
    ·have:(i+1)*size≤p.1*size:=Nat.mul_le_mul_right _ hlt;exact xM
    ·exact hpi heq.symm
    ·have:(p.1+1)*size≤i*size:=Nat.mul_le_mul_right _ hgt;exact xM
theorem aei [FX]{z:Option (List AV)}{n size el:Nat}{ps:List (Nat×AV)}(h:Ei z n size el ps s=.val v s'):∃l c,z=some l∧n*size≤16777216∧fL l=true∧l.length=size∧tJ size n ps (mI l n)=some c∧v=.slc s.next 0 n (.ex n)∧s'=s.add (.cells c n size el false):=by
 cases z with
 |none=>cases h
 |some l=>
  obtain⟨hc,h⟩:=ra (x:=Le (tJ size n ps (mI l n)) n size el s) h;obtain⟨h1,h2⟩:=ec hc;obtain⟨h2,h3⟩:=ec h2;have h3:=Nat.eq_of_beq_eq_true h3;rw[gQ]at h3;cases hf:tJ size n ps (mI l n)with
  |none=>rw[hf]at h;cases h
  |some c=>
   rw[hf]at h;injection h with h4 h5
   exact⟨l,c,rfl,Nat.le_of_ble_eq_true h1,h2,h3,hf,h4.symm,h5.symm⟩
theorem aej [FX](ht:bS P B)(hr:aZ e s w)(hm:aY e s.next ns tm a){t:TypeId}{n:Nat}{ps:Array (Nat×Operand)}(ho:o.op=.buildSlice t n ps){el:Nat}(hd:dsc B t=.slice el)(hk:eD B el=true)(h:Ei (hH B el) n (aN B el) el (zr (bZ (fun p=>(p.1,mv ns p.2)) ps.toList) tm) s=.val v s'):dU P e s w (execOp a.eval o) v s':=by
 obtain⟨l,c,h1,h2,h3,h4,h5,rfl,rfl⟩:=aei h;obtain⟨u,h9,h10⟩:=IR ht h1;have h11:=oD h3;have h10:=h10 (e:=e) (q:=s.next) h11;obtain⟨ti,hi,hz,hb⟩:=np ht hk;have hu:=ht.dsc hd (by intro hh;cases hh);obtain⟨cells,h12,h13,h14⟩:=Tw (a:=a) hm ps.toList _ _ (uY (if n*l.length=0 then#[]else u.cells) (n*l.length)) h5 (by rw[←h4];exact Tx n h10 h11) (by rw[Tz,h4]);refine⟨e.up s.next w.heap.size 0,w.alloc (.cells cells el (0,0)),.value (.slice (some ⟨w.heap.size,0,none⟩) n n),?_,aW.cells hr (by simpa using h13) (fun h=>by cases h) h14,.inl ⟨_,rfl,uZ rfl 0 n rfl trivial⟩⟩;have hsz:ti.size=l.length:=by rw[←hz,h4]
 unfold execOp;rw[ho];have hle:¬n*l.length>2^ 24:=by rw[h4];omega
 have hps:(ps.map fun x=>(x.1,a.eval x.2)).toList=ps.toList.map fun p=>(p.1,a.eval p.2):=by simp
 rw[←h4]at h12;simp only[Instr.buildSlice,Sem.run_bind,run_underlying hu,Result.andThen_ok,sizeOf,typeInfo,run_program,hi,Sem.run_pure,hsz];rw[if_neg hle];by_cases h0:n*l.length=0
 ·rw[if_pos h0];rw[if_pos h0]at h12;simp only[Sem.run_bind,Sem.run_pure,Result.andThen_ok];rw[show(Instr.fill (fun i=>some (i*l.length,l.length)) ((Array.range (n*l.length)).map fun x=>(#[]:Array Value)[x% (#[]:Array Value).size]!) (ps.map fun x=>(x.1,a.eval x.2)).toList)=some cells by rw[hps];exact h12];exact IS
 ·rw[if_neg h0];rw[if_neg h0]at h12;simp only[Sem.run_bind,Sem.run_pure,Result.andThen_ok,h9];rw[show(Instr.fill (fun i=>some (i*l.length,l.length)) ((Array.range (n*l.length)).map fun x=>u.cells[x% u.cells.size]!) (ps.map fun x=>(x.1,a.eval x.2)).toList)=some cells by rw[hps];exact h12];exact IS
def PM(ns:NS)(place:Nat→Option (Nat×Nat)):List (Nat×Operand)→List (Nat×Nat×MV)→Prop
 |[],qs=>qs=[]
 |p::ps,qs=>∃off sz r,qs=(off,sz,mv ns p.2)::r∧place p.1=some (off,sz)∧PM ns place ps r
theorem TC [FX](hm:aY e q ns tm a){place:Nat→Option (Nat×Nat)}:∀(ps:List (Nat×Operand)) (qs:List (Nat×Nat×MV)) (l l':List AV) (cells:Array Value),PM ns place ps qs→vJ (tO qs tm) l=some l'→RL e q l cells.toList→
 ∃cells',Instr.fill place cells (ps.map fun p=>(p.1,a.eval p.2))=some cells'∧RL e q l' cells'.toList
 |[],qs,l,l',cells,hp,h,hr=>by subst hp;cases h;exact⟨cells,rfl,hr⟩
 |p::ps,qs,l,l',cells,hp,h,hr=>by
  obtain⟨off,sz,r,rfl,hpl,hp⟩:=hp;obtain⟨hc,h⟩:=lI (x:=vJ (tO r tm) (jU (cellsOf (ev (mv ns p.2) tm)) off l)) h;obtain⟨h1,h2⟩:=ec hc;obtain⟨h2,h3⟩:=ec h2;have h1:=oD h1;have h2:=Nat.eq_of_beq_eq_true h2;have h3:=Nat.le_of_ble_eq_true h3
  replace h1:∀x∈cellsOf (ev (mv ns p.2) tm),iE x=true:=h1
  rw[gQ]at h2
  replace h3:off+cK (cellsOf (ev (mv ns p.2) tm))≤cK l:=h3
  rw[gQ,gQ]at h3
  replace h2:(cellsOf (ev (mv ns p.2) tm)).length=sz:=h2
  have hR:=cQ hm p.2;have hsz:=Tv hR h1;have hcs:=sP hR h1;have hlen:cells.size=l.length:=by have:=hr.len;simpa using this
  obtain⟨c2,h4,h5,h6⟩:=Tu (place:=place) (i:=p.1) (v:=a.eval p.2) (rest:=ps.map fun p=>(p.1,a.eval p.2)) hpl (by rw[hsz];exact h2) (show off+sz≤cells.size by omega);rw[List.map_cons,h4];refine TC hm ps r _ l' c2 hp h (RL.mk (by rw[IT];simp;omega) fun j x y hj hv=>?_);rw[IU]at hj;rw[Array.getElem?_toList,h6]at hv;by_cases hc:off≤j∧j<off+(cellsOf (ev (mv ns p.2) tm)).length∧j<l.length
  ·rw[if_pos hc]at hj;rw[if_pos (by omega)]at hv;obtain⟨y',h7,h8⟩:=hcs.at hj;rw[Array.getElem?_toList]at h7;rw[h7]at hv;cases hv;exact h8
  ·rw[if_neg hc]at hj;have hjl:=(List.getElem?_eq_some_iff.1 hj).1;rw[if_neg (by omega)]at hv;obtain⟨y',h7,h8⟩:=hr.at hj;rw[Array.getElem?_toList]at h7;rw[h7]at hv;cases hv;exact h8
theorem TD(fs:List Field):∀(ps:List (Nat×Operand)) (qs:List (Nat×Nat×MV)),rS B ns fs ps=some qs→PM ns (fun i=>(fs.map fun f=>(f.offset,aN B f.type))[i]?) ps qs
 |[],qs,h=>by cases h;rfl
 |p::ps,qs,h=>by
  replace h:Lr B (mv ns p.2) (jH fs p.1) (rS B ns fs ps)=some qs:=h
  rw[qZ]at h;cases hf:fs[p.1]? with
  |none=>rw[hf]at h;cases h
  |some f=>
   rw[hf]at h;cases hr:rS B ns fs ps with
   |none=>rw[hr]at h;cases h
   |some r=>
    rw[hr]at h;cases h;exact⟨_,_,_,rfl,by simp only[List.getElem?_map,hf];rfl,TD fs ps r hr⟩
theorem TE [FX](ht:bS P B):∀(fs:List Field),tP B fs=true→fs.mapM (fun f=>(P.info? f.type).map fun i=>(f.offset,i.size))=some (fs.map fun f=>(f.offset,aN B f.type))
 |[],_=>by simp
 |f::fs,h=>by
  obtain⟨h1,h2⟩:=ec (show and (eD B f.type) (tP B fs)=true from h);obtain⟨ti,hi,hz,_⟩:=np ht h1;simp[List.mapM_cons,hi,TE ht fs h2,hz]
theorem TH [FX](ht:bS P B){t:TypeId}{l:List AV}(h:hH B t=some l):∃ti u,P.info? t=some ti∧ti.zero=some u∧∀{e:En} {q:Nat},(∀a∈l,iE a=true)→RL e q l u.cells.toList:=by
 unfold hH zero at h;cases hi:B.ty.at_ t with
 |none=>rw[hi]at h;cases h
 |some i=>
  rw[hi]at h;obtain⟨ti,h1,_,_,_,_,_,_,h2⟩:=ht.ty t i hi
  replace h:Option.rec none (fun z=>some (cellsOf z)) i.zero=some l:=h
  cases hz:i.zero with
  |none=>rw[hz]at h;cases h
  |some z=>
   rw[hz]at h;cases h;obtain⟨v,h3,rfl⟩:=h2 z hz;exact⟨ti,v,h1,h3,fun h=>sP (CU v) h⟩
theorem TJ{d:TypeDesc}{z:Option (List AV)}{ps:List (Nat×Operand)}{m:cg}(h:EC ns d z B ps=m)(hm:m≠.none):
 (∃fs qs,d=.struct fs∧tP B fs.toList=true∧rS B ns fs.toList ps=some qs∧m=.build z qs)∨∃n el,d=.array n el∧eD B el=true∧m=.build z (bZ (fun p=>(Nat.mul p.1 (aN B el),aN B el,mv ns p.2)) ps):=by
 cases d<;>first|(exact absurd h.symm hm)|skip
 case struct fs=>
  replace h:Bool.rec .none (Ls z (rS B ns fs.toList ps)) (tP B fs.toList)=m:=h
  cases hk:tP B fs.toList with
  |false=>rw[hk]at h;exact absurd h.symm hm
  |true=>
   rw[hk]at h;cases hp:rS B ns fs.toList ps with
   |none=>rw[hp]at h;exact absurd h.symm hm
   |some qs=>rw[hp]at h;exact .inl ⟨fs,qs,rfl,hk,hp,h.symm⟩
 case array n el=>
  replace h:Bool.rec .none (.build z (bZ (fun p=>(Nat.mul p.1 (aN B el),aN B el,mv ns p.2)) ps)) (eD B el)=m:=h
  cases hk:eD B el with
  |false=>rw[hk]at h;exact absurd h.symm hm
  |true=>rw[hk]at h;exact .inr ⟨n,el,rfl,hk,h.symm⟩
theorem aek [FX](ht:bS P B)(hr:aZ e s w)(hm:aY e s.next ns tm a){t:TypeId}{ps:Array (Nat×Operand)}(ho:o.op=.build t ps){m:cg}(hmm:EC ns (dsc B t) (hH B t) B ps.toList=m)(h:fS m tm s=.val v s'):dU P e s w (execOp a.eval o) v s':=by
 have hps:(ps.map fun x=>(x.1,a.eval x.2)).toList=ps.toList.map fun p=>(p.1,a.eval p.2):=by simp
 have hfin:∀(qs:List (Nat×Nat×MV)) (place:Nat→Option (Nat×Nat)),m=.build (hH B t) qs→PM ns place ps.toList qs→(∀ti u cells,P.info? t=some ti→ti.zero=some u→Instr.fill place u.cells (ps.map fun x=>(x.1,a.eval x.2)).toList=some cells→P.built t (ps.map fun x=>(x.1,a.eval x.2)).toList=some cells)→dU P e s w (execOp a.eval o) v s':=by
  intro qs place hmq hpm hb;subst hmq;obtain⟨h1,rfl⟩:=nr (show vl (KL (hH B t) (tO qs tm)) 3 s=.val v s' from h);cases hz:hH B t with
  |none=>rw[hz]at h1;cases h1
  |some l=>
   rw[hz]at h1;obtain⟨h2,h1⟩:=lI (x:=tI (vJ (tO qs tm) l)) h1;cases hf:vJ (tO qs tm) l with
   |none=>rw[hf]at h1;cases h1
   |some l'=>
    rw[hf]at h1;cases h1;obtain⟨ti,u,h3,h4,h5⟩:=TH ht hz;obtain⟨cells,h6,h7⟩:=TC (a:=a) hm ps.toList qs l l' u.cells hpm hf (h5 (oD h2));refine dh hr (u:=.agg cells) ?_ ⟨cells,rfl,h7⟩;unfold execOp;rw[ho];simp only[Sem.run_bind,run_build w t (ps.map fun x=>(x.1,a.eval x.2)) cells (hb ti u cells h3 h4 (by rw[hps];exact h6)),Result.andThen_ok];rfl
 have hnone:m≠.none:=by rintro rfl;cases h
 rcases TJ hmm hnone with⟨fs,qs,hd,hk,hp,hq⟩|⟨n,el,hd,hk,hq⟩
 ·have hu:=ht.dsc hd (by intro hh;cases hh);refine hfin qs _ hq (TD fs.toList ps.toList qs hp) fun ti u cells h3 h4 h5=>?_
  unfold Program.built;rw[h3,hu];simp only[h4,TE ht fs.toList hk];simpa using h5
 ·have hu:=ht.dsc hd (by intro hh;cases hh);obtain⟨te,hi,hz,_⟩:=np ht hk;refine hfin _ (fun i=>some (i*te.size,te.size)) hq ?_ fun ti u cells h3 h4 h5=>?_
  ·rw[oC];generalize ps.toList=l
   induction l with
   |nil=>rfl
   |cons p l ih=>exact⟨_,_,_,rfl,by rw[hz];rfl,ih⟩
  ·unfold Program.built;rw[h3,hu];simp only[h4,hi];exact h5
end
section
variable {P:Program} {B:Tb} {e:En} {s s':St} {w:World} {ns:NS} {tm:Tm} {a:Act} {o:Oper} {v:AV} {q:Nat}
theorem mC{t:Nat}{m m':cg}(h:kn B t m=m')(hm:m'≠.none):eD B t=true∧m'=m:=by
 replace h:Bool.rec .none m (eD B t)=m':=h
 cases hk:eD B t with
 |false=>rw[hk]at h;exact absurd h.symm hm
 |true=>rw[hk]at h;exact⟨rfl,h.symm⟩
theorem ael{x:AV}{k:Option Nat}(h:Ej x k s=.val v s'):∃b o j,x=.ptr b o∧k=some j∧v=.ptr b (o+j)∧s=s':=by
 cases x<;>first|(cases h;done)|skip
 rename_i b o
 replace h:Lh k b o s=.val v s':=h
 cases k with
 |none=>cases h
 |some j=>
  injection h with h1 h2
  exact⟨b,o,j,rfl,rfl,h1.symm,h2⟩
theorem aem [FX](ht:bS P B)(hr:aZ e s w)(hm:aY e s.next ns tm a){t:TypeId}{x:Operand}{i:Nat}(ho:o.op=.fieldAddr t x i)(h:Ej (ev (mv ns x) tm) (EB B (jH (zt (dsc B t)) i)) s=.val v s'):dU P e s w (execOp a.eval o) v s':=by
 obtain⟨b,off,j,h1,h2,rfl,rfl⟩:=ael h;have hx:=cQ hm x;rw[h1]at hx;obtain⟨h3,h4⟩:=hx;rw[qZ]at h2;cases hd:dsc B t<;>rw[hd]at h2<;>first|(cases h2;done)|skip
 rename_i fs;have hu:=ht.dsc hd (by intro hh;cases hh)
 replace h2:EB B (fs.toList[i]?)=some j:=h2
 cases hf:fs.toList[i]? with
 |none=>rw[hf]at h2;cases h2
 |some f=>
  rw[hf]at h2;obtain⟨h5,h6⟩:=lI (x:=some f.offset) h2;cases h6;obtain⟨h5,h6⟩:=ec h5;have h6:=Nat.le_of_ble_eq_true h6;obtain⟨ti,hi,hz,_⟩:=np ht h5;have hfs:fs[i]? =some f:=by rw[←Array.getElem?_toList];exact hf
  refine dh hr (u:=.pointer (some ⟨e.σ b,off+f.offset,none⟩)) ?_ ⟨h3,rfl⟩;unfold execOp;rw[ho];have hne:¬ti.size=0:=by omega
  simp[Instr.fieldAt,run_underlying hu,hfs,h4,Instr.sureAddr,fieldPlace,sizeOf,typeInfo,hi,hne,Addr.add_mid]
theorem TK [FX](ht:bS P B){t:TypeId}(hk:eD B t=true){l:List AV}{cs:Array Value}(hl:RL e q l cs.toList){i:Nat}{r:AV}(h:tM (iS B t) (aN B t) l i=some r):∃u,(part t cs i).run P w=.ok u w∧R e q r u:=by
 obtain⟨ti,d,hi,hz,hu,hg,_⟩:=ht.info hk;cases hgg:iS B t with
 |true=>
  rw[hgg]at h hg
  replace h:tI (rP l i (aN B t))=some r:=h
  cases hs:rP l i (aN B t)with
  |none=>rw[hs]at h;cases h
  |some k=>
   rw[hs]at h;cases h;have bu:oO (l.drop i) (aN B t)=some k:=by rw[←xL];exact hs
   obtain⟨rfl,iv⟩:=CT bu;have hagg:(isAgg t).run P w=.ok true w:=by
    exact IV
   refine⟨.agg (cs.extract i (i+aN B t)),?_,_,rfl,?_⟩
   ·simp[part,hagg,sizeOf,typeInfo,hi,hz]
   ·have:(cs.extract i (i+aN B t)).toList=(cs.toList.drop i).take (aN B t):=by
     rw[Array.toList_extract,List.extract_eq_take_drop,Nat.add_sub_cancel_left]
    rw[this];exact(hl.drop i).take _
 |false=>
  rw[hgg]at h hg
  replace h:jH l i=some r:=h
  rw[qZ]at h;obtain⟨u,h1,h2⟩:=hl.at h;rw[Array.getElem?_toList]at h1;have hagg:(isAgg t).run P w=.ok false w:=by
   exact IV
  exact⟨u,by simp[part,hagg,h1],h2⟩
theorem aen [FX]{x:AV}{f:Option FI}(h:Ek x f s=.val v s'):∃l g,x=.agg l∧f=some g∧tM g.agg g.size l g.off=some v∧s=s':=by
 cases x<;>first|(cases h;done)|skip
 rename_i l;cases f with
 |none=>cases h
 |some g=>
  obtain⟨h1,h2⟩:=nr (show vl (tM g.agg g.size l g.off) 16 s=.val v s' from h);exact⟨l,g,rfl,rfl,h1,h2⟩
theorem aeo [FX](ht:bS P B)(hr:aZ e s w)(hm:aY e s.next ns tm a){t:TypeId}{x:Operand}{i:Nat}(ho:o.op=.field t x i)(h:Ek (ev (mv ns x) tm) (EA B (jH (zt (dsc B t)) i)) s=.val v s'):dU P e s w (execOp a.eval o) v s':=by
 obtain⟨l,g,h1,h2,h3,rfl⟩:=aen h;have hx:=cQ hm x;rw[h1]at hx;obtain⟨cs,h4,h5⟩:=hx;rw[qZ]at h2;cases hd:dsc B t<;>rw[hd]at h2<;>first|(cases h2;done)|skip
 rename_i fs;have hu:=ht.dsc hd (by intro hh;cases hh)
 replace h2:EA B (fs.toList[i]?)=some g:=h2
 cases hf:fs.toList[i]? with
 |none=>rw[hf]at h2;cases h2
 |some f=>
  rw[hf]at h2;obtain⟨h6,h7⟩:=lI (x:=some (FI.mk f.offset (iS B f.type) (aN B f.type))) h2;cases h7;obtain⟨u,h8,h9⟩:=TK (P:=P) (w:=w) ht h6 h5 h3;have hfs:fs[i]? =some f:=by rw[←Array.getElem?_toList];exact hf
  refine dh hr ?_ h9;unfold execOp;rw[ho];simp[Instr.field,run_underlying hu,hfs,h4,asAgg,h8]
theorem CV [FX]{x:AV}{n j:Nat}(h:idx x n=some j):∃k,x=.int k (.ofNat j)∧j<n:=by
 unfold idx at h;split at h
 ·obtain⟨h1,h2⟩:=lI (x:=some _) h;cases h2;exact⟨_,rfl,Nat.le_of_ble_eq_true h1⟩
 ·cases h
theorem TL{x:Option Nat}{b o z:Nat}(h:vN x b o z s=.val v s'):∃j,x=some j∧v=.ptr b (o+j*z)∧s=s':=by
 cases x with
 |none=>cases h
 |some j=>injection h with h1 h2;exact⟨j,rfl,h1.symm,h2⟩
theorem aep [FX](ht:bS P B)(hr:aZ e s w)(hm:aY e s.next ns tm a){t:TypeId}{x i:Operand}(ho:o.op=.indexAddr t x i){m:cg}(hmm:EE B (mv ns x) (mv ns i) (dsc B t)=m)(h:fS m tm s=.val v s'):dU P e s w (execOp a.eval o) v s':=by
 have hne:m≠.none:=by rintro rfl;cases h
 have hx:=cQ hm x;have hi:=cQ hm i;cases hd:dsc B t<;>rw[hd]at hmm<;>first|exact absurd hmm.symm hne|skip
 case slice el=>
  obtain⟨hk,rfl⟩:=mC hmm hne;have hu:=ht.dsc hd (by intro hh;cases hh);obtain⟨te,hie,hz,_⟩:=np ht hk
  replace h:Em (ev (mv ns x) tm) (ev (mv ns i) tm) none (aN B el) s=.val v s':=h
  generalize ev (mv ns x) tm=X at hx h;cases X<;>first|(cases h;done)|skip
  rename_i b off n c;obtain⟨j,h1,rfl,rfl⟩:=TL (show vN (idx (ev (mv ns i) tm) n) b off (aN B el) s=.val v s' from h);obtain⟨k,h2,h3⟩:=CV h1;rw[h2]at hi;have hi:a.eval i=.int k (j:Int):=hi;obtain⟨h4,h5⟩:=hx;refine dh hr (u:=.pointer (some ⟨e.σ b,off+j*aN B el,none⟩)) ?_ ⟨h4.1,rfl⟩;unfold execOp;rw[ho];simp[Instr.indexAt,run_underlying hu,h5,hi,asIntOf,sizeOf,typeInfo,hie,h3,Addr.add_mid,hz]
 case array n el=>
  obtain⟨hk,rfl⟩:=mC hmm hne;have hu:=ht.dsc hd (by intro hh;cases hh);obtain⟨te,hie,hz,_⟩:=np ht hk
  replace h:Em (ev (mv ns x) tm) (ev (mv ns i) tm) (some n) (aN B el) s=.val v s':=h
  generalize ev (mv ns x) tm=X at hx h;cases X<;>first|(cases h;done)|skip
  rename_i b off;obtain⟨j,h1,rfl,rfl⟩:=TL (show vN (idx (ev (mv ns i) tm) n) b off (aN B el) s=.val v s' from h);obtain⟨k,h2,h3⟩:=CV h1;rw[h2]at hi;have hi:a.eval i=.int k (j:Int):=hi;obtain⟨h4,h5⟩:=hx;refine dh hr (u:=.pointer (some ⟨e.σ b,off+j*aN B el,none⟩)) ?_ ⟨h4,rfl⟩;unfold execOp;rw[ho];simp[Instr.indexAt,Instr.sureAddr,run_underlying hu,h5,hi,asIntOf,sizeOf,typeInfo,hie,h3,Addr.add_mid,hz]
theorem TM [FX](l:List Nat)(j:Nat):(bw l)[j]? =(l[j]?).map UInt8.ofNat:=by
 by_cases h:j<(bw l).size
 ·rw[ByteArray.getElem?_lt' _ _ h];rw[lP]at h;rw[List.getElem?_eq_getElem h,Option.map_some];unfold bw;show some ((l.map UInt8.ofNat).toArray[j]'(by simpa using h))=_;simp
 ·rw[ByteArray.getElem?_ge' _ _ h];rw[lP]at h;rw[List.getElem?_eq_none (by omega)];rfl
theorem aeq [FX](ht:bS P B)(hr:aZ e s w)(hm:aY e s.next ns tm a){t:TypeId}{x i:Operand}(ho:o.op=.index t x i){m:cg}(hmm:EF B (mv ns x) (mv ns i) (dsc B t)=m)(h:fS m tm s=.val v s'):dU P e s w (execOp a.eval o) v s':=by
 have hne:m≠.none:=by rintro rfl;cases h
 have hx:=cQ hm x;have hi:=cQ hm i;cases hd:dsc B t<;>rw[hd]at hmm<;>first|exact absurd hmm.symm hne|skip
 case string=>
  subst hmm;have hu:=ht.dsc hd (by intro hh;cases hh)
  replace h:Eo (ev (mv ns x) tm) (ev (mv ns i) tm) none false 0 s=.val v s':=h
  generalize ev (mv ns x) tm=X at hx h;cases X<;>first|(cases h;done)|skip
  rename_i l
  replace h:Lj (idx (ev (mv ns i) tm) (cK l)) l s=.val v s':=h
  cases hj:idx (ev (mv ns i) tm) (cK l)with
  |none=>rw[hj]at h;cases h
  |some j=>
   rw[hj]at h;obtain⟨h1,rfl⟩:=nr (show vl (Li (jH l j)) 22 s=.val v s' from h);rw[qZ]at h1;cases hl:l[j]? with
   |none=>rw[hl]at h1;cases h1
   |some c=>
    rw[hl]at h1;cases h1;obtain⟨k,h2,h3⟩:=CV hj;rw[h2]at hi;have hi:a.eval i=.int k (j:Int):=hi;obtain⟨h4,h5⟩:=hx;have hc:=h4 c (List.mem_of_getElem? hl);refine dh hr (u:=.int .u8 (.ofNat c)) ?_ rfl;unfold execOp;rw[ho];have hb:(bw l)[j]? =some (UInt8.ofNat c):=by rw[TM,hl];rfl
    simp[Instr.index,run_underlying hu,h5,hi,asIntOf,hb];omega
 case array n el=>
  obtain⟨hk,rfl⟩:=mC hmm hne;have hu:=ht.dsc hd (by intro hh;cases hh);obtain⟨te,hie,hz,_⟩:=np ht hk
  replace h:Eo (ev (mv ns x) tm) (ev (mv ns i) tm) (some n) (iS B el) (aN B el) s=.val v s':=h
  generalize ev (mv ns x) tm=X at hx h;cases X<;>first|(cases h;done)|skip
  rename_i l
  replace h:Ll (idx (ev (mv ns i) tm) n) (iS B el) (aN B el) l s=.val v s':=h
  cases hj:idx (ev (mv ns i) tm) n with
  |none=>rw[hj]at h;cases h
  |some j=>
   rw[hj]at h;obtain⟨h1,rfl⟩:=nr (show vl (tM (iS B el) (aN B el) l (j*aN B el)) 24 s=.val v s' from h);obtain⟨k,h2,h3⟩:=CV hj;rw[h2]at hi;have hi:a.eval i=.int k (j:Int):=hi;obtain⟨cs,h4,h5⟩:=hx;obtain⟨u,h6,h7⟩:=TK (P:=P) (w:=w) ht hk h5 h1;refine dh hr ?_ h7;unfold execOp;rw[ho];rw[hz]at h6;simp[Instr.index,run_underlying hu,h4,hi,asIntOf,sizeOf,typeInfo,hie,h3,h6]
end
section
variable {P:Program} {B:Tb} {e:En} {s s':St} {w:World} {ns:NS} {tm:Tm} {a:Act} {o:Oper} {v:AV} {q:Nat}
theorem TN [FX](hm:aY e q ns tm a){x:Option Operand}{d i:Nat}(h:gL (jh (gd ns x) tm) d=some i):(x=none∧i=d)∨∃y k,x=some y∧a.eval y=.int k (i:Int):=by
 cases x with
 |none=>cases h;exact .inl ⟨rfl,rfl⟩
 |some y=>
  replace h:gL (some (ev (mv ns y) tm)) d=some i:=h
  have hy:=cQ hm y;generalize ev (mv ns y) tm=Y at h hy;unfold gL at h;split at h<;>first|(cases h;done)|skip
  ·rename_i hh;cases hh
  ·rename_i k j hh;cases hh;cases h;exact .inr ⟨y,k,rfl,hy⟩
theorem IW [FX](hm:aY e q ns tm a){lo hi:Option Operand}{is:Bool}{len cap i j:Nat}(h1:gL (jh (gd ns lo) tm) 0=some i)(h2:gL (jh (gd ns hi) tm) len=some j)(hij:i≤j)(hj:hi≠none→j≤cap):(Instr.sliceBounds is len cap (lo.map a.eval) (hi.map a.eval) none).run P w=.ok (i,j,cap) w:=by
 rcases TN hm h1 with⟨rfl,rfl⟩|⟨y,k,rfl,h3⟩<;>rcases TN hm h2 with⟨rfl,rfl⟩|⟨z,k',rfl,h4⟩
 ·simp[Instr.sliceBounds]
 ·have:=hj (by simp);cases is<;>simp[Instr.sliceBounds,Instr.sliceBound,asIntOf,h4,this]
 ·cases is<;>simp[Instr.sliceBounds,Instr.sliceBound,asIntOf,h3,hij]
 ·have:=hj (by simp);cases is<;>simp[Instr.sliceBounds,Instr.sliceBound,asIntOf,h3,h4,hij,this]
theorem aer(l:List Nat)(i j:Nat):(bw l).extract i j=bw ((l.drop i).take (j-i)):=by
 apply ByteArray.ext;rw[ByteArray.data_extract];unfold bw;apply Array.ext';rw[Array.toList_extract,List.extract_eq_take_drop];simp[List.map_take,List.map_drop]
theorem aes [FX]{c:Cp}{b off n z i j κ:Nat}(h:Eg c b off n z i j=some v)(hf:c.fits n κ):i≤j∧((∃g,c=.gap g)→j≤n)∧(∀x,c=.ex x→j≤x)∧((v=.emp∧i=j)∨∃c' off',v=.slc b off' (j-i) c'∧c'.fits (j-i) κ∧c'.cap κ=c.cap κ-i∧off'=if c.cap κ=i then off else off+i*z):=by
 cases c with
 |ex x=>
  obtain⟨h1,h2⟩:=lI (x:=some _) h;obtain⟨h1,h3⟩:=ec h1;have h1:=Nat.le_of_ble_eq_true h1;have h3:=Nat.le_of_ble_eq_true h3;cases h2;refine⟨h1,(fun⟨g,hg⟩=>by cases hg),(fun y hy=>by cases hy;exact h3),.inr ⟨_,_,rfl,trivial,rfl,?_⟩⟩;show _=if x=i then off else off+i*z
  cases hb:Nat.beq x i with
  |true=>rw[if_pos (Nat.eq_of_beq_eq_true hb)]
  |false=>rw[if_neg (Nat.ne_of_beq_eq_false hb)];rfl
 |gap g=>
  have hf:n+g≤κ:=hf;obtain⟨h1,h2⟩:=lI (x:=(Bool.rec (Bool.rec (some .emp) (some (AV.slc b (Nat.add off (Nat.mul i z)) (Nat.sub j i) (.gap (Nat.add g i)))) (Nat.ble (i+1) j)) (some (AV.slc b off j (.gap g))) (Nat.beq i 0):Option AV)) h;obtain⟨h1,h3⟩:=ec h1;have h1:=Nat.le_of_ble_eq_true h1;have h3:=Nat.le_of_ble_eq_true h3;refine⟨h1,(fun _=>h3),(fun y hy=>by cases hy),?_⟩;cases hb:Nat.beq i 0 with
  |true=>
   rw[hb]at h2;have hi:=Nat.eq_of_beq_eq_true hb;subst hi;cases h2;refine .inr ⟨_,_,rfl,(show j-0+g≤κ by omega),rfl,?_⟩;split<;>simp
  |false=>
   rw[hb]at h2
   replace h2:(Bool.rec (some .emp) (some (AV.slc b (Nat.add off (Nat.mul i z)) (Nat.sub j i) (.gap (Nat.add g i)))) (Nat.ble (i+1) j):Option AV)=some v:=h2
   cases h4:Nat.ble (i+1) j with
   |false=>
    rw[h4]at h2;cases h2;refine .inl ⟨rfl,?_⟩;rcases Nat.lt_or_ge i j with hlt|hge
    ·rw[Nat.ble_eq_true_of_le hlt]at h4;cases h4
    ·omega
   |true=>
   rw[h4]at h2;have h4:=Nat.le_of_ble_eq_true h4;cases h2;refine .inr ⟨_,_,rfl,(show j-i+(g+i)≤κ by omega),(show κ-(g+i)=κ-g-i by omega),?_⟩;rw[if_neg (show ¬(Cp.gap g).cap κ=i by show ¬κ-g=i;omega)];rfl
theorem TO{u:Value}{z:Option Nat}{lo hi:Option AV}(h:vL (.lit u) z lo hi=some v):u=.slice none 0 0∧z≠none∧Eh (gL lo 0) (gL hi 0) (.lit (.slice none 0 0))=some v:=by
 generalize hX:AV.lit u=X at h;unfold vL at h;split at h<;>first|(cases h;done)|(cases hX;done)|skip
 cases hX;exact⟨rfl,(fun hh=>by cases hh),h⟩
theorem aet [FX](ht:bS P B)(hr:aZ e s w)(hm:aY e s.next ns tm a){t:TypeId}{x:Operand}{lo hi mx:Option Operand}(ho:o.op=.slice t x lo hi mx){m:cg}(hmm:Lx mx (zx B (mv ns x) (gd ns lo) (gd ns hi) (dsc B t))=m)(h:fS m tm s=.val v s'):dU P e s w (execOp a.eval o) v s':=by
 have hne:m≠.none:=by rintro rfl;cases h
 have hx:=cQ hm x;cases mx with
 |some y=>exact absurd hmm.symm hne
 |none=>
 replace hmm:zx B (mv ns x) (gd ns lo) (gd ns hi) (dsc B t)=m:=hmm
 cases hd:dsc B t<;>rw[hd]at hmm<;>first|exact absurd hmm.symm hne|skip
 case string=>
  subst hmm;have hu:=ht.dsc hd (by intro hh;cases hh);obtain⟨h1,rfl⟩:=nr (show vl (vL (ev (mv ns x) tm) none (jh (gd ns lo) tm) (jh (gd ns hi) tm)) 13 s=.val v s' from h);generalize ev (mv ns x) tm=X at hx h1;cases X<;>first|(cases h1;done)|skip
  case lit=>exact absurd rfl (TO h1).2.1
  rename_i l
  replace h1:Lb (gL (jh (gd ns lo) tm) 0) (gL (jh (gd ns hi) tm) (cK l)) l=some v:=h1
  cases hlo:gL (jh (gd ns lo) tm) 0 with
  |none=>rw[hlo]at h1;cases h1
  |some i=>
   cases hhi:gL (jh (gd ns hi) tm) (cK l)with
   |none=>rw[hlo,hhi]at h1;cases h1
   |some j=>
    rw[hlo,hhi]at h1;obtain⟨h2,h3⟩:=lI (x:=zm (oO (rM l i) (j-i))) h1;obtain⟨h2,h7⟩:=ec h2;have h2:=Nat.le_of_ble_eq_true h2;have h7:=Nat.le_of_ble_eq_true h7;rw[gQ]at h7;cases qf:oO (rM l i) (j-i)with
    |none=>rw[qf]at h3;cases h3
    |some r=>
     rw[qf]at h3;cases h3;rw[xL]at qf;obtain⟨rfl,h4⟩:=CT qf;rw[List.length_drop]at h4;obtain⟨h5,h6⟩:=hx;refine dh hr (u:=.string (bw ((l.drop i).take (j-i)))) ?_ ⟨fun b hb=>h5 b (List.mem_of_mem_drop (List.mem_of_mem_take hb)),rfl⟩;rw[gQ]at hhi;have hb:=IW (P:=P) (w:=w) (is:=false) (cap:=l.length) hm hlo hhi h2 (fun _=>h7);unfold execOp;rw[ho];simp[Instr.sliceAt,Instr.slice,run_underlying hu,h6,lP,hb,aer]
 case slice el=>
  obtain⟨hk,rfl⟩:=mC hmm hne;have hu:=ht.dsc hd (by intro hh;cases hh);obtain⟨te,hie,hz,_⟩:=np ht hk;obtain⟨h1,rfl⟩:=nr (show vl (vL (ev (mv ns x) tm) (some (aN B el)) (jh (gd ns lo) tm) (jh (gd ns hi) tm)) 13 s=.val v s' from h);generalize ev (mv ns x) tm=X at hx h1;cases X<;>first|(cases h1;done)|skip
  case lit u=>
   replace hx:a.eval x=u:=hx
   obtain⟨rfl,_,h1⟩:=TO h1;unfold Eh at h1;split at h1<;>first|(cases h1;done)|skip
   rename_i hlo hhi;cases h1;have hb:=IW (P:=P) (w:=w) (is:=true) (cap:=0) hm hlo hhi (Nat.le_refl 0) (fun _=>Nat.le_refl 0);refine dh hr (u:=.slice none 0 0) ?_ rfl;unfold execOp;rw[ho];simp[Instr.sliceAt,Instr.slice,run_underlying hu,hx,hb,sizeOf,typeInfo,hie]
  case slc b off n c=>
   replace h1:Lc (gL (jh (gd ns lo) tm) 0) (gL (jh (gd ns hi) tm) n) (aN B el) b off n c=some v:=h1
   cases hlo:gL (jh (gd ns lo) tm) 0 with
   |none=>rw[hlo]at h1;cases h1
   |some i=>
    cases hhi:gL (jh (gd ns hi) tm) n with
    |none=>rw[hlo,hhi]at h1;cases h1
    |some j=>
     rw[hlo,hhi]at h1;obtain⟨⟨h2,h3⟩,h4⟩:=hx;obtain⟨h5,h7,h8,hv⟩:=aes (show Eg c b off n (aN B el) i j=some v from h1) h3;have hcap:j≤c.cap (e.κ b):=by
      cases c with
      |ex x=>exact h8 x rfl
      |gap g=>have:=h7 ⟨g,rfl⟩;have h3:n+g≤e.κ b:=h3;show j≤e.κ b-g;omega
     have hb:=IW (P:=P) (w:=w) (is:=true) (cap:=c.cap (e.κ b)) hm hlo hhi h5 (fun _=>hcap);rcases hv with⟨rfl,hij⟩|⟨c',off',rfl,h9,h10,h11⟩
     ·subst hij;refine dh hr (u:=.slice (some ⟨e.σ b,if c.cap (e.κ b)=i then off else off+i*aN B el,none⟩) 0 (c.cap (e.κ b)-i)) ?_ ⟨_,_,rfl⟩;unfold execOp;rw[ho];simp[Instr.sliceAt,Instr.slice,run_underlying hu,h4,hb,sizeOf,typeInfo,hie];rw[hz];split<;>simp[Addr.add_mid]
     refine dh hr (u:=.slice (some ⟨e.σ b,off',none⟩) (j-i) (c.cap (e.κ b)-i)) ?_ ⟨⟨h2,h9⟩,by rw[h10]⟩;unfold execOp;rw[ho];simp[Instr.sliceAt,Instr.slice,run_underlying hu,h4,hb,sizeOf,typeInfo,hie];rw[h11,hz];split<;>simp[Addr.add_mid]
end
section
variable {P:Program} {B:Tb} {e:En} {s s':St} {w:World} {ns:NS} {tm:Tm} {a:Act} {o:Oper} {v:AV} {q:Nat}
theorem qF:∀(l:List (List AV)) (i:Nat) (c:T (List AV)) (j:Nat),(fR l i c).at_ j=if i≤j∧j<i+l.length then l[j-i]? else c.at_ j
 |[],i,c,j=>by
  rw[show fR [] i c=c from rfl,if_neg (by simp only[List.length_nil];omega)]
 |x::l,i,c,j=>by
  rw[show fR (x::l) i c=fR l (i+1) (c.set i x)from rfl,qF l (i+1) (c.set i x) j,T.at_set];by_cases h:i=j
  ·subst h;rw[if_neg (by omega),if_pos rfl,if_pos (by simp)];simp
  ·rw[if_neg h];by_cases h2:i+1≤j∧j<i+1+l.length
   ·rw[if_pos h2,if_pos (by simp;omega),show j-i=(j-(i+1))+1 by omega];rfl
   ·exact IQ
theorem IX{c:T (List AV)}:∀{n i:Nat} {l:List (List AV)},kZ c n i=some l→l.length=n∧∀j,j<n→l[j]? =c.at_ (i+j)
 |0,i,l,h=>by cases h;exact⟨rfl,fun j hj=>by omega⟩
 |n+1,i,l,h=>by
  rw[show kZ c (n+1) i=Option.rec none (fun l=>Option.rec none (fun r=>some (l::r)) (kZ c n (i+1))) (c.at_ i)from rfl]at h;cases h1:c.at_ i with
  |none=>rw[h1]at h;cases h
  |some x=>
   rw[h1]at h;cases h2:kZ c n (i+1)with
   |none=>rw[h2]at h;cases h
   |some r=>
    rw[h2]at h;cases h;obtain⟨h3,h4⟩:=IX h2;refine⟨by simp[h3],fun j hj=>?_⟩;cases j with
    |zero=>simpa using h1.symm
    |succ j=>rw[List.getElem?_cons_succ,h4 j (by omega),show i+1+j=i+(j+1)by omega]
structure vd(e:En)(q z:Nat)(new:List (List AV))(news:List Value):Prop where
 len:news.length=new.length*z
 el:∀i l,new[i]? =some l→l.length=z∧∀j a,l[j]? =some a→iE a=true∧∃v,news[i*z+j]? =some v∧R e q a v
theorem vd.one [FX]{z:Nat}{new:List (List AV)}{news:List Value}(h:vd e q z new news):∀u∈news,u.oneCell'=true:=fun u hu=>by
 obtain⟨x,hx,hxu⟩:=List.mem_iff_getElem.1 hu;rw[h.len]at hx;have hz:0<z:=by
  rcases Nat.eq_zero_or_pos z with h0|h0
  ·subst h0;omega
  ·exact h0
 have hi:x/z<new.length:=Nat.div_lt_of_lt_mul (by rw[Nat.mul_comm];exact hx);obtain⟨h1,h2⟩:=h.el (x/z) _ (List.getElem?_eq_getElem hi);have hj:x% z<(new[x/z]).length:=by rw[h1];exact Nat.mod_lt _ hz
 obtain⟨h3,v,h4,h5⟩:=h2 (x% z) _ (List.getElem?_eq_getElem hj);rw[show x/z*z+x% z=x by have:=Nat.div_add_mod x z;rw[Nat.mul_comm]at this;omega,List.getElem?_eq_getElem (by rw[h.len];exact hx),hxu]at h4;cases h4;exact IY h5 h3
theorem IZ [FX](hr:aZ e s w){y:AV}{u:Value}(hy:R e s.next y u){z m:Nat}{new:List (List AV)}(h:oS y z s=some (new,m)):∃news,new.length=m∧vd e s.next z new news∧∀tx,((∃e',P.underlying tx=some (.slice e'))∨P.underlying tx=some .string)→Src P z tx u m news w:=by
 unfold oS at h;split at h<;>first|(cases h;done)|skip
 ·cases h;have hu:u=.slice none 0 0:=hy;subst hu;exact⟨[],rfl,⟨by simp,fun i l hi=>by cases hi⟩,fun tx hk=>⟨hk,fun _=>rfl,run_firstCells_none w z 0 0 0,run_firstCells_none w.drew z 0 0 0,by simp,fun _ h=>by cases h⟩⟩
 ·cases h;obtain⟨a,c,rfl⟩:=hy;exact⟨[],rfl,⟨by simp,fun i l hi=>by cases hi⟩,fun tx hk=>⟨hk,fun _=>rfl,run_firstCells_some w z 0 a 0 c [] (by simp) (fun j u hj=>by cases hj),run_firstCells_some w.drew z 0 a 0 c [] (by simp) (fun j u hj=>by cases hj),by simp,fun _ h=>by cases h⟩⟩
 ·rename_i l;cases h;obtain⟨h1,rfl⟩:=hy;have hn:(byteCells (bw l))=l.map fun b=>Value.int .u8 (.ofNat b):=by
   unfold byteCells bw;simp only[List.map_map];exact TQ
  refine⟨byteCells (bw l),by rw[oC,gQ];simp,⟨by rw[hn,oC];simp,fun i k hi=>?_⟩,fun tx hk=>?_⟩
  ·rw[oC,List.getElem?_map]at hi;cases hl:l[i]? with
   |none=>rw[hl]at hi;cases hi
   |some b=>
    rw[hl]at hi;cases hi;refine⟨rfl,fun j a hj=>?_⟩;cases j with
    |zero=>
     cases hj;exact⟨rfl,_,by rw[hn,Nat.mul_one,Nat.add_zero,List.getElem?_map,hl];rfl,rfl⟩
    |succ j=>cases hj
  ·rw[gQ];have hsz:=lP l;refine⟨hk,fun _=>by rw[←hsz];rfl,by rw[←hsz];exact firstCells_string (bw l) w,by rw[←hsz];exact firstCells_string (bw l) w.drew,by rw[byteCells_length,Nat.mul_one,hsz],fun u hu=>?_⟩;obtain⟨_,_,rfl⟩:=List.mem_map.1 hu;rfl
 ·rename_i b off n c;cases hg:s.get b with
  |none=>rw[hg]at h;cases h
  |some ob=>
   rw[hg]at h;cases ob<;>first|(cases h;done)|skip
   rename_i cs k size t r;obtain⟨hc,hp⟩:=lI (x:=Ef n (kZ cs n (off/size))) h;obtain⟨h1,h2⟩:=ec hc;have h1:=Nat.eq_of_beq_eq_true h1;have h2:off% size=0:=Nat.eq_of_beq_eq_true h2;subst h1;cases hge:kZ cs n (off/size)with
   |none=>rw[hge]at hp;cases hp
   |some l=>
    rw[hge]at hp;cases hp;obtain⟨h3,h4⟩:=IX hge;obtain⟨vs,fz,h5,h6,h7,h8,h9⟩:=hr.cells hg;obtain⟨⟨h10,h11⟩,rfl⟩:=hy;have hoff:off/size*size=off:=by have:=Nat.div_add_mod off size;rw[Nat.mul_comm]at this;omega
    have hrow:∀i x,new[i]? =some x→x.length=size∧∀j a,x[j]? =some a→iE a=true∧∃v,vs[off+i*size+j]? =some v∧R e s.next a v:=fun i x hi=>by
     have hin:=(List.getElem?_eq_some_iff.1 hi).1;rw[h4 i (by omega)]at hi;obtain⟨_,h12,h13⟩:=h9 _ _ hi;refine⟨h12,fun j a hj=>?_⟩;obtain⟨h14,v,h15,h16⟩:=h13 j a hj;rw[Nat.add_mul,hoff]at h15;exact⟨h14,v,h15,h16⟩
    have hlen:((vs.toList.drop off).take (m*size)).length=m*size:=by
     have hend:m*size≤vs.size-off:=by
      rcases Nat.eq_zero_or_pos (m*size)with h0|h0
      ·omega
      ·have hm:0<m:=Nat.pos_of_mul_pos_right h0;have hz:0<size:=Nat.pos_of_mul_pos_left h0;have hi:m-1<new.length:=by omega
       obtain⟨h12,h13⟩:=hrow (m-1) _ (List.getElem?_eq_getElem hi);obtain⟨_,v,h15,_⟩:=h13 (size-1) _ (List.getElem?_eq_getElem (by rw[h12];omega));have:=(Array.getElem?_eq_some_iff.1 h15).1;have h16:m*size=(m-1)*size+size:=by rw[←Nat.succ_mul];congr 1;omega
       omega
     rw[List.length_take,List.length_drop,Array.length_toList];omega
    have hat:∀x,x<m*size→((vs.toList.drop off).take (m*size))[x]? =vs[off+x]? :=fun x hx=>by
     rw[List.getElem?_take,if_pos hx,List.getElem?_drop,Array.getElem?_toList]
    have hR:vd e s.next size new ((vs.toList.drop off).take (m*size)):=by
     refine⟨by rw[hlen,h3],fun i x hi=>?_⟩;obtain⟨h12,h13⟩:=hrow i x hi;have hin:=(List.getElem?_eq_some_iff.1 hi).1;refine⟨h12,fun j a hj=>?_⟩;obtain⟨h14,v,h15,h16⟩:=h13 j a hj;have hjl:=(List.getElem?_eq_some_iff.1 hj).1;refine⟨h14,v,?_,h16⟩;have:(i+1)*size≤m*size:=Nat.mul_le_mul_right _ (by omega);rw[Nat.succ_mul]at this;rw[hat _ (by omega),←Nat.add_assoc];exact h15
    refine⟨_,h3,hR,fun tx hk=>?_⟩;have hnews:∀j u,((vs.toList.drop off).take (m*size))[j]? =some u→w.cell? ((⟨e.σ b,off,none⟩:Addr).add j)=some u:=fun j u hj=>by
     have hjl:=(List.getElem?_eq_some_iff.1 hj).1;rw[hlen]at hjl;rw[hat j hjl]at hj;rw[Addr.add_mid,sQ h5];exact hj
    exact⟨hk,fun _=>rfl,run_firstCells_some w size m _ m _ _ hlen hnews,run_firstCells_some w.drew size m _ m _ _ hlen (by simpa using hnews),hlen,hR.one⟩
theorem aW.del [FX](h:aZ e s w)(b:Nat):aW e s w e (s.del b) w:=by
 have hat:∀j o,(s.del b).heap.at_ j=some o→s.heap.at_ j=some o:=fun j o hj=>by
  have hj:(s.heap.del b).at_ j=some o:=hj;rw[T.at_del]at hj;split at hj
  ·cases hj
  ·exact hj
 exact⟨⟨fun j o hj=>h.obj j o (hat j o hj),fun j o j' o' hj hj' he=>h.inj j o j' o' (hat j o hj) (hat j' o' hj') he,fun g o hg=>⟨(h.fx g o hg).1,fun j o' hj=>(h.fx g o hg).2 j o' (hat j o' hj)⟩⟩,cW.refl _ _,Nat.le_refl _,fun j o hj=>.inl ⟨j,o,hat j o hj,rfl⟩,rfl,rfl,rfl,Nat.le_refl _,fun _ _ _=>rfl,⟨[b],rfl,fun j _ hn=>by
  show(s.heap.del b).at_ j=_;rw[T.at_del,if_neg (fun hh=>hn (by rw[hh];simp))]⟩,rfl⟩
theorem Rows.put [FX]{c:T (List AV)}{n m z:Nat}{vs:Array Value}{vs':Array Value}{new:List (List AV)}{news:List Value}(h:∀i l,c.at_ i=some l→i<n∧l.length=z∧∀j a,l[j]? =some a→iE a=true∧∃v,vs[i*z+j]? =some v∧R e q a v)(hn:vd e q z new news)(hm:new.length=m)
 (h1:∀x,x<n*z→vs'[x]? =vs[x]?) (h2:∀x,x<m*z→vs'[n*z+x]? =news[x]?):Rows e q (fR new n c) (n+m) z vs':=fun i l hi=>by
 rw[qF]at hi;by_cases hc:n≤i∧i<n+new.length
 ·rw[if_pos hc]at hi;obtain⟨h3,h4⟩:=hn.el _ _ hi;refine⟨by omega,h3,fun j a hj=>?_⟩;obtain⟨h5,v,h6,h7⟩:=h4 j a hj;have hjl:=(List.getElem?_eq_some_iff.1 hj).1;refine⟨h5,v,?_,h7⟩;have hle:(i-n+1)*z≤m*z:=Nat.mul_le_mul_right _ (by omega);rw[Nat.succ_mul]at hle;have he:i*z=n*z+(i-n)*z:=by rw[←Nat.add_mul];congr 1;omega
  rw[he,Nat.add_assoc,h2 _ (by omega)];exact h6
 ·rw[if_neg hc]at hi;obtain⟨h3,h4,h5⟩:=h i l hi;refine⟨by omega,h4,fun j a hj=>?_⟩;obtain⟨h6,v,h7,h8⟩:=h5 j a hj;have hjl:=(List.getElem?_eq_some_iff.1 hj).1;refine⟨h6,v,?_,h8⟩;have hle:(i+1)*z≤n*z:=Nat.mul_le_mul_right _ h3;rw[Nat.succ_mul]at hle;rw[h1 _ (by omega)];exact h7
theorem aeu [FX]{cs c2:T (List AV)}{n k z:Nat}{vs:Array Value}(h:vK cs n k=some c2)(hr:Rows e q cs k z vs):Rows e q c2 n z vs:=by
 unfold vK at h;cases hb:Nat.beq n k with
 |true=>
  rw[hb]at h;cases h;have:=Nat.eq_of_beq_eq_true hb;subst this;exact hr
 |false=>
  rw[hb]at h;cases hg:kZ cs n 0 with
  |none=>rw[hg]at h;cases h
  |some l=>
   rw[hg]at h;cases h;obtain⟨h1,h2⟩:=IX hg;intro i x hi;rw[qF]at hi;split at hi
   ·rename_i hc;rw[Nat.sub_zero,h2 i (by omega),Nat.zero_add]at hi;obtain⟨_,h3,h4⟩:=hr i x hi;exact⟨by omega,h3,h4⟩
   ·cases hi
theorem TR{olds news:List Value}{k:Nat}(hl:olds.length=k)(z:Array Value)(x:Nat):((olds++news).toArray++z)[x]? =if x<k then olds[x]? else if x<k+news.length then news[x-k]? else z[x-(k+news.length)]? :=by
 rw[Array.getElem?_append];simp only[List.size_toArray,List.length_append,List.getElem?_toArray,hl];by_cases h1:x<k
 ·rw[if_pos (by omega),if_pos h1,List.getElem?_append_left (by omega)]
 ·rw[if_neg h1];by_cases h2:x<k+news.length
  ·rw[if_pos h2,if_pos h2,List.getElem?_append_right (by omega),hl]
  ·rw[if_neg h2,if_neg h2]
theorem Ja [FX](ht:bS P B)(hr:aZ e s w){t tx ty el:TypeId}(hu:P.underlying t=some (.slice el))(hk:eD B el=true)(hby:rO B el≤1048576){zl:List AV}(hz:hH B el=some zl)(ga:fL zl=true)(kD:zl.length=aN B el)
 {base:Option Addr} {n cap:Nat} {olds:List Value} (eC:olds.length=n*aN B el) (eu:(Builtin.firstCells (aN B el) n (.slice base n cap)).run P w.drew=.ok olds.toArray w.drew)
 {u:Value} {m:Nat} {new:List (List AV)} {news:List Value} (hs:Src P (aN B el) tx u m news w) (hn:vd e s.next (aN B el) new news) (hm:new.length=m) (hg:cap<n+m) (hle:n+m≤67108864)
 {c:T (List AV)} (hc:Rows e s.next c n (aN B el) olds.toArray):
 ∃κ,(Builtin.append_ #[t,tx] ty #[.slice base n cap,u]).run P w=.ok (.slice (some ⟨w.heap.size,0,none⟩) (n+m) κ) (w.drew.alloc (.cells ((olds++news).toArray++Builtin.zeroCells ((((P.info? el).bind (·.zero)).getD undef).cells) (κ-(n+m))) el))∧
  aW e s w (e.up s.next w.heap.size κ) (s.add (.cells (fR new n c) (n+m) (aN B el) el true)) (w.drew.alloc (.cells ((olds++news).toArray++Builtin.zeroCells ((((P.info? el).bind (·.zero)).getD undef).cells) (κ-(n+m))) el))∧n+m≤κ:=by
 obtain⟨ti,hi,hsz,hb⟩:=np ht hk;obtain⟨ti',z,hi',hzz,hzR⟩:=TH ht hz;rw[hi]at hi';cases hi';have hzl:=(hzR (e:=e) (q:=s.next) (oD ga)).len;rw[Array.length_toList]at hzl;rw[hsz]at hs hn eC eu hc kD ⊢;have hfit:=growslice_fits (need:=n+m) (old:=cap) (bytes:=ti.bytes) hg (by
  have:(n+m)*ti.bytes≤67108864*1048576:=Nat.mul_le_mul hle (by omega);omega)
 have hrun:=run_append_grow_src (P:=P) w t tx ty el ti z hu hi hzz base n cap olds eu u m news hs hg (by omega) hfit;have hge:=grownCap_ge w (n+m) cap el;refine⟨grownCap w (n+m) cap el,?_,?_,hge⟩
 ·rw[hi];simp only[Option.bind_some,hzz,Option.getD_some];exact hrun
 ·rw[hi];simp only[Option.bind_some,hzz,Option.getD_some];have hnl:=hn.len;rw[hm]at hnl;have h1:=aW.cells (e:=e) (s:=s) (w:=w.drew) (aW.drew hr).rep (c:=fR new n c) (n:=n+m) (size:=ti.size) (t:=el) (κ:=grownCap w (n+m) cap el) (room:=true)
   (cs:=(olds++news).toArray++Builtin.zeroCells z.cells (grownCap w (n+m) cap el-(n+m)))
   (by
    rw[if_pos rfl];simp only[Array.size_append,List.size_toArray,List.length_append,size_zeroCells,eC,hnl];rw[hzl,kD,←Nat.add_mul,←Nat.add_mul];congr 1;omega)
   (fun _=>hge)
   (Rows.put (vs:=olds.toArray) hc hn hm (fun x hx=>by rw[TR eC,if_pos hx,List.getElem?_toArray]) (fun x hx=>by
    rw[TR eC,if_neg (by omega),if_pos (by omega),Nat.add_sub_cancel_left]))
  exact(aW.drew hr).trans h1
end
end Go.Proofs.YtlpombjidhloiaaGreat.Eng
