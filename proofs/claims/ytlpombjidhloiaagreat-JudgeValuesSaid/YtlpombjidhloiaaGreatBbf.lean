/- The runner's built-in functions are the program's. The runner's built-in functions, assertions and conversions . Condition: what each theorem says. -/
import Derived.Test.YtlpombjidhloiaaGreatBbe
namespace Go.Proofs.YtlpombjidhloiaaGreat.Eng
section
variable {P:Program} {B:Tb} {e:En} {s s':St} {w:World} {ns:NS} {tm:Tm} {a:Act} {o:Oper} {v:AV} {q:Nat}
theorem aW.start [FX]{s1:St}(h:s1.next=s.next)(h0:aW e s w e s1 w){κ:Nat}{s2:St}{w2:World}(h1:aW e s1 w (e.up s1.next w.heap.size κ) s2 w2):aW e s w (e.up s.next w.heap.size κ) s2 w2:=h0.trans (h▸h1)
theorem aev{x:AV}{el z m:Nat}{new:List (List AV)}(h:zk x el z new m s=.val v s'):(x=.lit (.slice none 0 0)∧(Bool.rec (Bool.rec (.bad 129) (oP s (.cells (fR new 0 .leaf) m z el true) m (.gap 0)) (Nat.ble m 67108864)) (.val (.lit (.slice none 0 0)) s) (Nat.beq m 0):Nx)=.val v s')∨∃b o n c,x=.slc b o n c∧KU (s.get b) c b o n el z new m s=.val v s':=by
 unfold zk at h;split at h<;>first|(cases h;done)|exact .inl ⟨rfl,h⟩|exact .inr ⟨_,_,_,_,rfl,h⟩
theorem aew [FX](ht:bS P B)(hr:aZ e s w){t tx ty el:TypeId}(hd:dsc B t=.slice el)(htx:Lu (dsc B tx)=true)(hk:eD B el=true)(hby:rO B el≤1048576)(hpos:1≤aN B el){zl:List AV}(hz:hH B el=some zl)(ga:fL zl=true)(kD:zl.length=aN B el)
 {x y:AV} {u z:Value} (hx:R e s.next x u) (hy:R e s.next y z) (h:KY x y el (aN B el) s=.val v s'):∃e' w' r,(Builtin.append_ #[t,tx] ty #[u,z]).run P w=.ok r w'∧aW e s w e' s' w'∧R e' s'.next v r:=by
 have hu:=ht.dsc hd (by intro hh;cases hh);have hktx:(∃e',P.underlying tx=some (.slice e'))∨P.underlying tx=some .string:=by
  cases hdt:dsc B tx<;>rw[hdt]at htx<;>first|(cases htx;done)|skip
  ·exact .inr (ht.dsc hdt (by intro hh;cases hh))
  ·exact .inl ⟨_,ht.dsc hdt (by intro hh;cases hh)⟩
 obtain⟨ti,hi,hsz,hb⟩:=np ht hk
 replace h:KW (oS y (aN B el) s) x el (aN B el) s=.val v s':=h
 cases hrow:oS y (aN B el) s with
 |none=>rw[hrow]at h;cases h
 |some p=>
  rw[hrow]at h;obtain⟨new,m⟩:=p;obtain⟨news,hm,hn,hs⟩:=IZ (P:=P) hr hy hrow;have hs:=hs tx hktx;have hnl:=hn.len;rw[hm]at hnl
  replace h:zk x el (aN B el) new m s=.val v s':=h
  have hinv:=aev h;clear h;rcases hinv with⟨rfl,h⟩|⟨b,off,n,c,rfl,h⟩
  ·have gW:u=.slice none 0 0:=hx;subst gW;cases oN:Nat.beq m 0 with
   |true=>
    rw[oN]at h;have oN:=Nat.eq_of_beq_eq_true oN;injection h with h1 h2
    subst h1 h2 oN;have hnn:news=[]:=List.eq_nil_of_length_eq_zero (by simpa using hnl);subst hnn;rw[hsz]at hs;refine⟨e,w,.slice none 0 0,?_,aW.refl hr,rfl⟩;rcases hs.kind with⟨e',hk'⟩|hk'<;>simp[Builtin.append_,run_underlying hu,run_underlying hk',sizeOf,typeInfo,hi,hs.len,hs.cells]
   |false=>
    rw[oN]at h;have oN:=Nat.ne_of_beq_eq_false oN;obtain⟨h1,h2⟩:=ra (x:=oP s (.cells (fR new 0 .leaf) m (aN B el) el true) m (.gap 0)) h;have h1:=Nat.le_of_ble_eq_true h1;injection h2 with h2 h3
    subst h2 h3;obtain⟨κ,h4,h5,h6⟩:=Ja ht hr (ty:=ty) hu hk hby hz ga kD (base:=none) (n:=0) (cap:=0) (olds:=[]) (by simp) (by simp[Builtin.firstCells]) hs hn hm (by omega) (by omega) (c:=.leaf) (fun i l hi=>by cases hi);rw[Nat.zero_add]at h4 h5 h6;exact⟨_,_,_,h4,h5,uZ (w:=w) rfl κ m rfl (show m+0≤κ by omega)⟩
  ·cases hg:s.get b with
   |none=>rw[hg]at h;cases h
   |some ob=>
    rw[hg]at h;cases ob<;>first|(cases h;done)|skip
    rename_i cs k size t2 r;obtain⟨hc,hcap⟩:=ra (x:=KT c cs k size t2 r b off n new m s) h;clear h;obtain⟨h1,h2⟩:=ec hc;obtain⟨h1,h3⟩:=ec h1;obtain⟨h2,h4⟩:=ec h2;have h1:=Nat.eq_of_beq_eq_true h1;have h3:=Nat.eq_of_beq_eq_true h3;have h2:off% size=0:=Nat.eq_of_beq_eq_true h2;have h4:=Nat.le_of_ble_eq_true h4;subst h3;obtain⟨vs,fz,h5,h6,h7,h8,h9⟩:=hr.cells hg;obtain⟨⟨h10,h11⟩,rfl⟩:=hx;have hoff:off/size*size=off:=by have:=Nat.div_add_mod off size;rw[Nat.mul_comm]at this;omega
    cases c with
    |ex cp=>
     replace hcap:(Bool.rec (KR (kZ cs n (off/size)) new n m size t2 s) (Bool.rec (.bad 127) (.val (.slc b off (n+m) (.ex cp)) (s.put b (.cells (fR new (off/size+n) cs) k size t2 r))) (Nat.ble (off/size+n+m) k)) (Nat.ble (n+m) cp):Nx)=.val v s':=hcap
     cases hroom:Nat.ble (n+m) cp with
     |true=>
      rw[hroom]at hcap;have hroom:=Nat.le_of_ble_eq_true hroom;obtain⟨h12,h13⟩:=ra (x:=.val (.slc b off (n+m) (.ex cp)) (s.put b (.cells (fR new (off/size+n) cs) k size t2 r))) hcap;have h12:=Nat.le_of_ble_eq_true h12;injection h13 with h13 h14
      subst h13 h14;have hkz:k*size≤vs.size:=by
       rw[h7];split
       ·rename_i hrr;exact Nat.mul_le_mul_right _ (h8 hrr)
       ·exact Nat.le_refl _
      have hend:off+n*size+m*size≤vs.size:=by
       have:(off/size+n+m)*size≤k*size:=Nat.mul_le_mul_right _ h12;rw[Nat.add_mul,Nat.add_mul,hoff]at this;omega
      rw[←h1]at hs hn hnl;obtain⟨cs',h15,h16,h17,h18,h19,h20⟩:=CW news (off+n*size) w vs h5;have oK:size=ti.size:=h1.trans hsz;have hrun:=run_append_room_src (P:=P) w t tx ty t2 ti hu hi (e.σ b) off n cp z m news (by rw[←oK];exact hs) hroom
       (fun j hj=>by rw[←oK,sQ h5,Array.getElem?_eq_getElem (by omega)];rfl)
       (fun j hj=>by
        have:=h6.free (o:=off+n*size+j) (by omega);rw[←oK];unfold World.frozen?;simp only[h5];exact this)
      rw[←oK]at hrun;refine⟨e,_,_,hrun,aW.put hr hg _ _ ?_ h15 h18 h19 h20,⟨h10,trivial⟩,rfl⟩;refine⟨cs',fz,rfl,by rw[h16];exact h6,by rw[h16];exact h7,h8,fun i l hi'=>?_⟩;rw[qF]at hi';by_cases hci:off/size+n≤i∧i<off/size+n+new.length
      ·rw[if_pos hci]at hi';obtain⟨h21,h22⟩:=hn.el _ _ hi';refine⟨by omega,h21,fun j a hj=>?_⟩;obtain⟨h23,v,h24,h25⟩:=h22 j a hj;have hjl:=(List.getElem?_eq_some_iff.1 hj).1;refine⟨h23,v,?_,h25⟩;have hle:(i-(off/size+n)+1)*size≤m*size:=Nat.mul_le_mul_right _ (by omega);rw[Nat.succ_mul]at hle;have he:i*size=off+n*size+(i-(off/size+n))*size:=by
        rw[←hoff,←Nat.add_mul,←Nat.add_mul,hoff];congr 1;omega
       rw[h17,if_pos (by omega),show i*size+j-(off+n*size)=(i-(off/size+n))*size+j by omega];exact h24
      ·rw[if_neg hci]at hi';obtain⟨h21,h22,h23⟩:=h9 i l hi';refine⟨h21,h22,fun j a hj=>?_⟩;obtain⟨h24,v,h25,h26⟩:=h23 j a hj;have hjl:=(List.getElem?_eq_some_iff.1 hj).1;refine⟨h24,v,?_,h26⟩;rw[h17,if_neg ?_]
       ·exact h25
       ·rintro⟨h27,h28,h29⟩;rw[hnl]at h28;rcases Nat.lt_or_ge i (off/size+n)with hlt|hge
        ·have:(i+1)*size≤(off/size+n)*size:=Nat.mul_le_mul_right _ hlt;rw[Nat.succ_mul,Nat.add_mul,hoff]at this;omega
        ·have:(off/size+n+m)*size≤i*size:=Nat.mul_le_mul_right _ (by omega);rw[Nat.add_mul,Nat.add_mul,hoff]at this;omega
     |false=>
      rw[hroom]at hcap;have hroom:¬n+m≤cp:=fun hh=>by rw[Nat.ble_eq_true_of_le hh]at hroom;cases hroom
      cases hge:kZ cs n (off/size)with
      |none=>rw[hge]at hcap;cases hcap
      |some old=>
       rw[hge]at hcap;injection hcap with h13 h14
       subst h13 h14;have aho:oS (.slc b off n (.ex cp)) (aN B t2) s=some (old,n):=by
        show KQ (s.get b) off n (aN B t2)=_;rw[hg];show(Bool.rec none (Ef n (kZ cs n (off/size))) (and (Nat.beq size (aN B t2)) (Nat.beq (off% size) 0)):Option (List (List AV)×Nat))=_;rw[hge,h1,Nat.beq_refl,←h1,h2];rfl
       obtain⟨olds,eC,eu,eT⟩:=IZ (P:=P) (w:=w) hr (y:=.slc b off n (.ex cp)) (u:=.slice (some ⟨e.σ b,off,none⟩) n ((Cp.ex cp).cap (e.κ b))) ⟨⟨h10,h11⟩,rfl⟩ aho;have eT:=eT t (.inl ⟨_,hu⟩);have hol:=eu.len;rw[eC]at hol;obtain⟨κ,h24,h25,h26⟩:=Ja ht hr (ty:=ty) hu hk hby hz ga kD (base:=some ⟨e.σ b,off,none⟩) (n:=n) (cap:=cp) (olds:=olds) hol eT.cellsD hs hn hm (by omega) h4 (c:=fR old 0 .leaf) (fun i l hi'=>by
        rw[qF]at hi';split at hi'
        ·rename_i hci;obtain⟨h30,h31⟩:=eu.el _ _ hi';refine⟨by omega,h30,fun j a hj=>?_⟩;obtain⟨h32,v,h33,h34⟩:=h31 j a hj;exact⟨h32,v,by simpa using h33,h34⟩
        ·cases hi')
       rw[←h1]at h25;exact⟨_,_,_,h24,h25,uZ (w:=w) rfl κ (n+m) rfl (show n+m+0≤κ by omega)⟩
    |gap g=>
     have hgt:=ra (x:=KS (vK cs n k) b new n m size t2 s) hcap;clear hcap;obtain⟨dE,hcap⟩:=hgt;obtain⟨yZ,Kx⟩:=ec dE;obtain⟨yZ,Ky⟩:=ec yZ;obtain⟨Kx,Wy⟩:=ec Kx;have yZ:=Nat.eq_of_beq_eq_true yZ;have Ky:=Nat.eq_of_beq_eq_true Ky;have Wy:=Nat.le_of_ble_eq_true Wy;subst yZ Ky Kx;cases hkeep:vK cs n k with
     |none=>rw[hkeep]at hcap;cases hcap
     |some c2=>
      rw[hkeep]at hcap;injection hcap with h13 h14
      subst h13 h14;rw[if_pos rfl]at h7;have h8:=h8 rfl;have hrows:=aeu (e:=e) (q:=s.next) (vs:=vs) hkeep h9;by_cases hroom:n+m≤e.κ b
      ·have hend:n*size+m*size≤vs.size:=by
        rw[h7,←Nat.add_mul];exact Nat.mul_le_mul_right _ hroom
       rw[←h1]at hs hn hnl;obtain⟨cs',h15,h16,h17,h18,h19,h20⟩:=CW news (n*size) w vs h5;have oK:size=ti.size:=h1.trans hsz;have hrun:=run_append_room_src (P:=P) w t tx ty t2 ti hu hi (e.σ b) 0 n (e.κ b) z m news (by rw[←oK];exact hs) hroom
        (fun j hj=>by rw[←oK,sQ h5,Array.getElem?_eq_getElem (by omega)];rfl)
        (fun j hj=>by
         have:=h6.free (o:=0+n*size+j) (by omega);rw[←oK];unfold World.frozen?;simp only[h5];exact this)
       rw[←oK,Nat.zero_add]at hrun;have hκ:(e.up s.next (e.σ b) (e.κ b)).κ s.next=e.κ b:=by simp[En.up]
       have hσ:(e.up s.next (e.σ b) (e.κ b)).σ s.next=e.σ b:=by simp[En.up]
       refine⟨e.up s.next (e.σ b) (e.κ b),_,_,hrun,aW.moved hr hg _ _ (e.κ b) ?_ h15 h18 h19 h20,⟨⟨Nat.lt_succ_self _,if_pos rfl⟩,?_⟩,?_⟩
       ·refine⟨cs',fz,rfl,by rw[h16];exact h6,by rw[h16,h7,hκ];simp,by rw[hκ];exact fun _=>hroom,?_⟩;refine Rows.ext (En.up_ext _ _ _ _) (Nat.le_succ _) (Rows.put (vs:=vs) hrows hn hm (fun x hx=>?_) fun x hx=>?_)
        ·rw[h17,if_neg (by omega)]
        ·rw[h17,if_pos (by omega),Nat.add_sub_cancel_left]
       ·show n+m+0≤(e.up s.next (e.σ b) (e.κ b)).κ s.next;rw[hκ];omega
       ·show _=Value.slice (some ⟨(e.up s.next (e.σ b) (e.κ b)).σ s.next,0,none⟩) (n+m) ((Cp.gap 0).cap ((e.up s.next (e.σ b) (e.κ b)).κ s.next));rw[hκ,hσ];rfl
      ·have eL:=(aW.del hr b).rep;have hle:n*size≤vs.size:=by rw[h7];exact Nat.mul_le_mul_right _ (by omega)
       have hol:(vs.toList.take (n*size)).length=n*size:=by rw[List.length_take,Array.length_toList];omega
       have hfc:=run_firstCells_some (P:=P) w.drew size n ⟨e.σ b,0,none⟩ n ((Cp.gap 0).cap (e.κ b)) (vs.toList.take (n*size)) hol (fun j u hj=>by
        have hjl:=(List.getElem?_eq_some_iff.1 hj).1;rw[hol]at hjl;rw[List.getElem?_take,if_pos hjl,Array.getElem?_toList]at hj;rw[Addr.add_mid,Nat.zero_add];rw[World.cell?_drew,sQ h5];exact hj)
       rw[h1]at hol hfc;obtain⟨κ,h24,h25,h26⟩:=Ja (s:=s.del b) ht eL (ty:=ty) hu hk hby hz ga kD (base:=some ⟨e.σ b,0,none⟩) (n:=n) (cap:=(Cp.gap 0).cap (e.κ b)) hol hfc hs hn hm (show e.κ b<n+m by omega) h4 (c:=c2) (fun i l hi'=>by
        obtain⟨h30,h31,h32⟩:=hrows i l hi';refine⟨h30,by rw[←h1];exact h31,fun j a hj=>?_⟩;obtain⟨h33,v,h34,h35⟩:=h32 j a hj;have hjl:=(List.getElem?_eq_some_iff.1 hj).1;refine⟨h33,v,?_,h35⟩;have hle:(i+1)*size≤n*size:=Nat.mul_le_mul_right _ h30;rw[Nat.succ_mul]at hle;rw[←h1,List.getElem?_toArray,List.getElem?_take,if_pos (by omega),Array.getElem?_toList];exact h34)
       rw[←h1]at h24 h25;exact⟨_,_,_,h24,(aW.del hr b).trans h25,uZ (s:=s) (w:=w) rfl κ (n+m) rfl (show n+m+0≤κ by omega)⟩
end
section
variable {P:Program} {B:Tb} {e:En} {s s':St} {w:World} {ns:NS} {tm:Tm} {a:Act} {o:Oper} {v:AV} {q:Nat}
theorem xN{α:Type}{x:Array α}{l:List α}(h:x.toList=l):x=l.toArray:=by rw[←h]
theorem Jb{c:Bool}{m m':cg}(h:(Bool.rec .none m c:cg)=m')(hm:m'≠.none):c=true∧m'=m:=by
 cases c with
 |false=>exact absurd h.symm hm
 |true=>exact⟨rfl,h.symm⟩
theorem aex [FX]{z:Option (List AV)}{n:Nat}(h:Lt z n=true):∃l,z=some l∧fL l=true∧l.length=n:=by
 cases z with
 |none=>cases h
 |some l=>
  obtain⟨h1,h2⟩:=ec (show and (fL l) (Nat.beq (cK l) n)=true from h);have h2:=Nat.eq_of_beq_eq_true h2;rw[gQ]at h2;exact⟨l,rfl,h1,h2⟩
theorem aey [FX](ht:bS P B)(hr:aZ e s w)(hm:aY e s.next ns tm a){c:Call}(ho:o.op=.call c)(hc:c.callee=.builtin .append){x y:Operand}{t tx:TypeId}(h1:c.args.toList=[x,y])(h2:c.argTypes.toList=[t,tx]){m:cg}(hmm:zv B (dsc B tx) (mv ns x) (mv ns y) (dsc B t)=m)(h:fS m tm s=.val v s'):dU P e s w (execOp a.eval o) v s':=by
 have hne:m≠.none:=by rintro rfl;cases h
 cases hd:dsc B t<;>rw[hd]at hmm<;>first|exact absurd hmm.symm hne|skip
 rename_i el;obtain⟨hk,hmm⟩:=mC hmm hne;obtain⟨h3,rfl⟩:=Jb hmm.symm hne;obtain⟨h3,h4⟩:=ec h3;obtain⟨h3,h5⟩:=ec h3;obtain⟨h4,h6⟩:=ec h4;obtain⟨l,hz,ga,kD⟩:=aex h6;obtain⟨e',w',r,h7,h8,h9⟩:=aew (ty:=o.type) ht hr hd h3 hk (Nat.le_of_ble_eq_true h5) (Nat.le_of_ble_eq_true h4) hz ga kD (cQ hm x) (cQ hm y) h;refine⟨e',w',.value r,?_,h8,.inl ⟨r,rfl,h9⟩⟩;unfold execOp;rw[ho];simp only[resolve,hc,xN h1,xN h2,List.map_toArray,List.map_cons,List.map_nil,Sem.run_bind,Sem.run_pure,Result.andThen_ok,invoke,builtin,h7]
theorem dZ.len:∀{ps:List (AV×AV)} {l:List (Value×Value)},dZ e q ps l→l.length=ps.length
 |[],_,h=>by cases h;rfl
 |p::ps,_,h=>by
  obtain⟨u,v,r,rfl,_,_,h4⟩:=h;simp[dZ.len h4]
theorem aez{X:AV}{n:Nat}(h:qo .slc X s=some n):(∃b o c,X=.slc b o n c)∨(X=.lit (.slice none 0 0)∧n=0)∨(X=.emp∧n=0):=by
 generalize hk:LK.slc=k at h;unfold qo at h;split at h<;>first|(cases h;done)|(cases hk;done)|skip
 ·cases h;exact .inl ⟨_,_,_,rfl⟩
 ·cases h;exact .inr (.inl ⟨rfl,rfl⟩)
 ·cases h;exact .inr (.inr ⟨rfl,rfl⟩)
theorem aeA{X:AV}{n:Nat}(h:qo .map X s=some n):(X=.lit (.map none)∧n=0)∨∃b k es,X=.map b∧s.get b=some (.map k es)∧n=es.length:=by
 generalize hk:LK.map=k at h;unfold qo at h;split at h<;>first|(cases h;done)|(cases hk;done)|skip
 ·cases h;exact .inl ⟨rfl,rfl⟩
 ·rename_i b;unfold La at h;split at h<;>first|(cases h;done)|skip
  rename_i k2 es hes;rw[gQ]at h;cases h;exact .inr ⟨b,k2,es,rfl,hes,rfl⟩
theorem aeB{X Y:AV}{k:Nat}(h:zn X Y k s=.val v s'):s=s'∧((k=0∧∃d x d' y,X=.int d x∧Y=.int d' y∧v=.int d (if x<y then y else x))∨(k=1∧∃d x d' y,X=.int d x∧Y=.int d' y∧v=.int d (if y<x then y else x))∨(k=2∧∃x y,X=.lit (.float .f64 x)∧Y=.lit (.float .f64 y)∧v=.lit (.complex .f64 x y))):=by
 unfold zn at h;split at h<;>first|(cases h;done)|skip
 all_goals
  injection h with h1 h2
  refine⟨h2,?_⟩
 ·exact .inl ⟨rfl,_,_,_,_,rfl,rfl,h1.symm⟩
 ·exact .inr (.inl ⟨rfl,_,_,_,_,rfl,rfl,h1.symm⟩)
 ·exact .inr (.inr ⟨rfl,_,_,rfl,rfl,h1.symm⟩)
theorem aeC [FX](ht:bS P B)(hr:aZ e s w)(hm:aY e s.next ns tm a){c:Call}(ho:o.op=.call c)(hc:c.callee=.builtin .len){x:Operand}{t:TypeId}(h1:c.args.toList=[x])(h2:c.argTypes.toList=[t]){m:cg}(hmm:zw (mv ns x) (dsc B t)=m)(h:fS m tm s=.val v s'):dU P e s w (execOp a.eval o) v s':=by
 have hne:m≠.none:=by rintro rfl;cases h
 have hx:=cQ hm x;have hfin:∀{n:Nat} {k:LK},m=.len k (mv ns x)→(∀n,qo k (ev (mv ns x) tm) s=some n→(Builtin.len_ #[t] o.type #[a.eval x]).run P w=.ok (.int .i64 (.ofNat n)) w)→dU P e s w (execOp a.eval o) v s':=by
  intro n k hk hrun;subst hk
  replace h:KZ (qo k (ev (mv ns x) tm) s) s=.val v s':=h
  cases hl:qo k (ev (mv ns x) tm) s with
  |none=>rw[hl]at h;cases h
  |some n=>
   rw[hl]at h;injection h with h3 h4
   subst h3 h4;refine dh hr (u:=.int .i64 (.ofNat n)) ?_ rfl;unfold execOp;rw[ho];simp only[resolve,hc,xN h1,xN h2,List.map_toArray,List.map_cons,List.map_nil,Sem.run_bind,Sem.run_pure,Result.andThen_ok,invoke,builtin,hrun n hl]
 cases hd:dsc B t<;>rw[hd]at hmm<;>first|exact absurd hmm.symm hne|skip
 case string=>
  have hu:=ht.dsc hd (by intro hh;cases hh);refine hfin (n:=0) hmm.symm fun n hn=>?_
  generalize ev (mv ns x) tm=X at hx hn;cases X<;>first|(cases hn;done)|skip
  cases hn;obtain⟨_,hx⟩:=hx;simp[Builtin.len_,run_underlying hu,hx,lP,gQ,goInt]
 case slice el=>
  have hu:=ht.dsc hd (by intro hh;cases hh);refine hfin (n:=0) hmm.symm fun n hn=>?_
  generalize ev (mv ns x) tm=X at hx hn;rcases aez hn with⟨b,off,c,rfl⟩|⟨rfl,rfl⟩|⟨rfl,rfl⟩;rotate_left 2
  ·obtain⟨a1,c1,hx⟩:=hx;exact CX
  ·obtain⟨_,hx⟩:=hx;exact CX
  ·have hx:a.eval x=.slice none 0 0:=hx;exact CX
 case map k el=>
  have hu:=ht.dsc hd (by intro hh;cases hh);refine hfin (n:=0) hmm.symm fun n hn=>?_
  generalize ev (mv ns x) tm=X at hx hn;rcases aeA hn with⟨rfl,rfl⟩|⟨b,k2,es,rfl,hg,rfl⟩
  ·have hx:a.eval x=.map none:=hx;exact CX
  ·obtain⟨_,hx⟩:=hx;obtain⟨_,_,r,h3,ents,clock,es',rfl,h5,h6,_⟩:=hr.obj b _ hg;have hlen:ents.size=es.length:=by
    have:=h5.len;rw[List.length_map,Array.length_toList]at this;rw[this,h6.1.length_eq]
   have hobj:(getObj (e.σ b)).run P w=.ok (.map ents clock) w:=by simp[getObj,Sem.run,h3]
   simp[Builtin.len_,run_underlying hu,hx,hobj,goInt,hlen]
theorem aeD [FX](hr:aZ e s w)(hm:aY e s.next ns tm a){c:Call}(ho:o.op=.call c){x y:Operand}(h1:c.args.toList=[x,y]){k:Nat}(hc:(c.callee=.builtin .max∧k=0)∨(c.callee=.builtin .min∧k=1)∨(c.callee=.builtin .complex∧k=2))(h:zn (ev (mv ns x) tm) (ev (mv ns y) tm) k s=.val v s'):dU P e s w (execOp a.eval o) v s':=by
 have hx:=cQ hm x;have hy:=cQ hm y;generalize ev (mv ns x) tm=X at hx h;generalize ev (mv ns y) tm=Y at hy h;have hex:∀z,(Builtin.max_ c.argTypes o.type #[a.eval x,a.eval y]).run P w=.ok z w→c.callee=.builtin .max→(execOp a.eval o).run P w=.ok (.value z) w:=fun z hz hcc=>by
  exact Jc
 have hey:∀z,(Builtin.min_ c.argTypes o.type #[a.eval x,a.eval y]).run P w=.ok z w→c.callee=.builtin .min→(execOp a.eval o).run P w=.ok (.value z) w:=fun z hz hcc=>by
  exact Jc
 have hez:∀z,(Builtin.complex_ c.argTypes o.type #[a.eval x,a.eval y]).run P w=.ok z w→c.callee=.builtin .complex→(execOp a.eval o).run P w=.ok (.value z) w:=fun z hz hcc=>by
  exact Jc
 obtain⟨rfl,hinv⟩:=aeB h;rcases hinv with⟨rfl,d,p,d',r,rfl,rfl,rfl⟩|⟨rfl,d,p,d',r,rfl,rfl,rfl⟩|⟨rfl,p,r,rfl,rfl,rfl⟩
 ·have hcc:c.callee=.builtin .max:=by rcases hc with⟨h,_⟩|⟨_,h⟩|⟨_,h⟩<;>first|exact h|cases h
  have hx:a.eval x=.int d p:=hx;have hy:a.eval y=.int d' r:=hy;refine dh hr (hex (.int d (if p<r then r else p)) ?_ hcc) rfl;rw[hx,hy];simp[Builtin.max_,Builtin.max2]
 ·have hcc:c.callee=.builtin .min:=by rcases hc with⟨_,h⟩|⟨h,_⟩|⟨_,h⟩<;>first|exact h|cases h
  have hx:a.eval x=.int d p:=hx;have hy:a.eval y=.int d' r:=hy;refine dh hr (hey (.int d (if r<p then r else p)) ?_ hcc) rfl;rw[hx,hy];simp[Builtin.min_,Builtin.min2]
 ·have hcc:c.callee=.builtin .complex:=by rcases hc with⟨_,h⟩|⟨_,h⟩|⟨h,_⟩<;>first|exact h|cases h
  have hx:a.eval x=.float .f64 p:=hx;have hy:a.eval y=.float .f64 r:=hy;refine dh hr (hez (.complex .f64 p r) ?_ hcc) rfl;rw[hx,hy];rfl
theorem aeE{X:AV}{z:Option AV}{t:Nat}{ok:Bool}(h:zq X z t ok s=.val v s'):s=s'∧((∃w,X=.ifc t w∧v=mK ok w true)∨(ok=true∧(X=.lit .nilIface∨∃u w,X=.ifc u w∧u≠t)∧∃zz,z=some zz∧v=mK true zz false)):=by
 have hmiss:∀{s s':St},Ew ok z s=.val v s'→s=s'∧ok=true∧∃zz,z=some zz∧v=mK true zz false:=by
  intro s s' h;cases ok with
  |false=>cases h
  |true=>
   cases z with
   |none=>cases h
   |some zz=>injection h with h1 h2;exact⟨h2,rfl,zz,rfl,h1.symm⟩
 unfold zq at h;split at h<;>first|(cases h;done)|skip
 ·rename_i u y;cases hb:Nat.beq u t with
  |true=>
   rw[hb]at h;have:=Nat.eq_of_beq_eq_true hb;subst this;injection h with h1 h2
   exact⟨h2,.inl ⟨y,rfl,h1.symm⟩⟩
  |false=>
   rw[hb]at h;obtain⟨h1,h2,h3⟩:=hmiss h;exact⟨h1,.inr ⟨h2,.inr ⟨u,y,rfl,Nat.ne_of_beq_eq_false hb⟩,h3⟩⟩
 ·obtain⟨h1,h2,h3⟩:=hmiss h;exact⟨h1,.inr ⟨h2,.inl rfl,h3⟩⟩
theorem xO{ok:Bool}{x:AV}{u:Value}{b:Bool}(h:R e q x u):R e q (mK ok x b) (if ok=true then .tuple #[u,.bool b]else u):=by
 cases ok with
 |false=>exact h
 |true=>exact⟨_,rfl,u,_,rfl,h,_,_,rfl,rfl,rfl⟩
theorem Je [FX](ht:bS P B){t:TypeId}{z:AV}(h:zero B t=some z):∃u,(∀w,(zeroValue t).run P w=.ok u w)∧∀{e:En} {q:Nat},R e q z u:=by
 unfold zero at h;cases hi:B.ty.at_ t with
 |none=>rw[hi]at h;cases h
 |some i=>
  rw[hi]at h;obtain⟨ti,h1,_,_,_,_,_,_,h2⟩:=ht.ty t i hi;obtain⟨u,h3,rfl⟩:=h2 z h;exact⟨u,fun w=>by simp[zeroValue,typeInfo,h1,h3],CU u⟩
theorem aeF [FX](ht:bS P B)(hr:aZ e s w)(hm:aY e s.next ns tm a){x:Operand}{xt t:TypeId}{ok:Bool}(ho:o.op=.typeAssert x xt t ok){d:TypeDesc}(hu:P.underlying t=some d)(hd:nB d=false)(h:zq (ev (mv ns x) tm) (zero B t) t ok s=.val v s'):dU P e s w (execOp a.eval o) v s':=by
 have hx:=cQ hm x;generalize ev (mv ns x) tm=X at hx h;obtain⟨rfl,hinv⟩:=aeE h;rcases hinv with⟨y,rfl,rfl⟩|⟨rfl,hX,zz,hz,rfl⟩
 ·obtain⟨u,hx,hR⟩:=hx;refine dh hr ?_ (xO (b:=true) hR);unfold execOp;rw[ho];cases d<;>first|(cases hd;done)|(cases ok<;>simp[Instr.typeAssert,run_underlying hu,hx])
 ·obtain⟨zu,ga,kD⟩:=Je ht hz;refine dh hr ?_ (xO (ok:=true) (b:=false) kD);unfold execOp;rw[ho];rcases hX with rfl|⟨u,y,rfl,hne⟩
  ·have hx:a.eval x=.nilIface:=hx;cases d<;>first|(cases hd;done)|simp[Instr.typeAssert,run_underlying hu,hx,ga]
  ·obtain⟨u',hx,_⟩:=hx;cases d<;>first|(cases hd;done)|simp[Instr.typeAssert,run_underlying hu,hx,ga,hne]
end
section
variable {P:Program} {B:Tb} {e:En} {s s':St} {w:World} {ns:NS} {tm:Tm} {a:Act} {o:Oper} {v:AV} {q:Nat}
theorem xP{d:TypeDesc}{f:KK→cg}{m:cg}(h:tR f (mM B d)=m)(hm:m≠.none):∃k el kk,d=.map k el∧pd (dsc B k)=some kk∧m=f kk:=by
 cases d<;>first|exact absurd h.symm hm|skip
 rename_i k el;cases hk:pd (dsc B k)with
 |none=>rw[show mM B (.map k el)=pd (dsc B k)from rfl,hk]at h;exact absurd h.symm hm
 |some kk=>rw[show mM B (.map k el)=pd (dsc B k)from rfl,hk]at h;exact⟨k,el,kk,rfl,hk,h.symm⟩
theorem TU{a b:KK}(h:Ed a b=true):a=b:=by
 cases a<;>cases b<;>first|rfl|(cases h;done)|skip
 rw[of_decide_eq_true h]
theorem TV [FX]{d:TypeDesc}{kk:KK}(hk:pd d=some kk){x y:AV}{u z:Value}(hx:R e q x u)(hy:R e q y z)(h1:fits kk x=true)(h2:fits kk y=true):Instr.sameNow d u z=some (fM x y):=by
 cases d<;>first|(cases hk;done)|skip
 all_goals
  cases hk;cases x<;>first|(cases h1;done)|skip
  cases y<;>first|(cases h2;done)|skip
 ·rw[show u=_ from hx,show z=_ from hy];rfl
 ·have h1:=of_decide_eq_true h1;have h2:=of_decide_eq_true h2;subst h1 h2;rw[show u=_ from hx,show z=_ from hy];simp[Instr.sameNow,fM]
 ·rw[hx.2,hy.2];simp only[Instr.sameNow,fM];rw[beq_toListBytes,mR,mR,CY hx.1 hy.1]
theorem ve [FX]{kk:KK}{x y:AV}(h1:fits kk x=true)(h2:fits kk y=true):fM x y=true↔x=y:=by
 cases kk
 all_goals
  cases x<;>first|(cases h1;done)|skip
  cases y<;>first|(cases h2;done)|skip
 ·have h1:=of_decide_eq_true h1;have h2:=of_decide_eq_true h2;subst h1 h2;simp[fM]
 ·simp only[fM,AV.str.injEq];exact Jf _ _
 ·simp[fM]
theorem xQ [FX]{kk:KK}{x:AV}(hx:fits kk x=true):∀{es:List (AV×AV)},(∀p∈es,fits kk p.1=true)→(es.map Prod.fst).Nodup→∀y,iF x es=some y↔(x,y)∈es
 |[],_,_,y=>by simp[iF]
 |p::es,hf,hn,y=>by
  rw[show iF x (p::es)=Bool.rec (iF x es) (some p.2) (fM x p.1)from rfl];rw[List.map_cons,List.nodup_cons]at hn;have ih:=xQ hx (fun q hq=>hf q (List.mem_cons_of_mem _ hq)) hn.2 y;cases hb:fM x p.1 with
  |true=>
   have he:=(ve hx (hf p (by simp))).1 hb;subst he;show some p.2=some y↔_;constructor
   ·intro h;cases h;simp
   ·intro h;rcases List.mem_cons.1 h with h|h
    ·rw[←h]
    ·exact absurd (List.mem_map.2 ⟨_,h,rfl⟩) hn.1
  |false=>
   show iF x es=some y↔_;rw[ih,List.mem_cons];constructor
   ·exact .inr
   ·rintro(h|h)
    ·have:fM x p.1=true:=(ve hx (hf p (by simp))).2 (by rw[←h]);rw[hb]at this;cases this
    ·exact h
theorem Mp.find [FX]{kk:KK}{es es':List (AV×AV)}(h:Mp kk es es'){x:AV}(hx:fits kk x=true):iF x es=iF x es':=by
 have hf:∀p∈es,fits kk p.1=true:=fun p hp=>h.2.1 p (h.1.mem_iff.1 hp)
 have hn:(es.map Prod.fst).Nodup:=(h.1.map Prod.fst).nodup_iff.2 h.2.2;cases h1:iF x es with
 |some y=>exact((xQ hx h.2.1 h.2.2 y).2 (h.1.mem_iff.1 ((xQ hx hf hn y).1 h1))).symm
 |none=>
  cases h2:iF x es' with
  |none=>rfl
  |some y=>
   have:=(xQ hx hf hn y).2 (h.1.mem_iff.2 ((xQ hx h.2.1 h.2.2 y).1 h2));rw[h1]at this;cases this
theorem TW [FX]{d:TypeDesc}{kk:KK}(hk:pd d=some kk){x:AV}{u:Value}(hx:R e q x u)(h1:fits kk x=true):∀(es:List (AV×AV)) (ents:List MapEntry) (i:Nat),dZ e q es (ents.map fun x=>(x.key,x.val))→(∀p∈es,fits kk p.1=true)→
 (iF x es=none∧Instr.findNow d u ents i=some none)∨∃y z j,iF x es=some y∧Instr.findNow d u ents i=some (some (i+j,z))∧R e q y z
 |[],ents,i,h,_=>by
  cases ents with
  |nil=>exact .inl ⟨rfl,rfl⟩
  |cons y l=>cases h
 |p::es,ents,i,h,hf=>by
  cases ents with
  |nil=>obtain⟨_,_,_,h2,_⟩:=h;cases h2
  |cons y l=>
   obtain⟨k1,v1,r,h2,h3,h4,h5⟩:=h;simp only[List.map_cons,List.cons.injEq,Prod.mk.injEq]at h2;obtain⟨⟨rfl,rfl⟩,rfl⟩:=h2;have hs:=TV hk hx h3 h1 (hf p (List.mem_cons_self ..));rw[show iF x (p::es)=Bool.rec (iF x es) (some p.2) (fM x p.1)from rfl,Instr.findNow,hs];cases hb:fM x p.1 with
   |true=>exact .inr ⟨p.2,y.val,0,rfl,rfl,h4⟩
   |false=>
    rcases TW hk hx h1 es l (i+1) h5 (fun p' hp=>hf p' (List.mem_cons_of_mem _ hp))with h6|⟨y',z,j,h6,h7,h8⟩
    ·exact .inl h6
    ·exact .inr ⟨y',z,j+1,h6,by rw[show i+(j+1)=i+1+j by omega];exact h7,h8⟩
theorem xR{t:TypeId}{d:TypeDesc}{kk:KK}(hk:pd d=some kk)(hu:P.underlying t=some d)(em:Bool)(n:Nat)(u:Value):(Instr.checkKey em (n+1) t u).run P w=.ok () w:=by
 cases d<;>first|(cases hk;done)|simp[Instr.checkKey,run_underlying hu]
theorem aeG [FX]{X I:AV}{k:KK}{r:Option AV}(h:vO X k I s=some r):(X=.lit (.map none)∧fits k I=true∧r=none)∨∃b es,X=.map b∧s.get b=some (.map k es)∧fits k I=true∧r=iF I es:=by
 cases X<;>first|(cases h;done)|skip
 ·rename_i u;cases u<;>first|(cases h;done)|skip
  rename_i r';cases r' with
  |some _=>cases h
  |none=>
   obtain⟨h1,h2⟩:=lI (x:=some none) h;injection h2 with h2
   exact .inl ⟨rfl,h1,h2.symm⟩
 ·rename_i b
  replace h:Lm (s.get b) k I=some r:=h
  cases hg:s.get b with
  |none=>rw[hg]at h;cases h
  |some ob=>
   rw[hg]at h;cases ob<;>first|(cases h;done)|skip
   rename_i kk es;have hh:=lI (x:=some (iF I es)) h;obtain⟨h1,h2⟩:=hh;obtain⟨h1,h3⟩:=ec h1;have h1:=TU h1;subst h1;injection h2 with h2
   exact .inr ⟨b,es,rfl,hg,h3,h2.symm⟩
theorem aeH [FX]{X I:AV}{k:KK}{z:Option AV}{ok:Bool}(h:Er (vO X k I s) z ok s=.val v s'):s=s'∧fits k I=true∧((X=.lit (.map none)∧∃u,z=some u∧v=mK ok u false)∨∃b es,X=.map b∧s.get b=some (.map k es)∧((∃y,iF I es=some y∧v=mK ok y true)∨(iF I es=none∧∃u,z=some u∧v=mK ok u false))):=by
 have hmiss:∀{s s':St},Ep z ok s=.val v s'→s=s'∧∃u,z=some u∧v=mK ok u false:=by
  intro s s' h;cases z with
  |none=>cases h
  |some u=>injection h with h1 h2;exact⟨h2,u,rfl,h1.symm⟩
 cases hf:vO X k I s with
 |none=>rw[hf]at h;cases h
 |some r=>
  rw[hf]at h;rcases aeG hf with⟨h1,h2,rfl⟩|⟨b,es,h1,h2,h3,rfl⟩
  ·obtain⟨h4,h5⟩:=hmiss h;exact⟨h4,h2,.inl ⟨h1,h5⟩⟩
  ·cases hm:iF I es with
   |none=>
    rw[hm]at h;obtain⟨h4,h5⟩:=hmiss h;exact⟨h4,h3,.inr ⟨b,es,h1,h2,.inr ⟨hm,h5⟩⟩⟩
   |some y=>
    rw[hm]at h;injection h with h4 h5
    exact⟨h5,h3,.inr ⟨b,es,h1,h2,.inl ⟨y,hm,h4.symm⟩⟩⟩
theorem aeI [FX](ht:bS P B)(hr:aZ e s w)(hm:aY e s.next ns tm a){t:TypeId}{x i:Operand}{ok:Bool}(ho:o.op=.lookup t x i ok){m:cg}(hmm:tR (fun k=>.lookup k (zero B (mL (dsc B t))) ok (mv ns x) (mv ns i)) (mM B (dsc B t))=m)(h:fS m tm s=.val v s'):dU P e s w (execOp a.eval o) v s':=by
 have hne:m≠.none:=by rintro rfl;cases h
 obtain⟨k,el,kk,hd,hk,rfl⟩:=xP hmm hne;have hu:=ht.dsc hd (by intro hh;cases hh);have huk:P.underlying k=some (dsc B k):=ht.dsc rfl (by intro hh;rw[hh]at hk;cases hk);have hel:mL (dsc B t)=el:=by rw[hd];rfl
 obtain⟨rfl,h1,h2⟩:=aeH (show Er (vO (ev (mv ns x) tm) kk (ev (mv ns i) tm) s) (zero B (mL (dsc B t))) ok s=.val v s' from h);have hx:=cQ hm x;have hi:=cQ hm i;rw[hel]at h2;rcases h2 with⟨hX,zz,hz,rfl⟩|⟨b,es,hX,hg,h3⟩
 ·rw[hX]at hx;have hx:a.eval x=.map none:=hx;obtain⟨zu,ga,kD⟩:=Je ht hz;refine dh hr ?_ (xO (b:=false) kD);unfold execOp;rw[ho];cases ok<;>simp[Instr.lookup,run_underlying hu,hx,xR hk huk _ 9999,Instr.findKey,run_underlying huk,Instr.findNow,ga]
 ·rw[hX]at hx;obtain⟨_,hx⟩:=hx;obtain⟨_,_,r,h5,ents,clock,es',rfl,h6,hmp,_⟩:=hr.obj b _ hg;have h7:=hmp.2.1;rw[hmp.find h1]at h3;have hobj:(getObj (e.σ b)).run P w=.ok (.map ents clock) w:=by simp[getObj,Sem.run,h5]
  rcases TW hk hi h1 es' ents.toList 0 h6 h7 with⟨h8,h9⟩|⟨y,z,j,h8,h9,h10⟩
  ·rcases h3 with⟨y,h11,_⟩|⟨_,zz,hz,rfl⟩
   ·rw[h8]at h11;cases h11
   obtain⟨zu,ga,kD⟩:=Je ht hz;refine dh hr ?_ (xO (b:=false) kD);unfold execOp;rw[ho];cases ok<;>simp[Instr.lookup,run_underlying hu,hx,hobj,xR hk huk _ 9999,Instr.findKey,run_underlying huk,h9,ga]
  ·rcases h3 with⟨y',h11,rfl⟩|⟨h11,_⟩
   ·rw[h8]at h11;cases h11;refine dh hr ?_ (xO (b:=true) h10);unfold execOp;rw[ho];cases ok<;>simp[Instr.lookup,run_underlying hu,hx,hobj,xR hk huk _ 9999,Instr.findKey,run_underlying huk,h9]
   ·rw[h8]at h11;cases h11
theorem aeJ [FX](hr:aZ e s w){t:TypeId}{r:Option Operand}(ho:o.op=.makeMap t r){k:Option KK}{m:cg}(hmm:EI r k=m)(h:fS m tm s=.val v s'):dU P e s w (execOp a.eval o) v s':=by
 have hne:m≠.none:=by rintro rfl;cases h
 cases r with
 |some r=>cases k<;>exact absurd hmm.symm hne
 |none=>
  cases k with
  |none=>exact absurd hmm.symm hne
  |some k=>
   subst hmm;injection (show Nx.val (.map s.next) (s.add (.map k []))=.val v s' from h)with h1 h2
   subst h1 h2;refine⟨e.up s.next w.heap.size 0,w.alloc (.map #[] 0),.value (.map (some w.heap.size)),?_,aW.new hr _ _ _ ⟨#[],0,[],rfl,rfl,⟨List.Perm.refl _,fun p hp=>((by cases hp)),List.Pairwise.nil⟩,fun p hp=>((by cases hp)),List.Pairwise.nil⟩,.inl ⟨_,rfl,⟨Nat.lt_succ_self _,by simp[En.up]⟩,by simp[En.up]⟩⟩;unfold execOp;rw[ho];simp[Instr.makeMap]
end
section
variable {P:Program} {B:Tb} {e:En} {s s':St} {w:World} {ns:NS} {tm:Tm} {a:Act} {o:Oper} {v:AV} {q:Nat}
theorem aeK [FX]{kk:KK}{x y:AV}{u z:Value}(hx:R e q x u)(hy:R e q y z)(h1:fits kk x=true)(h2:fits kk y=true)(h:fM x y=true):Instr.sameBits 10000 z u=true:=by
 cases kk
 all_goals
  cases x<;>first|(cases h1;done)|skip
  cases y<;>first|(cases h2;done)|skip
 ·have h1:=of_decide_eq_true h1;have h2:=of_decide_eq_true h2;subst h1 h2;exact TX
 ·rw[hx.2,hy.2];have:=(Jf _ _).1 h;subst this;show(bw _==bw _)=true;rw[beq_toListBytes];exact BEq.rfl
 ·exact TX
theorem dZ.push{x y:AV}{u z:Value}(hx:R e q x u)(hy:R e q y z):∀{es:List (AV×AV)} {l:List (Value×Value)},dZ e q es l→dZ e q (es++[(x,y)]) (l++[(u,z)])
 |[],_,h=>by cases h;exact⟨u,z,[],rfl,hx,hy,rfl⟩
 |p::es,_,h=>by
  obtain⟨k1,v1,r,rfl,h3,h4,h5⟩:=h;exact⟨k1,v1,_,rfl,h3,h4,dZ.push hx hy h5⟩
theorem TY [FX]{d:TypeDesc}{kk:KK}(hk:pd d=some kk){x y:AV}{u z:Value}(hx:R e q x u)(hy:R e q y z)(h1:fits kk x=true):∀(es:List (AV×AV)) (ents:List MapEntry) (i:Nat),dZ e q es (ents.map fun x=>(x.key,x.val))→(∀p∈es,fits kk p.1=true)→
 (Instr.findNow d u ents i=some none∧gK x y es=es++[(x,y)])∨∃j ent t,ents[j]? =some ent∧Instr.findNow d u ents i=some (some (i+j,t))∧Instr.sameBits 10000 ent.key u=true∧dZ e q (gK x y es) ((ents.set j {ent with key:=u,val:=z}).map fun x=>(x.key,x.val))∧∀p∈gK x y es,fits kk p.1=true
 |[],ents,i,h,_=>by
  cases ents with
  |nil=>exact .inl ⟨rfl,rfl⟩
  |cons y l=>cases h
 |p::es,ents,i,h,hf=>by
  cases ents with
  |nil=>obtain⟨_,_,_,h2,_⟩:=h;cases h2
  |cons ent l=>
   obtain⟨k1,v1,r,h2,h3,h4,h5⟩:=h;simp only[List.map_cons,List.cons.injEq,Prod.mk.injEq]at h2;obtain⟨⟨rfl,rfl⟩,rfl⟩:=h2;have hfp:=hf p (List.mem_cons_self ..);have hs:=TV hk hx h3 h1 hfp;rw[show gK x y (p::es)=Bool.rec (p::gK x y es) ((x,y)::es) (fM x p.1)from rfl,Instr.findNow,hs];cases hb:fM x p.1 with
   |true=>
    refine .inr ⟨0,ent,_,rfl,rfl,aeK hx h3 h1 hfp hb,⟨_,_,_,rfl,hx,hy,h5⟩,fun p' hp=>?_⟩;rcases List.mem_cons.1 hp with rfl|hp
    ·exact h1
    ·exact hf p' (List.mem_cons_of_mem _ hp)
   |false=>
    rcases TY hk hx hy h1 es l (i+1) h5 (fun p' hp=>hf p' (List.mem_cons_of_mem _ hp))with⟨h6,h7⟩|⟨j,ent',t,h6,h7,h8,h9,h10⟩
    ·exact .inl ⟨h6,by show p::gK x y es=_;rw[h7];rfl⟩
    ·refine .inr ⟨j+1,ent',t,h6,by rw[show i+(j+1)=i+1+j by omega];exact h7,h8,⟨_,_,_,rfl,h3,h4,h9⟩,fun p' hp=>?_⟩;rcases List.mem_cons.1 hp with rfl|hp
     ·exact hfp
     ·exact h10 p' hp
theorem Ai [FX]{kk:KK}{x y:AV}(hx:fits kk x=true):∀{es:List (AV×AV)},(∀p∈es,fits kk p.1=true)→(es.map Prod.fst).Nodup→(x∈es.map Prod.fst→gK x y es=es.map fun p=>if fM x p.1=true then(x,y)else p)∧(x∉es.map Prod.fst→gK x y es=es++[(x,y)])
 |[],_,_=>⟨fun h=>by simp at h,fun _=>rfl⟩
 |p::es,hf,hn=>by
  rw[List.map_cons,List.nodup_cons]at hn;obtain⟨ih1,ih2⟩:=Ai (y:=y) hx (es:=es) (fun q hq=>hf q (List.mem_cons_of_mem _ hq)) hn.2;rw[show gK x y (p::es)=Bool.rec (p::gK x y es) ((x,y)::es) (fM x p.1)from rfl];cases hb:fM x p.1 with
  |true=>
   have he:=(ve hx (hf p (by simp))).1 hb;refine⟨fun _=>?_,fun h=>absurd (by simp[he]) h⟩;rw[List.map_cons,if_pos hb];show(x,y)::es=_;congr 1;symm;rw[←List.map_id es];simp only[List.map_map];refine List.map_congr_left fun q hq=>?_
   show(if fM x q.1=true then(x,y)else q)=q;rw[if_neg];intro jd;have:=(ve hx (hf q (List.mem_cons_of_mem _ hq))).1 jd;exact hn.1 (by rw[←he,this];exact List.mem_map.2 ⟨q,hq,rfl⟩)
  |false=>
   have hne:¬x=p.1:=fun h=>by rw[(ve hx (hf p (by simp))).2 h]at hb;cases hb
   refine⟨fun h=>?_,fun h=>?_⟩
   ·rw[List.map_cons,List.mem_cons]at h;rw[List.map_cons,if_neg (by rw[hb];(intro hh;cases hh))];show p::gK x y es=_;rw[ih1 (h.resolve_left hne)]
   ·rw[List.map_cons,List.mem_cons,not_or]at h;show p::gK x y es=_;rw[ih2 h.2];rfl
theorem Mp.put [FX]{kk:KK}{es es':List (AV×AV)}(h:Mp kk es es'){x y:AV}(hx:fits kk x=true):Mp kk (gK x y es) (gK x y es'):=by
 have hf:∀p∈es,fits kk p.1=true:=fun p hp=>h.2.1 p (h.1.mem_iff.1 hp)
 have hn:(es.map Prod.fst).Nodup:=(h.1.map Prod.fst).nodup_iff.2 h.2.2;obtain⟨p1,p2⟩:=Ai (y:=y) hx hf hn;obtain⟨q1,q2⟩:=Ai (y:=y) hx h.2.1 h.2.2;have hm:x∈es.map Prod.fst↔x∈es'.map Prod.fst:=(h.1.map Prod.fst).mem_iff;rcases Classical.em (x∈es'.map Prod.fst)with hin|hin
 ·rw[p1 (hm.2 hin),q1 hin];have hkeys:(es'.map fun p=>if fM x p.1=true then(x,y)else p).map Prod.fst=es'.map Prod.fst:=by
   rw[List.map_map];refine List.map_congr_left fun p hp=>?_
   show(if fM x p.1=true then(x,y)else p).1=p.1;by_cases hb:fM x p.1=true
   ·rw[if_pos hb];exact(ve hx (h.2.1 p hp)).1 hb
   ·rw[if_neg hb]
  refine⟨h.1.map _,fun p hp=>?_,by rw[hkeys];exact h.2.2⟩;obtain⟨p0,VY,rfl⟩:=List.mem_map.1 hp;by_cases hb:fM x p0.1=true
  ·rw[if_pos hb];exact hx
  ·rw[if_neg hb];exact h.2.1 p0 VY
 ·rw[p2 (fun hh=>hin (hm.1 hh)),q2 hin];refine⟨h.1.append_right _,fun p hp=>?_,?_⟩
  ·rcases List.mem_append.1 hp with hp|hp
   ·exact h.2.1 p hp
   ·rw[List.mem_singleton.1 hp];exact hx
  ·rw[List.map_append,List.nodup_append];refine⟨h.2.2,by simp,fun a ha b hb=>?_⟩;rw[List.map_singleton,List.mem_singleton]at hb;subst hb;rintro rfl;exact hin ha
theorem aeL [FX]{X K Y:AV}{c:KK}(h:Es X c K Y s=.val v s'):∃b es,X=.map b∧s.get b=some (.map c es)∧fits c K=true∧v=und∧s'=s.put b (.map c (gK K Y es)):=by
 cases X<;>first|(cases h;done)|skip
 rename_i b
 replace h:Ln (s.get b) c K Y b s=.val v s':=h
 cases hg:s.get b with
 |none=>rw[hg]at h;cases h
 |some ob=>
  rw[hg]at h;cases ob<;>first|(cases h;done)|skip
  rename_i kk es;have hh:=ra (x:=.val und (s.put b (.map kk (gK K Y es)))) h;obtain⟨h1,h2⟩:=hh;obtain⟨h1,h3⟩:=ec h1;have h1:=TU h1;subst h1;injection h2 with h2 h4
  exact⟨b,es,rfl,hg,h3,h2.symm,h4.symm⟩
theorem TZ [FX](ht:bS P B)(hr:aZ e s w)(hm:aY e s.next ns tm a){t:TypeId}{x k y:Operand}(ho:o.op=.mapUpdate t x k y∨o.op=.insert t x k y){m:cg}(hmm:tR (fun c=>.update c (mv ns x) (mv ns k) (mv ns y)) (mM B (dsc B t))=m)(h:fS m tm s=.val v s'):dU P e s w (execOp a.eval o) v s':=by
 have hne:m≠.none:=by rintro rfl;cases h
 obtain⟨kt,el,kk,hd,hk,rfl⟩:=xP hmm hne;have hu:=ht.dsc hd (by intro hh;cases hh);have huk:P.underlying kt=some (dsc B kt):=ht.dsc rfl (by intro hh;rw[hh]at hk;cases hk);obtain⟨b,es,hX,hg,h1,rfl,rfl⟩:=aeL (show Es (ev (mv ns x) tm) kk (ev (mv ns k) tm) (ev (mv ns y) tm) s=.val v s' from h);have hx:=cQ hm x;have hi:=cQ hm k;have hy:=cQ hm y;rw[hX]at hx;obtain⟨_,hx⟩:=hx;obtain⟨_,hσ,r,h5,ents,clock,es',rfl,h6,hmp,hbo⟩:=hr.obj b _ hg;have h7:=hmp.2.1;have hmq:=hmp.put (y:=ev (mv ns y) tm) h1;have hobj:(getObj (e.σ b)).run P w=.ok (.map ents clock) w:=by simp[getObj,Sem.run,h5]
 have hset:∀ob:Obj,(setObj (e.σ b) ob).run P w=.ok () {w with heap:=w.heap.setIfInBounds (e.σ b) ob}:=fun ob=>by simp[setObj,Sem.run,h5]
 have hex:∀w',(Instr.mapUpdate t (a.eval x) (a.eval k) (a.eval y)).run P w=.ok () w'→(execOp a.eval o).run P w=.ok .skip w':=fun w' hw=>by
  unfold execOp;rcases ho with ho|ho<;>rw[ho]<;>simp only[Sem.run_bind,hw]<;>rfl
 rcases TY hk hi hy h1 es' ents.toList 0 h6 h7 with⟨h8,h9⟩|⟨j,ent,t',h8,h9,h10,h11,h12⟩
 ·refine⟨e,{w with heap:=w.heap.setIfInBounds (e.σ b) (.map (ents.push {key:=a.eval k,val:=a.eval y,born:=clock}) (clock+1))},.skip,hex _ ?_,aW.put hr hg _ _ ⟨_,_,gK (ev (mv ns k) tm) (ev (mv ns y) tm) es',rfl,?_,hmq,by rw[Array.toList_push];exact hbo.push rfl⟩ rfl rfl rfl rfl,.inr ⟨rfl,rfl⟩⟩
  ·simp[Instr.mapUpdate,run_underlying hu,hx,hobj,xR hk huk _ 9999,Instr.findKey,run_underlying huk,h8,hset]
  ·rw[h9];simpa using dZ.push hi hy h6
 ·rw[Nat.zero_add]at h9;have hej:ents[j]? =some ent:=by rw[←Array.getElem?_toList];exact h8
  have hmod:(ents.modify j fun e=>{e with key:=a.eval k,val:=a.eval y}).toList=ents.toList.set j {ent with key:=a.eval k,val:=a.eval y}:=by
   rw[Array.toList_modify];apply List.ext_getElem?;intro i;rw[List.getElem?_modify,List.getElem?_set];by_cases hij:j=i
   ·subst hij;have hlt:=(List.getElem?_eq_some_iff.1 h8).1;rw[if_pos rfl,h8,if_pos hlt];simp
   ·rw[if_neg hij];simp[hij]
  refine⟨e,{w with heap:=w.heap.setIfInBounds (e.σ b) (.map (ents.modify j fun e=>{e with key:=a.eval k,val:=a.eval y}) clock)},.skip,hex _ ?_,aW.put hr hg _ _ ⟨_,_,gK (ev (mv ns k) tm) (ev (mv ns y) tm) es',rfl,?_,hmq,by rw[hmod];exact hbo.set h8 rfl⟩ rfl rfl rfl rfl,.inr ⟨rfl,rfl⟩⟩
  ·simp[Instr.mapUpdate,run_underlying hu,hx,hobj,xR hk huk _ 9999,Instr.findKey,run_underlying huk,h9,hset,hej,Instr.keyThatStays,h10]
  ·rw[hmod];exact h11
end
end Go.Proofs.YtlpombjidhloiaaGreat.Eng
