/- The runner's rows and tries. What a value of the runner says of a value of the program. Condition: what each theorem says. -/
import Derived.Test.YtlpombjidhloiaaGreatSd
import Derived.Test.YtlpombjidhloiaaGreatBbb
import Derived.Below
import Derived.Deep.MidRow
import Derived.Tactics
import Derived.Laws.Strings
namespace Go.Proofs.YtlpombjidhloiaaGreat.Eng
theorem Tr:∀(n m k:Nat),k<n→k<m→tH n k=tH m k
 |0,_,_,h,_=>absurd h (by omega)
 |_,0,_,_,h=>absurd h (by omega)
 |n+1,m+1,0,_,_=>rfl
 |n+1,m+1,k+1,h,h'=>by
  show Nat.beq (Nat.mod k 2) 0::tH n (Nat.div k 2)=Nat.beq (Nat.mod k 2) 0::tH m (Nat.div k 2);have:Nat.div k 2≤k:=Nat.div_le_self k 2;rw[Tr n m (Nat.div k 2) (by omega) (by omega)]
theorem xJ(k:Nat):iC (k+1)=Nat.beq (k% 2) 0::iC (k/2):=by
 show Nat.beq (k% 2) 0::tH (k+1) (k/2)=_;have:k/2≤k:=Nat.div_le_self k 2;rw[Tr (k+1) (k/2+1) (k/2) (by omega) (by omega)];rfl
theorem xK:∀{k j:Nat},iC k=iC j→k=j
 |0,0,_=>rfl
 |0,j+1,h=>by rw[xJ]at h;cases h
 |k+1,0,h=>by rw[xJ]at h;cases h
 |k+1,j+1,h=>by
  rw[xJ,xJ]at h;injection h with h1 h2
  have h3:=xK h2;have h4:(k% 2=0)↔(j% 2=0):=by
   rw[←Nat.beq_eq,←Nat.beq_eq,h1]
  omega
namespace T
variable {α:Type}
theorem get_leaf(p:List Bool):(T.leaf:T α).get p=none:=rfl
theorem get_cons(v:Option α)(l r:T α)(b:Bool)(p:List Bool):(T.node v l r).get (b::p)=if b then l.get p else r.get p:=by cases b<;>rfl
theorem nodeP_get(v:Option α):∀p q:List Bool,(nodeP p v).get q=if p=q then v else none
 |[],[]=>rfl
 |[],b::q=>by
  show(T.node v .leaf .leaf).get (b::q)=_;rw[get_cons];cases b<;>rfl
 |true::p,[]=>rfl
 |false::p,[]=>rfl
 |true::p,b::q=>by
  show(T.node none (nodeP p v) .leaf).get (b::q)=_;rw[get_cons];cases b
  ·simp[get_leaf]
  ·simp[nodeP_get v p q]
 |false::p,b::q=>by
  show(T.node none .leaf (nodeP p v)).get (b::q)=_;rw[get_cons];cases b
  ·simp[nodeP_get v p q]
  ·simp[get_leaf]
theorem get_setP(t:T α):∀(p:List Bool) (v:Option α) (q:List Bool),(t.setP p v).get q=if p=q then v else t.get q:=by
 induction t with
 |leaf=>intro p v q;exact nodeP_get v p q
 |node u l r il ir=>
  intro p v q;cases p with
  |nil=>
   show(T.node v l r).get q=_;cases q with
   |nil=>rfl
   |cons b q=>rw[get_cons,get_cons];simp
  |cons b p=>
   cases b
   ·show(T.node u l (r.setP p v)).get q=_;cases q with
    |nil=>rfl
    |cons b q=>rw[get_cons,get_cons,ir];cases b<;>simp
   ·show(T.node u (l.setP p v) r).get q=_;cases q with
    |nil=>rfl
    |cons b q=>rw[get_cons,get_cons,il];cases b<;>simp
theorem at_set(t:T α)(k:Nat)(v:α)(j:Nat):(t.set k v).at_ j=if k=j then some v else t.at_ j:=by
 unfold set at_;exact Ts
theorem at_del(t:T α)(k j:Nat):(t.del k).at_ j=if k=j then none else t.at_ j:=by
 unfold del at_;exact Ts
theorem at_leaf(j:Nat):(T.leaf:T α).at_ j=none:=rfl
end T
variable {α:Type}
theorem oC{β:Type}(f:α→β)(l:List α):bZ f l=l.map f:=by
 induction l with
 |nil=>rfl
 |cons a l ih=>show f a::bZ f l=_;rw[ih];rfl
theorem qY(l m:List α):iD l m=l++m:=by
 induction l with
 |nil=>rfl
 |cons a l ih=>show a::iD l m=_;rw[ih];rfl
theorem gQ(l:List α):cK l=l.length:=by
 induction l with
 |nil=>rfl
 |cons a l ih=>show cK l+1=_;rw[ih];rfl
theorem qZ:∀(l:List α) (n:Nat),jH l n=l[n]?
 |[],_=>rfl
 |_::_,0=>rfl
 |_::l,n+1=>qZ l n
theorem xL:∀(l:List α) (n:Nat),rM l n=l.drop n
 |[],n=>by show []=_;simp
 |a::l,0=>rfl
 |a::l,n+1=>xL l n
theorem CT:∀{l:List α} {n:Nat} {r:List α},oO l n=some r→r=l.take n∧n≤l.length
 |[],0,r,h=>by cases h;exact⟨rfl,Nat.le_refl _⟩
 |[],n+1,r,h=>(by cases(show(none:Option (List α))=some r from h))
 |a::l,0,r,h=>by cases h;exact⟨rfl,Nat.zero_le _⟩
 |a::l,n+1,r,h=>by
  change Option.rec none (fun r=>some (a::r)) (oO l n)=some r at h;cases e:oO l n with
  |none=>rw[e]at h;cases h
  |some q=>
   rw[e]at h;cases h;obtain⟨h1,h2⟩:=CT e;exact⟨by rw[h1];rfl,by simpa using h2⟩
theorem IP:∀(l:List α) (i:Nat) (t:T α) (k:Nat),(T.ofL l i t).at_ k=if i≤k∧k<i+l.length then l[k-i]? else t.at_ k
 |[],i,t,k=>by show t.at_ k=_;rw[if_neg (by rintro⟨h1,h2⟩;rw[List.length_nil]at h2;omega)]
 |a::l,i,t,k=>by
  show(T.ofL l (i+1) (t.set i a)).at_ k=_;rw[IP l (i+1) (t.set i a) k,T.at_set];by_cases h1:i+1≤k∧k<i+1+l.length
  ·rw[if_pos h1,if_pos (by simp;omega),show k-i=(k-(i+1))+1 by omega];rfl
  ·rw[if_neg h1];by_cases h2:i=k
   ·subst h2;rw[if_pos rfl,if_pos (by simp),Nat.sub_self];rfl
   ·exact IQ
structure En where
 σ:Nat→Nat
 κ:Nat→Nat
 lv:Nat→Bool
 fx:Nat→Option Obj
def Cp.cap(c:Cp)(room:Nat):Nat:=match c with
 |.ex c=>c
 |.gap g=>room-g
def Cp.fits(c:Cp)(n room:Nat):Prop:=match c with
 |.ex _=>True
 |.gap g=>n+g≤room
mutual
def R(e:En)(k:Nat):AV→Value→Prop
 |.bot,_=>True
 |.int kd n,v=>v=.int kd n
 |.bool b,v=>v=.bool b
 |.str l,v=>(∀b∈l,b<256)∧v=.string (bw l)
 |.lit u,v=>v=u
 |.ptr b o,v=>(b<k∧e.lv b=true)∧v=.pointer (some ⟨e.σ b,o,none⟩)
 |.slc b o n c,v=>((b<k∧e.lv b=true)∧c.fits n (e.κ b))∧v=.slice (some ⟨e.σ b,o,none⟩) n (c.cap (e.κ b))
 |.map b,v=>(b<k∧e.lv b=true)∧v=.map (some (e.σ b))
 |.agg l,v=>∃cs,v=.agg cs∧RL e k l cs.toList
 |.tup l,v=>∃cs,v=.tuple cs∧RL e k l cs.toList
 |.ifc t a,v=>∃u,v=.iface t u∧R e k a u
 |.fn f a c,v=>∃x y,v=.func (.func f) x y∧RL e k a x.toList∧RL e k c y.toList
 |.cls kd m r,v=>∃n:Nat,v=.int kd n∧n<256∧n% m=r
 |.emp,v=>∃(a:Addr) (c:Nat),v=.slice (some a) 0 c
def RL(e:En)(k:Nat):List AV→List Value→Prop
 |[],l=>l=[]
 |a::as,l=>∃v vs,l=v::vs∧R e k a v∧RL e k as vs
end
def cW(k:Nat)(e e':En):Prop:=∀b,b<k→e'.σ b=e.σ b∧e'.κ b=e.κ b∧e'.lv b=e.lv b
theorem cW.refl(k:Nat)(e:En):cW k e e:=fun _ _=>⟨rfl,rfl,rfl⟩
theorem cW.trans{k k':Nat}{e e' e'':En}(h:cW k e e')(h':cW k' e' e'')(hk:k≤k'):cW k e e'':=fun b hb=>by
 have h1:=h b hb;have h2:=h' b (Nat.lt_of_lt_of_le hb hk);exact⟨h2.1.trans h1.1,h2.2.1.trans h1.2.1,h2.2.2.trans h1.2.2⟩
mutual
theorem R.ext{e e':En}{k k':Nat}(hx:cW k e e')(hk:k≤k'):∀{a:AV} {v:Value},R e k a v→R e' k' a v
 |.bot,_,_=>trivial
 |.int _ _,_,h=>h
 |.bool _,_,h=>h
 |.str _,_,h=>h
 |.lit _,_,h=>h
 |.ptr b o,_,h=>⟨⟨Nat.lt_of_lt_of_le h.1.1 hk,by rw[(hx b h.1.1).2.2];exact h.1.2⟩,by rw[(hx b h.1.1).1];exact h.2⟩
 |.slc b o n c,_,h=>⟨⟨⟨Nat.lt_of_lt_of_le h.1.1.1 hk,by rw[(hx b h.1.1.1).2.2];exact h.1.1.2⟩,by rw[(hx b h.1.1.1).2.1];exact h.1.2⟩,by rw[(hx b h.1.1.1).1,(hx b h.1.1.1).2.1];exact h.2⟩
 |.map b,_,h=>⟨⟨Nat.lt_of_lt_of_le h.1.1 hk,by rw[(hx b h.1.1).2.2];exact h.1.2⟩,by rw[(hx b h.1.1).1];exact h.2⟩
 |.agg l,_,h=>by
  obtain⟨cs,h1,h2⟩:=h;exact⟨cs,h1,RL.ext hx hk h2⟩
 |.tup l,_,h=>by
  obtain⟨cs,h1,h2⟩:=h;exact⟨cs,h1,RL.ext hx hk h2⟩
 |.ifc t a,_,h=>by
  obtain⟨u,h1,h2⟩:=h;exact⟨u,h1,R.ext hx hk h2⟩
 |.fn f a c,_,h=>by
  obtain⟨x,y,h1,h2,h3⟩:=h;exact⟨x,y,h1,RL.ext hx hk h2,RL.ext hx hk h3⟩
 |.cls _ _ _,_,h=>h
 |.emp,_,h=>h
theorem RL.ext{e e':En}{k k':Nat}(hx:cW k e e')(hk:k≤k'):∀{as:List AV} {vs:List Value},RL e k as vs→RL e' k' as vs
 |[],_,h=>h
 |a::as,_,h=>by
  obtain⟨v,vs,h1,h2,h3⟩:=h;exact⟨v,vs,h1,R.ext hx hk h2,RL.ext hx hk h3⟩
end
section
variable {e:En} {k:Nat}
theorem RL.len:∀{as:List AV} {vs:List Value},RL e k as vs→vs.length=as.length
 |[],_,h=>by rw[show _=[]from h];rfl
 |a::as,_,h=>by
  obtain⟨v,vs,rfl,_,h3⟩:=h;simp[RL.len h3]
theorem RL.at:∀{as:List AV} {vs:List Value},RL e k as vs→∀{i:Nat} {a:AV},as[i]? =some a→∃v,vs[i]? =some v∧R e k a v
 |[],_,_,_,_,h=>by simp at h
 |a::as,_,h,0,_,hi=>by
  obtain⟨v,vs,rfl,h2,_⟩:=h;cases hi;exact⟨v,rfl,h2⟩
 |a::as,_,h,i+1,_,hi=>by
  obtain⟨v,vs,rfl,_,h3⟩:=h;exact RL.at h3 (by simpa using hi)
theorem RL.mk:∀{as:List AV} {vs:List Value},as.length=vs.length→(∀(i:Nat) (a:AV) (v:Value),as[i]? =some a→vs[i]? =some v→R e k a v)→RL e k as vs
 |[],[],_,_=>rfl
 |[],v::vs,h,_=>(by cases h)
 |a::as,[],h,_=>(by cases h)
 |a::as,v::vs,h,hr=>⟨v,vs,rfl,hr 0 a v rfl rfl,RL.mk (by simpa using h) fun i a v h1 h2=>hr (i+1) a v (by simpa using h1) (by simpa using h2)⟩
theorem RL.app:∀{as bs:List AV} {vs us:List Value},RL e k as vs→RL e k bs us→RL e k (as++bs) (vs++us)
 |[],_,_,_,h,h'=>by rw[show _=[]from h];exact h'
 |a::as,_,_,_,h,h'=>by
  obtain⟨v,vs,rfl,h2,h3⟩:=h;exact⟨v,_,rfl,h2,RL.app h3 h'⟩
theorem RL.drop{as:List AV}{vs:List Value}(h:RL e k as vs)(n:Nat):RL e k (as.drop n) (vs.drop n):=
 RL.mk (by simp[h.len]) fun i a v h1 h2=>by
  rw[List.getElem?_drop]at h1 h2;exact Ue
theorem RL.take{as:List AV}{vs:List Value}(h:RL e k as vs)(n:Nat):RL e k (as.take n) (vs.take n):=
 RL.mk (by simp[h.len]) fun i a v h1 h2=>by
  rw[List.getElem?_take]at h1 h2;split at h1
  ·rename_i hi;rw[if_pos hi]at h2;exact Ue
  ·cases h1
end
class FX where
 F:Nat→Option Obj
def Dm(fz:Nat×Nat)(n:Nat):Prop:=fz=(0,0)∨fz=(n,n+1)
def dZ(e:En)(k:Nat):List (AV×AV)→List (Value×Value)→Prop
 |[],l=>l=[]
 |p::ps,l=>∃u v r,l=(u,v)::r∧R e k p.1 u∧R e k p.2 v∧dZ e k ps r
theorem dZ.ext{e e':En}{k k':Nat}(hx:cW k e e')(hk:k≤k'):∀{ps:List (AV×AV)} {l:List (Value×Value)},dZ e k ps l→dZ e' k' ps l
 |[],_,h=>h
 |p::ps,_,h=>by
  obtain⟨u,v,r,h1,h2,h3,h4⟩:=h;exact⟨u,v,r,h1,h2.ext hx hk,h3.ext hx hk,h4.ext hx hk⟩
def Mp(kk:KK)(es es':List (AV×AV)):Prop:=es.Perm es'∧(∀p∈es',fits kk p.1=true)∧(es'.map Prod.fst).Nodup
def Bo(l:List MapEntry)(c:Nat):Prop:=(∀x∈l,x.born<c)∧l.Pairwise fun x y=>x.born<y.born
theorem Bo.push{l:List MapEntry}{c:Nat}(h:Bo l c){x:MapEntry}(hx:x.born=c):Bo (l++[x]) (c+1):=
 ⟨fun y hy=>by
  rcases List.mem_append.1 hy with hy|hy
  ·exact Nat.lt_succ_of_lt (h.1 y hy)
  ·rw[List.mem_singleton.1 hy,hx];exact Nat.lt_succ_self c,List.pairwise_append.2 ⟨h.2,List.pairwise_singleton _ _,fun y hy z hz=>by rw[List.mem_singleton.1 hz,hx];exact h.1 y hy⟩⟩
theorem Bo.born{l l':List MapEntry}{c:Nat}(h:Bo l c)(e:l'.map (·.born)=l.map (·.born)):Bo l' c:=by
 refine⟨fun y hy=>?_,?_⟩
 ·have h1:y.born∈l.map (·.born):=e▸List.mem_map.2 ⟨y,hy,rfl⟩;obtain⟨z,hz,h2⟩:=List.mem_map.1 h1;rw[←h2];exact h.1 z hz
 ·have h1:(l.map (·.born)).Pairwise (· <·):=List.pairwise_map.2 h.2;rw[←e]at h1;exact List.pairwise_map.1 h1
theorem Bo.set [FX]{l:List MapEntry}{c j:Nat}(h:Bo l c){x y:MapEntry}(hj:l[j]? =some x)(hy:y.born=x.born):Bo (l.set j y) c:=h.born (by
 rw[List.map_set,hy];apply List.ext_getElem?;intro i;rw[List.getElem?_set];by_cases hij:j=i
 ·subst hij;rw[if_pos rfl,List.length_map,if_pos (List.getElem?_eq_some_iff.1 hj).1,List.getElem?_map,hj];rfl
 ·rw[if_neg hij])
def RO(e:En)(k b:Nat):bk→Obj→Prop
 |.cells c n size t room,r=>∃cs fz,r=.cells cs t fz∧Dm fz cs.size∧cs.size=(if room=true then e.κ b else n)*size∧(room=true→n≤e.κ b)∧∀i l,c.at_ i=some l→i<n∧l.length=size∧∀j a,l[j]? =some a→iE a=true∧∃v,cs[i*size+j]? =some v∧R e k a v
 |.map kk es,r=>∃ents clock es',r=.map ents clock∧dZ e k es' (ents.toList.map fun x=>(x.key,x.val))∧Mp kk es es'∧Bo ents.toList clock
 |.siter l p,r=>r=.stringIter (bw l) p
theorem RO.ext [FX]{e e':En}{k k' b:Nat}(hx:cW k e e')(hk:k≤k')(hb:b<k){o:bk}{r:Obj}(h:RO e k b o r):RO e' k' b o r:=by
 cases o with
 |cells c n size t room=>
  obtain⟨cs,fz,h1,h2,h3,h4,h5⟩:=h;refine⟨cs,fz,h1,h2,by rw[(hx b hb).2.1];exact h3,by rw[(hx b hb).2.1];exact h4,fun i l hi=>?_⟩;obtain⟨h6,h7,h8⟩:=h5 i l hi;refine⟨h6,h7,fun j a hj=>?_⟩;obtain⟨h11,v,h9,h10⟩:=h8 j a hj;exact⟨h11,v,h9,h10.ext hx hk⟩
 |map kk es=>
  obtain⟨ents,clock,es',h1,h2,h3⟩:=h;exact⟨ents,clock,es',h1,h2.ext hx hk,h3⟩
 |siter l p=>exact h
structure aZ [FX](e:En)(s:St)(w:World):Prop where
 obj:∀b o,s.heap.at_ b=some o→b<s.next∧e.σ b<w.heap.size∧∃r,w.heap[e.σ b]? =some r∧RO e s.next b o r
 inj:∀b o b' o',s.heap.at_ b=some o→s.heap.at_ b'=some o'→e.σ b=e.σ b'→b=b'
 fx:∀g o,FX.F g=some o→w.heap[g]? =some o∧∀b o',s.heap.at_ b=some o'→e.σ b≠g
structure aW [FX](e:En)(s:St)(w:World)(e':En)(s':St)(w':World):Prop where
 rep:aZ e' s' w'
 ext:cW s.next e e'
 nx:s.next≤s'.next
 own:∀b o,s'.heap.at_ b=some o→(∃b0 o0,s.heap.at_ b0=some o0∧e.σ b0=e'.σ b)∨w.heap.size≤e'.σ b
 os:w'.os=w.os
 tape:w'.tape=w.tape
 output:w'.output=w.output
 size:w.heap.size≤w'.heap.size
 kp:∀k,k<w.heap.size→(∀b o,s.heap.at_ b=some o→e.σ b≠k)→w'.heap[k]? =w.heap[k]?
 lg:∃l,s'.wr=l++s.wr∧∀b,b<s.next→b∉l→s'.heap.at_ b=s.heap.at_ b
 fx:e'.fx=e.fx
theorem aW.refl [FX]{e:En}{s:St}{w:World}(h:aZ e s w):aW e s w e s w:=
 ⟨h,cW.refl _ _,Nat.le_refl _,fun b o hb=>.inl ⟨b,o,hb,rfl⟩,rfl,rfl,rfl,Nat.le_refl _,fun _ _ _=>rfl,⟨[],rfl,fun _ _ _=>rfl⟩,rfl⟩
theorem aW.trans [FX]{e e1 e2:En}{s s1 s2:St}{w w1 w2:World}(h:aW e s w e1 s1 w1)(h':aW e1 s1 w1 e2 s2 w2):aW e s w e2 s2 w2 where
 rep:=h'.rep
 ext:=h.ext.trans h'.ext h.nx
 nx:=Nat.le_trans h.nx h'.nx
 own:=fun b o hb=>by
  rcases h'.own b o hb with⟨b1,o1,h1,h2⟩|h1
  ·rcases h.own b1 o1 h1 with⟨b0,o0,h3,h4⟩|h3
   ·exact .inl ⟨b0,o0,h3,h4.trans h2⟩
   ·exact .inr (h2▸h3)
  ·exact .inr (Nat.le_trans h.size h1)
 os:=h'.os.trans h.os
 tape:=h'.tape.trans h.tape
 output:=h'.output.trans h.output
 size:=Nat.le_trans h.size h'.size
 kp:=fun k hk hn=>by
  rw[h'.kp k (Nat.lt_of_lt_of_le hk h.size) fun b o hb he=>?_,h.kp k hk hn];rcases h.own b o hb with⟨b0,o0,h3,h4⟩|h3
  ·exact hn b0 o0 h3 (h4.trans he)
  ·omega
 lg:=by
  obtain⟨l,h1,h2⟩:=h.lg;obtain⟨l',h3,h4⟩:=h'.lg;refine⟨l'++l,by rw[h3,h1,List.append_assoc],fun b hb hn=>?_⟩;rw[List.mem_append,not_or]at hn;rw[h4 b (Nat.lt_of_lt_of_le hb h.nx) hn.1,h2 b hb hn.2]
 fx:=h'.fx.trans h.fx
theorem aW.drew [FX]{e:En}{s:St}{w:World}(h:aZ e s w):aW e s w e s w.drew:=
 ⟨⟨fun b o hb=>h.obj b o hb,h.inj,h.fx⟩,cW.refl _ _,Nat.le_refl _,fun b o hb=>.inl ⟨b,o,hb,rfl⟩,rfl,rfl,rfl,Nat.le_refl _,fun _ _ _=>rfl,⟨[],rfl,fun _ _ _=>rfl⟩,rfl⟩
def En.up(e:En)(k r c:Nat):En:=⟨fun b=>if b=k then r else e.σ b,fun b=>if b=k then c else e.κ b,fun b=>if b=k then true else e.lv b,e.fx⟩
theorem En.up_ext(e:En)(k r c:Nat):cW k e (e.up k r c):=fun b hb=>by
 have:¬b=k:=by omega
 simp[En.up,this]
theorem aW.new [FX]{e:En}{s:St}{w:World}(h:aZ e s w)(o:bk)(r:Obj)(c:Nat)(ho:RO (e.up s.next w.heap.size c) (s.next+1) s.next o r):aW e s w (e.up s.next w.heap.size c) (s.add o) {w with heap:=w.heap.push r} where
 rep:=by
  refine⟨fun b o' hb=>?_,fun b o1 b' o2 hb hb' he=>?_,fun g o' hg=>?_⟩
  ·change (s.heap.set s.next o).at_ b=some o' at hb;rw[T.at_set]at hb;by_cases hk:s.next=b
   ·rw[if_pos hk]at hb;cases hb;subst hk;refine⟨Nat.lt_succ_self _,by simp[En.up],r,by simp[En.up],ho⟩
   ·rw[if_neg hk]at hb;obtain⟨h1,h2,r',h3,h4⟩:=h.obj b o' hb;have hσ:(e.up s.next w.heap.size c).σ b=e.σ b:=(En.up_ext e _ _ _ b h1).1;rw[hσ];refine⟨Nat.lt_succ_of_lt h1,by simp;omega,r',?_,h4.ext (En.up_ext e _ _ _) (Nat.le_succ _) h1⟩;rw[Array.getElem?_push,if_neg (by omega)];exact h3
  ·change (s.heap.set s.next o).at_ b=some o1 at hb;change (s.heap.set s.next o).at_ b'=some o2 at hb';rw[T.at_set]at hb hb';by_cases hk:s.next=b<;>by_cases hk':s.next=b'
   ·omega
   ·rw[if_neg hk']at hb';obtain⟨h1,h2,_⟩:=h.obj b' o2 hb';exact UG
   ·rw[if_neg hk]at hb;obtain⟨h1,h2,_⟩:=h.obj b o1 hb;exact UH
   ·rw[if_neg hk]at hb;rw[if_neg hk']at hb';obtain⟨h1,_⟩:=h.obj b o1 hb;obtain⟨h2,_⟩:=h.obj b' o2 hb';rw[(En.up_ext e _ _ _ b h1).1,(En.up_ext e _ _ _ b' h2).1]at he;exact h.inj b o1 b' o2 hb hb' he
  ·obtain⟨q1,q2⟩:=h.fx g o' hg;have hlt:=(Array.getElem?_eq_some_iff.1 q1).1;refine⟨by show(w.heap.push r)[g]? =_;rw[Array.getElem?_push,if_neg (by omega)];exact q1,fun b o2 hb=>?_⟩;change (s.heap.set s.next o).at_ b=some o2 at hb;rw[T.at_set]at hb;by_cases hk:s.next=b
   ·subst hk;simp only[En.up,if_true];omega
   ·rw[if_neg hk]at hb;rw[(En.up_ext e _ _ _ b (h.obj b o2 hb).1).1];exact q2 b o2 hb
 ext:=En.up_ext e _ _ _
 nx:=Nat.le_succ _
 own:=fun b o' hb=>by
  change (s.heap.set s.next o).at_ b=some o' at hb;rw[T.at_set]at hb;by_cases hk:s.next=b
  ·subst hk;right;simp[En.up]
  ·rw[if_neg hk]at hb;exact .inl ⟨b,o',hb,((En.up_ext e _ _ _ b (h.obj b o' hb).1).1).symm⟩
 os:=rfl
 tape:=rfl
 output:=rfl
 size:=by simp
 kp:=fun k hk _=>by
  show(w.heap.push r)[k]? =_;rw[Array.getElem?_push,if_neg (by omega)]
 lg:=⟨[],rfl,fun b hb _=>by
  show(s.heap.set s.next o).at_ b=_;rw[T.at_set,if_neg (by omega)]⟩
 fx:=rfl
theorem aW.put [FX]{e:En}{s:St}{w w':World}(h:aZ e s w){b:Nat}{o0:bk}(h0:s.heap.at_ b=some o0)(o:bk)(r:Obj)(ho:RO e s.next b o r)(hw:w'.heap=w.heap.setIfInBounds (e.σ b) r)(h1:w'.os=w.os)(h2:w'.tape=w.tape)(h3:w'.output=w.output):aW e s w e (s.put b o) w':=by
 obtain⟨hb,hs,_⟩:=h.obj b o0 h0;have hat:∀j,(s.put b o).heap.at_ j=if b=j then some o else s.heap.at_ j:=fun j=>T.at_set _ _ _ _
 refine⟨⟨fun j o' hj=>?_,fun j o1 j' o2 hj hj' he=>?_,fun g o' hg=>?_⟩,cW.refl _ _,Nat.le_refl _,fun j o' hj=>?_,h1,h2,h3,by rw[hw];simp,fun k hk hn=>?_,⟨[b],rfl,fun j _ hn=>by rw[hat,if_neg (fun hh=>hn (by rw[hh];simp))]⟩,rfl⟩
 ·rw[hat]at hj;by_cases hk:b=j
  ·rw[if_pos hk]at hj;cases hj;subst hk;exact⟨hb,by rw[hw];simpa using hs,r,by rw[hw];simp[hs],ho⟩
  ·rw[if_neg hk]at hj;obtain⟨h4,h5,r',h6,h7⟩:=h.obj j o' hj;refine⟨h4,by rw[hw];simpa using h5,r',?_,h7⟩;rw[hw,Array.getElem?_setIfInBounds_ne (fun he=>hk (h.inj b o0 j o' h0 hj he))];exact h6
 ·rw[hat]at hj hj';by_cases hk:b=j<;>by_cases hk':b=j'
  ·omega
  ·rw[if_neg hk']at hj';subst hk;exact h.inj b o0 j' o2 h0 hj' he
  ·rw[if_neg hk]at hj;subst hk';exact h.inj j o1 b o0 hj h0 he
  ·rw[if_neg hk]at hj;rw[if_neg hk']at hj';exact h.inj j o1 j' o2 hj hj' he
 ·obtain⟨q1,q2⟩:=h.fx g o' hg;refine⟨by rw[hw,Array.getElem?_setIfInBounds_ne (q2 b o0 h0)];exact q1,fun j o2 hj=>?_⟩;rw[hat]at hj;by_cases hk:b=j
  ·subst hk;exact q2 b o0 h0
  ·rw[if_neg hk]at hj;exact q2 j o2 hj
 ·rw[hat]at hj;by_cases hk:b=j
  ·subst hk;exact .inl ⟨b,o0,h0,rfl⟩
  ·rw[if_neg hk]at hj;exact .inl ⟨j,o',hj,rfl⟩
 ·rw[hw,Array.getElem?_setIfInBounds_ne (hn b o0 h0)]
theorem aW.moved [FX]{e:En}{s:St}{w w':World}(h:aZ e s w){b:Nat}{o0:bk}(h0:s.heap.at_ b=some o0)(o:bk)(r:Obj)(c:Nat)(ho:RO (e.up s.next (e.σ b) c) (s.next+1) s.next o r)(hw:w'.heap=w.heap.setIfInBounds (e.σ b) r)(h1:w'.os=w.os)(h2:w'.tape=w.tape)(h3:w'.output=w.output):aW e s w (e.up s.next (e.σ b) c) ((s.del b).add o) w':=by
 obtain⟨hb,hs,_⟩:=h.obj b o0 h0;have hat:∀j,((s.del b).add o).heap.at_ j=if s.next=j then some o else if b=j then none else s.heap.at_ j:=fun j=>by
  show((s.heap.del b).set s.next o).at_ j=_;rw[T.at_set,T.at_del]
 have hσ:∀j,j<s.next→(e.up s.next (e.σ b) c).σ j=e.σ j:=fun j hj=>(En.up_ext e _ _ _ j hj).1
 have hσn:(e.up s.next (e.σ b) c).σ s.next=e.σ b:=by simp[En.up]
 have hold:∀j o',((s.del b).add o).heap.at_ j=some o'→s.next≠j→b≠j∧s.heap.at_ j=some o':=fun j o' hj hk=>by
  rw[hat,if_neg hk]at hj;by_cases hk':b=j
  ·rw[if_pos hk']at hj;cases hj
  ·rw[if_neg hk']at hj;exact⟨hk',hj⟩
 refine⟨⟨fun j o' hj=>?_,fun j o1 j' o2 hj hj' he=>?_,fun g o' hg=>?_⟩,En.up_ext e _ _ _,Nat.le_succ _,fun j o' hj=>?_,h1,h2,h3,by rw[hw];simp,fun k hk hn=>?_,⟨[b],rfl,fun j hj hn=>by rw[hat,if_neg (by omega),if_neg (fun hh=>hn (by rw[hh];simp))]⟩,rfl⟩
 ·by_cases hk:s.next=j
  ·rw[hat,if_pos hk]at hj;cases hj;subst hk;rw[hσn];exact⟨Nat.lt_succ_self _,by rw[hw];simpa using hs,r,by rw[hw];simp[hs],ho⟩
  ·obtain⟨hk',hj⟩:=hold j o' hj hk;obtain⟨h4,h5,r',h6,h7⟩:=h.obj j o' hj;rw[hσ j h4];refine⟨Nat.lt_succ_of_lt h4,by rw[hw];simpa using h5,r',?_,h7.ext (En.up_ext e _ _ _) (Nat.le_succ _) h4⟩;rw[hw,Array.getElem?_setIfInBounds_ne (fun he=>hk' (h.inj b o0 j o' h0 hj he))];exact h6
 ·by_cases hk:s.next=j<;>by_cases hk':s.next=j'
  ·omega
  ·obtain⟨h4,h5⟩:=hold j' o2 hj' hk';rw[←hk,hσn,hσ j' (h.obj j' o2 h5).1]at he;exact absurd (h.inj b o0 j' o2 h0 h5 he) h4
  ·obtain⟨h4,h5⟩:=hold j o1 hj hk;rw[←hk',hσn,hσ j (h.obj j o1 h5).1]at he;exact absurd (h.inj b o0 j o1 h0 h5 he.symm) h4
  ·obtain⟨h4,h5⟩:=hold j o1 hj hk;obtain⟨h6,h7⟩:=hold j' o2 hj' hk';rw[hσ j (h.obj j o1 h5).1,hσ j' (h.obj j' o2 h7).1]at he;exact h.inj j o1 j' o2 h5 h7 he
 ·obtain⟨q1,q2⟩:=h.fx g o' hg;refine⟨by rw[hw,Array.getElem?_setIfInBounds_ne (q2 b o0 h0)];exact q1,fun j o2 hj=>?_⟩;by_cases hk:s.next=j
  ·subst hk;rw[hσn];exact q2 b o0 h0
  ·obtain⟨_,hj⟩:=hold j o2 hj hk;rw[hσ j (h.obj j o2 hj).1];exact q2 j o2 hj
 ·by_cases hk:s.next=j
  ·subst hk;exact .inl ⟨b,o0,h0,hσn.symm⟩
  ·obtain⟨_,hj⟩:=hold j o' hj hk;exact .inl ⟨j,o',hj,(hσ j (h.obj j o' hj).1).symm⟩
 ·rw[hw,Array.getElem?_setIfInBounds_ne (hn b o0 h0)]
structure bS(P:Program)(T:Tb):Prop where
 ty:∀t i,T.ty.at_ t=some i→∃ti,P.info? t=some ti∧i.size=ti.size∧i.d=(P.underlying t).getD .invalid∧i.agg=Ec i.d∧i.held=P.stoodInHeld t∧i.guard=P.eqGuardType P.depth t∧i.bytes=ti.bytes∧∀z,i.zero=some z→∃v,ti.zero=some v∧z=cR v
 fn:∀f fn,T.fn.at_ f=some fn→P.funcs[f]? =some fn∧(fn.name== "runtime.NumGoroutine")=false
section
variable {P:Program} {T:Tb} {e:En} {k:Nat}
theorem bS.dsc(h:bS P T){t:Nat}{d:TypeDesc}(hd:dsc T t=d)(hn:d≠.invalid):P.underlying t=some d:=by
 unfold Eng.dsc at hd;cases hi:T.ty.at_ t with
 |none=>rw[hi]at hd;exact absurd hd.symm hn
 |some i=>
  rw[hi]at hd;obtain⟨ti,_,_,h3,_⟩:=h.ty t i hi;change i.d=d at hd;rw[hd]at h3;cases hu:P.underlying t with
  |none=>rw[hu]at h3;exact absurd h3 hn
  |some d'=>rw[hu]at h3;rw[h3];rfl
theorem bS.info(h:bS P T){t:Nat}(hk:eD T t=true):∃ti d,P.info? t=some ti∧aN T t=ti.size∧P.underlying t=some d∧iS T t=Ec d∧Eng.dsc T t=d:=by
 unfold eD at hk;unfold aN iS Eng.dsc;cases hi:T.ty.at_ t with
 |none=>rw[hi]at hk;cases(show false=true from hk)
 |some i=>
  rw[hi]at hk;obtain⟨ti,h1,h2,h3,h4,_⟩:=h.ty t i hi;cases hu:P.underlying t with
  |none=>rw[hu]at h3;change i.d=.invalid at h3;change (!KG i.d)=true at hk;rw[h3]at hk;cases hk
  |some d=>rw[hu]at h3;exact⟨ti,d,h1,h2,rfl,h4.trans (by rw[show i.d=d from h3]),h3⟩
theorem afN(s:ByteArray):bw (bZ UInt8.toNat s.data.toList)=s:=by
 unfold bw;rw[oC,List.map_map];have:(UInt8.ofNat∘UInt8.toNat)=id:=by funext x;simp
 rw[this];simp
theorem Jg [FX](v:Value):R e k (rN v) v:=by
 cases v<;>simp only[rN]<;>first|rfl|(unfold fm;unfold R;rw[afN];refine⟨fun b hb=>?_,rfl⟩;rw[oC,List.mem_map]at hb;obtain⟨x,_,rfl⟩:=hb;exact x.toNat_lt)
theorem CU [FX](v:Value):R e k (cR v) v:=by
 cases v with
 |agg cs=>
  refine⟨cs,rfl,RL.mk (by rw[oC];simp) fun i a u h1 h2=>?_⟩;rw[oC,List.getElem?_map,h2]at h1;cases h1;exact Jg u
 |_=>unfold cR;exact Jg _
def Gl(e:En)(k:Nat):Prop:=∀g,g<1000→g<k∧e.lv g=true∧e.σ g=g
theorem Gl.ext{e e':En}{k k':Nat}(h:Gl e k)(hx:cW k e e')(hk:k≤k'):Gl e' k':=fun g hg=>by
 obtain⟨h1,h2,h3⟩:=h g hg;obtain⟨h4,_,h6⟩:=hx g h1;exact⟨Nat.lt_of_lt_of_le h1 hk,h6.trans h2,h4.trans h3⟩
def aY(e:En)(k:Nat)(ns:NS)(tm:Tm)(a:Act):Prop:=Gl e k∧∀t,R e k (ev (bM ns t) tm) (a.tmps.getD t undef)
theorem cQ [FX]{ns:NS}{tm:Tm}{a:Act}(h:aY e k ns tm a)(x:Operand):R e k (ev (mv ns x) tm) (a.eval x):=by
 cases x with
 |tmp t=>exact h.2 t
 |const v=>exact CU v
 |global g=>
  show R e k (Bool.rec .bot (.ptr g 0) (Nat.ble (g+1) 1000)) _;cases hb:Nat.ble (g+1) 1000 with
  |false=>exact trivial
  |true=>
   obtain⟨h1,h2,h3⟩:=h.1 g (Nat.le_of_ble_eq_true hb);exact⟨⟨h1,h2⟩,by rw[h3];rfl⟩
 |func f=>exact⟨#[],#[],rfl,rfl,rfl⟩
theorem Dc [FX]{ns:NS}{tm:Tm}{a:Act}(h:aY e k ns tm a)(l:List Operand):RL e k (nA (bZ (mv ns) l) tm) (l.map a.eval):=by
 induction l with
 |nil=>rfl
 |cons x l ih=>exact⟨_,_,rfl,cQ h x,ih⟩
def dU [FX](P:Program)(e:En)(s:St)(w:World)(x:Sem Next)(v:AV)(s':St):Prop:=
 ∃e' w' n,x.run P w=.ok n w'∧aW e s w e' s' w'∧((∃u,n=.value u∧R e' s'.next v u)∨(n=.skip∧v=und))
theorem dh [FX]{s:St}{w:World}(h:aZ e s w){x:Sem Next}{v:AV}{u:Value}(hx:x.run P w=.ok (.value u) w)(hv:R e s.next v u):dU P e s w x v s:=
 ⟨e,w,_,hx,aW.refl h,.inl ⟨u,rfl,hv⟩⟩
theorem nr{o:Option AV}{n:Nat}{s s':St}{v:AV}(h:vl o n s=.val v s'):o=some v∧s=s':=by
 cases o with
 |none=>cases h
 |some u=>unfold vl at h;injection h with h1 h2;exact⟨by rw[h1],h2⟩
end
section
variable {P:Program} {T:Tb} {e:En} {s s':St} {w:World} {ns:NS} {tm:Tm} {a:Act} {o:Oper} {v:AV}
theorem Uf [FX](hr:aZ e s w)(ht:aY e s.next ns tm a){x:Operand}(ho:o.op=.move x∨o.op=.assign x)(h:Nx.val (ev (mv ns x) tm) s=.val v s'):dU P e s w (execOp a.eval o) v s':=by
 injection h with h1 h2
 subst h1 h2;refine dh hr ?_ (cQ ht x);unfold execOp;rcases ho with ho|ho<;>rw[ho]<;>rfl
theorem ae2 [FX](hr:aZ e s w)(ht:aY e s.next ns tm a){c x y:Operand}(ho:o.op=.pick c x y)(h:zo (ev (mv ns c) tm) (ev (mv ns x) tm) (ev (mv ns y) tm) s=.val v s'):dU P e s w (execOp a.eval o) v s':=by
 have hc:=cQ ht c;generalize ev (mv ns c) tm=vc at *;cases vc with
 |bool b=>
  have hc':a.eval c=.bool b:=hc;cases b
  ·unfold zo at h;injection h with h1 h2
   subst h1 h2;refine dh hr ?_ (cQ ht y);unfold execOp;rw[ho];simp[hc',asBool]
  ·unfold zo at h;injection h with h1 h2
   subst h1 h2;refine dh hr ?_ (cQ ht x);unfold execOp;rw[ho];simp[hc',asBool]
 |_=>cases h
theorem afb [FX](hr:aZ e s w)(ht:aY e s.next ns tm a){f:Fn}{x c:Array Operand}(ho:o.op=.makeFunc f x c){m:cg}(hm:Lw f (bZ (mv ns) x.toList) (bZ (mv ns) c.toList)=m)(h:fS m tm s=.val v s'):dU P e s w (execOp a.eval o) v s':=by
 subst hm;cases f with
 |func f=>
  have h':Nx.val (.fn f (nA (bZ (mv ns) x.toList) tm) (nA (bZ (mv ns) c.toList) tm)) s=.val v s':=h;injection h' with h1 h2
  subst h1 h2;refine dh (u:=.func (.func f) (x.map a.eval) (c.map a.eval)) hr ?_ ⟨_,_,rfl,?_,?_⟩
  ·unfold execOp;rw[ho];rfl
  ·simpa using Dc ht x.toList
  ·simpa using Dc ht c.toList
 |_=>cases(show Nx.bad 45=.val v s' from h)
theorem afd [FX](hr:aZ e s w)(ht:aY e s.next ns tm a){x:Operand}{i:Nat}(ho:o.op=.extract x i)(h:Lq (ev (mv ns x) tm) i s=.val v s'):dU P e s w (execOp a.eval o) v s':=by
 have hx:=cQ ht x;generalize ev (mv ns x) tm=vx at *;cases vx with
 |tup l=>
  obtain⟨cs,h1,h2⟩:=hx;obtain⟨h3,rfl⟩:=nr (show vl (jH l i) 40 s=.val v s' from h);rw[qZ]at h3;obtain⟨u,h4,h5⟩:=h2.at h3;refine dh (u:=u) hr ?_ h5;unfold execOp;rw[ho];simp[h1,Instr.extract,show cs[i]? =some u by simpa using h4]
 |_=>cases h
theorem afa [FX](hr:aZ e s w)(ht:aY e s.next ns tm a){t:TypeId}{x:Operand}(ho:o.op=.makeInterface t x){d:TypeDesc}(hu:P.underlying t=some d)(hd:nB d=false)(h:Nx.val (.ifc t (ev (mv ns x) tm)) s=.val v s'):dU P e s w (execOp a.eval o) v s':=by
 injection h with h1 h2
 subst h1 h2;refine dh (u:=.iface t (a.eval x)) hr ?_ ⟨_,rfl,cQ ht x⟩;unfold execOp;rw[ho];simp only[Instr.makeInterface,Sem.run_bind];rw[run_underlying hu w];cases d<;>first|rfl|cases hd
theorem ae7 [FX](hr:aZ e s w)(ht:aY e s.next ns tm a){x:Operand}(ho:o.op=.nilCheck x)(h:Lf (ev (mv ns x) tm) s=.val v s'):dU P e s w (execOp a.eval o) v s':=by
 have hx:=cQ ht x;generalize ev (mv ns x) tm=vx at *;cases vx with
 |ptr b q=>
  obtain⟨h1,h2⟩:=hx;injection (show Nx.val (.ptr b q) s=.val v s' from h)with h3 h4
  subst h3 h4;refine dh hr ?_ ⟨h1,rfl⟩;unfold execOp;rw[ho];simp[h2]
 |fn f x c=>
  obtain⟨y,z,h1,h2⟩:=hx;injection (show Nx.val (.fn f x c) s=.val v s' from h)with h3 h4
  subst h3 h4;refine dh hr ?_ ⟨y,z,rfl,h2⟩;unfold execOp;rw[ho];simp[h1]
 |ifc t u=>
  obtain⟨y,h1,h2⟩:=hx;injection (show Nx.val (.ifc t u) s=.val v s' from h)with h3 h4
  subst h3 h4;refine dh hr ?_ ⟨y,rfl,h2⟩;unfold execOp;rw[ho];simp[h1]
 |_=>cases h
theorem ae9 [FX](hr:aZ e s w)(ht:aY e s.next ns tm a){op:UnOp}{t:TypeId}{x:Operand}(ho:o.op=.unOp op t x)(h:Lg op (ev (mv ns x) tm) s=.val v s'):dU P e s w (execOp a.eval o) v s':=by
 have hx:=cQ ht x;generalize ev (mv ns x) tm=vx at *;cases op with
 |not=>
  cases vx with
  |bool b=>
   have hx':a.eval x=.bool b:=hx;injection (show Nx.val (.bool (!b)) s=.val v s' from h)with h3 h4
   subst h3 h4;refine dh (u:=.bool (!b)) hr ?_ rfl;unfold execOp;rw[ho];simp[hx',Op.unary]
  |_=>cases h
 |neg=>
  cases vx with
  |int k n=>
   have hx':a.eval x=.int k n:=hx;injection (show Nx.val (.int k (k.wrap (0-n))) s=.val v s' from h)with h3 h4
   subst h3 h4;refine dh (u:=.int k (k.wrap (0-n))) hr ?_ rfl;unfold execOp;rw[ho];simp[hx',Op.unary,Op.intArith]
  |_=>cases h
 |_=>cases vx<;>cases h
end
section
variable {P:Program} {e:En} {w:World} {q:Nat}
theorem afP{k:IntKind}{n m:Int}(h:n% (2^ k.bits:Int)=m% (2^ k.bits:Int)):k.wrap n=k.wrap m:=by
 unfold IntKind.wrap;rw[h]
theorem Jt(n:Nat):((2^ n:Nat):Int)=(2:Int)^ n:=by simp
theorem Dq [FX]{k:IntKind}{n m:Nat}(h:n% 2^ k.bits=m% 2^ k.bits):k.wrap (n:Int)=k.wrap (m:Int):=afP (by
 rw[←Jt,←Int.natCast_emod,←Int.natCast_emod,h])
theorem ri(n a:Nat):(BitVec.ofInt n (Int.ofNat a)).toNat=a% 2^ n:=by
 rw[show(Int.ofNat a)=(a:Int)from rfl,BitVec.ofInt_natCast,BitVec.toNat_ofNat]
theorem Dt [FX]{op:BinOp}{k:IntKind}{a b:Int}{v:AV}(h:KN op k a b=some v):∃u,(Op.intBits op k a b).run P w=.ok u w∧R e q v u:=by
 cases a with
 |negSucc a=>cases op<;>cases h
 |ofNat a=>
  cases b with
  |negSucc b=>cases op<;>cases h
  |ofNat b=>
   cases op<;>first|(cases h;done)|skip
   case and=>
    cases h;refine⟨_,rfl,?_⟩;show Value.int k _=Value.int k _;congr 1;refine Dq ?_;rw[BitVec.toNat_and,ri,ri,←Nat.and_mod_two_pow,Nat.mod_mod];rfl
   case or=>
    cases h;refine⟨_,rfl,?_⟩;show Value.int k _=Value.int k _;congr 1;refine Dq ?_;rw[BitVec.toNat_or,ri,ri,←Nat.or_mod_two_pow,Nat.mod_mod];rfl
   case xor=>
    cases h;refine⟨_,rfl,?_⟩;show Value.int k _=Value.int k _;congr 1;refine Dq ?_;rw[BitVec.toNat_xor,ri,ri,←Nat.xor_mod_two_pow,Nat.mod_mod];rfl
   case andNot=>
    cases h;refine⟨_,rfl,?_⟩;show Value.int k _=Value.int k _;congr 1;refine Dq ?_;have e1:BitVec.ofInt k.bits (Int.ofNat a) &&& ~~~ BitVec.ofInt k.bits (Int.ofNat b)=BitVec.ofInt k.bits (Int.ofNat a) ^^^ (BitVec.ofInt k.bits (Int.ofNat a) &&& BitVec.ofInt k.bits (Int.ofNat b)):=by
     ext i hi
     simp;generalize(BitVec.ofNat k.bits a)[i]=x;generalize(BitVec.ofNat k.bits b)[i]=y;cases x<;>cases y<;>rfl
    rw[e1,BitVec.toNat_xor,BitVec.toNat_and,ri,ri,←Nat.and_mod_two_pow,←Nat.xor_mod_two_pow,Nat.mod_mod];rfl
theorem Va [FX]{op:BinOp}{t:TypeId}{k k':IntKind}{a b:Int}{v:AV}(h:zh op k a k' b=some v):∃u,(binOp op t (.int k a) (.int k' b)).run P w=.ok u w∧R e q v u:=by
 by_cases h1:op=.shl
 ·subst h1;cases b with
  |negSucc b=>cases h
  |ofNat n=>
   have h2:v=.int k (k.wrap (a*.ofNat (2^ min n k.bits))):=(Option.some.inj h).symm;subst h2;refine⟨Value.int k (k.wrap (a*Int.ofNat (2^ min n k.bits))),?_,rfl⟩;rw[show Int.ofNat (2^ min n k.bits)=(2:Int)^ min n k.bits from Jt _];have h9:¬((n:Int)<0):=by omega
   simp[binOp,Op.shift]
   try exact fun h=>absurd h h9
 by_cases h2:op=.shr
 ·subst h2;cases b with
  |negSucc b=>cases h
  |ofNat n=>
   have h2:v=.int k (a.fdiv (.ofNat (2^ min n k.bits))):=(Option.some.inj h).symm;subst h2;refine⟨Value.int k (a.fdiv (Int.ofNat (2^ min n k.bits))),?_,rfl⟩;rw[show Int.ofNat (2^ min n k.bits)=(2:Int)^ min n k.bits from Jt _];have h9:¬((n:Int)<0):=by omega
   simp[binOp,Op.shift]
   try exact fun h=>absurd h h9
 have h3:(if k=k' then rQ op k a b else none)=some v:=by cases op<;>first|exact h|exact absurd rfl h1|exact absurd rfl h2
 by_cases hk:k=k';case neg=>rw[if_neg hk]at h3;cases h3
 subst hk;rw[if_pos rfl]at h3;clear h;cases op<;>first|exact absurd rfl h1|exact absurd rfl h2|skip
 case add=>cases h3;exact⟨.int k (k.wrap (a+b)),by simp[binOp,Op.intArith],rfl⟩
 case sub=>cases h3;exact⟨.int k (k.wrap (a-b)),by simp[binOp,Op.intArith],rfl⟩
 case mul=>cases h3;exact⟨.int k (k.wrap (a*b)),by simp[binOp,Op.intArith],rfl⟩
 case quo=>
  by_cases hb:b=0
  ·rw[show rQ .quo k a b=if b=0 then none else some (.int k (k.wrap (a.tdiv b)))from rfl,if_pos hb]at h3;cases h3
  ·rw[show rQ .quo k a b=if b=0 then none else some (.int k (k.wrap (a.tdiv b)))from rfl,if_neg hb]at h3;cases h3;exact⟨.int k (k.wrap (a.tdiv b)),by simp[binOp,Op.intDiv,hb],rfl⟩
 case rem=>
  by_cases hb:b=0
  ·rw[show rQ .rem k a b=if b=0 then none else some (.int k (a.tmod b))from rfl,if_pos hb]at h3;cases h3
  ·rw[show rQ .rem k a b=if b=0 then none else some (.int k (a.tmod b))from rfl,if_neg hb]at h3;cases h3;exact⟨.int k (a.tmod b),by simp[binOp,Op.intDiv,hb],rfl⟩
 case eql=>cases h3;exact⟨.bool (a==b),by simp[binOp,Op.intCmp],rfl⟩
 case neq=>cases h3;exact⟨.bool (a != b),by simp[binOp,Op.intCmp],rfl⟩
 case lss=>cases h3;exact⟨.bool (decide (a<b)),by simp[binOp,Op.intCmp],rfl⟩
 case leq=>cases h3;exact⟨.bool (decide (a≤b)),by simp[binOp,Op.intCmp],rfl⟩
 case gtr=>cases h3;exact⟨.bool (decide (b<a)),by simp[binOp,Op.intCmp],rfl⟩
 case geq=>cases h3;exact⟨.bool (decide (b≤a)),by simp[binOp,Op.intCmp],rfl⟩
 case and=>obtain⟨u,h4,h5⟩:=Dt (P:=P) (e:=e) (w:=w) (q:=q) h3;exact⟨u,by simpa[binOp]using h4,h5⟩
 case or=>obtain⟨u,h4,h5⟩:=Dt (P:=P) (e:=e) (w:=w) (q:=q) h3;exact⟨u,by simpa[binOp]using h4,h5⟩
 case xor=>obtain⟨u,h4,h5⟩:=Dt (P:=P) (e:=e) (w:=w) (q:=q) h3;exact⟨u,by simpa[binOp]using h4,h5⟩
 case andNot=>obtain⟨u,h4,h5⟩:=Dt (P:=P) (e:=e) (w:=w) (q:=q) h3;exact⟨u,by simpa[binOp]using h4,h5⟩
theorem Jf:∀l m:List Nat,gA l m=true↔l=m
 |[],[]=>by simp[show gA [] []=true from rfl]
 |[],b::m=>by simp[show gA [] (b::m)=false from rfl]
 |a::l,[]=>by simp[show gA (a::l) []=false from rfl]
 |a::l,b::m=>by
  rw[show gA (a::l) (b::m)=Bool.rec false (gA l m) (Nat.beq a b)from rfl];cases h:Nat.beq a b
  ·have:¬a=b:=fun e=>by rw[e,Nat.beq_refl]at h;cases h
   simp[this]
  ·have:a=b:=Nat.eq_of_beq_eq_true h;subst this;show gA l m=true↔_;rw[Jf l m];simp
theorem Vb{a b:Nat}(ha:a<256)(hb:b<256):UInt8.ofNat a=UInt8.ofNat b↔a=b:=by
 constructor
 ·intro h;have h1:=congrArg UInt8.toNat h;simp at h1;omega
 ·rintro rfl;rfl
theorem CY [FX]:∀{l m:List Nat},(∀b∈l,b<256)→(∀b∈m,b<256)→((l.map UInt8.ofNat==m.map UInt8.ofNat)=gA l m)
 |[],[],_,_=>rfl
 |[],b::m,_,_=>rfl
 |a::l,[],_,_=>rfl
 |a::l,b::m,hl,hm=>by
  have h1:=CY (l:=l) (m:=m) (fun x hx=>hl x (by simp[hx])) (fun x hx=>hm x (by simp[hx]));rw[show gA (a::l) (b::m)=Bool.rec false (gA l m) (Nat.beq a b)from rfl,List.map_cons,List.map_cons,List.cons_beq_cons,h1];have h2:=Vb (hl a (by simp)) (hm b (by simp));cases h:Nat.beq a b
  ·have h3:¬a=b:=fun e=>by rw[e,Nat.beq_refl]at h;cases h
   have h4:(UInt8.ofNat a==UInt8.ofNat b)=false:=by simpa using fun e=>h3 (h2.1 e)
   rw[h4];rfl
  ·have h3:a=b:=Nat.eq_of_beq_eq_true h;subst h3;simp
theorem Vc [FX]:∀{l m:List Nat},(∀b∈l,b<256)→(∀b∈m,b<256)→Op.bytesLess (l.map UInt8.ofNat) (m.map UInt8.ofNat)=jI l m
 |[],[],_,_=>rfl
 |[],b::m,_,_=>rfl
 |a::l,[],_,_=>rfl
 |a::l,b::m,hl,hm=>by
  have h1:=Vc (l:=l) (m:=m) (fun x hx=>hl x (by simp[hx])) (fun x hx=>hm x (by simp[hx]));have ha:=hl a (by simp);have hb:=hm b (by simp);have h2:=Vb ha hb;rw[List.map_cons,List.map_cons,Op.bytesLess,h1,show jI (a::l) (b::m)=Bool.rec (Bool.rec false (jI l m) (Nat.beq a b)) true (Nat.ble (a+1) b)from rfl];have h3:(UInt8.ofNat a<UInt8.ofNat b)↔a<b:=by
   rw[UInt8.lt_iff_toNat_lt];simp;omega
  cases h:Nat.ble (a+1) b
  ·have h4:¬a<b:=fun hh=>by rw[Nat.ble_eq_true_of_le hh]at h;cases h
   have h5:decide (UInt8.ofNat a<UInt8.ofNat b)=false:=decide_eq_false fun x=>h4 (h3.1 x)
   rw[h5];cases h6:Nat.beq a b
   ·have h7:¬a=b:=fun e=>by rw[e,Nat.beq_refl]at h6;cases h6
    have h8:(UInt8.ofNat a==UInt8.ofNat b)=false:=by simpa using fun e=>h7 (h2.1 e)
    rw[h8];rfl
   ·have h7:a=b:=Nat.eq_of_beq_eq_true h6;subst h7;simp
  ·have h4:a<b:=Nat.le_of_ble_eq_true h;rw[decide_eq_true (h3.2 h4)];rfl
theorem afQ(l m:List Nat):bw l++bw m=bw (l++m):=by
 unfold bw;rw[List.map_append];apply ByteArray.ext;simp
theorem lP(l:List Nat):(bw l).size=l.length:=by
 show(bw l).data.size=_;simp[bw]
theorem mR(l:List Nat):(bw l).toList=l.map UInt8.ofNat:=ByteArray.toList_mk _
theorem afR [FX]{op:BinOp}{t:TypeId}{a b:List Nat}{v:AV}(ha:∀x∈a,x<256)(hb:∀x∈b,x<256)(h:ze op a b=some v):∃u,(binOp op t (.string (bw a)) (.string (bw b))).run P w=.ok u w∧R e q v u:=by
 have h1:((bw a).toList==(bw b).toList)=gA a b:=by rw[mR,mR];exact CY ha hb
 have h2:Op.bytesLess (bw a).toList (bw b).toList=jI a b:=by rw[mR,mR];exact Vc ha hb
 have h3:(jI a b||gA a b)= !jI b a:=by
  clear h h1 h2 ha hb
  induction a generalizing b with
  |nil=>cases b<;>rfl
  |cons x a ih=>
   cases b with
   |nil=>rfl
   |cons y b=>
    rw[show jI (x::a) (y::b)=Bool.rec (Bool.rec false (jI a b) (Nat.beq x y)) true (Nat.ble (x+1) y)from rfl,show jI (y::b) (x::a)=Bool.rec (Bool.rec false (jI b a) (Nat.beq y x)) true (Nat.ble (y+1) x)from rfl,show gA (x::a) (y::b)=Bool.rec false (gA a b) (Nat.beq x y)from rfl];rcases Nat.lt_trichotomy x y with hlt|heq|hgt
    ·have e1:Nat.ble (x+1) y=true:=Nat.ble_eq_true_of_le hlt;have e2:Nat.ble (y+1) x=false:=by cases hh:Nat.ble (y+1) x with|false=>rfl|true=>have:=Nat.le_of_ble_eq_true hh;omega
     have e3:Nat.beq y x=false:=by cases hh:Nat.beq y x with|false=>rfl|true=>have:=Nat.eq_of_beq_eq_true hh;omega
     rw[e1,e2,e3];rfl
    ·subst heq;have e1:Nat.ble (x+1) x=false:=by cases hh:Nat.ble (x+1) x with|false=>rfl|true=>have:=Nat.le_of_ble_eq_true hh;omega
     rw[e1,Nat.beq_refl];exact ih
    ·have e1:Nat.ble (y+1) x=true:=Nat.ble_eq_true_of_le hgt;have e2:Nat.ble (x+1) y=false:=by cases hh:Nat.ble (x+1) y with|false=>rfl|true=>have:=Nat.le_of_ble_eq_true hh;omega
     have e3:Nat.beq x y=false:=by cases hh:Nat.beq x y with|false=>rfl|true=>have:=Nat.eq_of_beq_eq_true hh;omega
     rw[e1,e2,e3];rfl
 cases op<;>first|(cases h;done)|skip
 case add=>
  rw[show ze .add a b=Bool.rec none (some (.str (iD a b))) (Nat.ble (Nat.add (cK a) (cK b)) 1000000000000)from rfl]at h;cases hl:Nat.ble (Nat.add (cK a) (cK b)) 1000000000000 with
  |false=>rw[hl]at h;cases h
  |true=>
   rw[hl]at h;cases h;have h4:a.length+b.length≤1000000000000:=by have:=Nat.le_of_ble_eq_true hl;rw[gQ,gQ]at this;exact this
   have h5:¬(((bw a).size+(bw b).size:Nat):Int)>IntKind.i64.max:=by
    rw[lP,lP];simp only[IntKind.max,IntKind.bits,IntKind.signed];simp;omega
   refine⟨.string (bw (a++b)),?_,?_⟩
   ·simp only[binOp,Op.stringOp];rw[if_neg h5,afQ];rfl
   ·rw[qY];exact⟨fun x hx=>by exact(List.mem_append.1 hx).elim (ha x) (hb x),rfl⟩
 case eql=>cases h;exact⟨_,by simp only[binOp,Op.stringOp,h1];rfl,rfl⟩
 case neq=>cases h;exact⟨_,by simp only[binOp,Op.stringOp,h1];rfl,rfl⟩
 case lss=>cases h;exact⟨_,by simp only[binOp,Op.stringOp,h2];rfl,rfl⟩
 case leq=>cases h;exact⟨.bool (!jI b a),by simp only[binOp,Op.stringOp,h1,h2,h3];rfl,rfl⟩
 case gtr=>cases h;exact⟨.bool (jI b a),by simp only[binOp,Op.stringOp,h1,h2,h3,Bool.not_not];rfl,rfl⟩
 case geq=>cases h;exact⟨_,by simp only[binOp,Op.stringOp,h2];rfl,rfl⟩
end
end Go.Proofs.YtlpombjidhloiaaGreat.Eng
