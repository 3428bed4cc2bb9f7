/- Code by the runner. A function's call by the runner. Condition: what each theorem says. -/
import Derived.Test.YtlpombjidhloiaaGreatBbg
import Derived.LoopN
import Derived.Defers
import Derived.Recover
import Derived.Orders
namespace Go.Proofs.YtlpombjidhloiaaGreat.Eng
section
variable {P:Program} {B:Tb} {e e':En} {s s':St} {w:World} {ns:NS} {nt:Nat} {tm tm':Tm} {a:Act} {k:Nat} {ex:Ex} {Q:Exit→Act→World→Prop}
def Uj [FX](ns:NS)(nt:Nat)(e:En)(s:St)(w:World)(a0:Act)(Q:Exit→Act→World→Prop):aS→Prop
 |.ok ex tm' [] s'=>∀e' a' w',aW e s w e' s' w'→aY e' s'.next ns tm' a'→a'.tmps.size=nt→a'.defers=a0.defers→Q ex.out a' w'
 |.pan v tm' [] s'=>∀e' a' w' u,aW e s w e' s' w'→aY e' s'.next ns tm' a'→a'.tmps.size=nt→a'.defers=a0.defers→R e' s'.next v u→Q (.panic [{v:=u,recovered:=false}]) a' w'
 |_=>False
def Uk [FX](P:Program)(B:Tb)(n:Nat):Prop:=∀(ns:NS) (nt id:Nat) (ops:Array Oper) (tm:Tm) (s:St) (e:En) (w:World) (a:Act) (Q:Exit→Act→World→Prop),
 aZ e s w→aY e s.next ns tm a→a.tmps.size=nt→Uj ns nt e s w a Q (run B n (.dops (vS B ns nt ops) [] 0 s.next ⟨tm.g,.nil⟩ s))→(Code.region id ops true).wp P Q a w
def qB [FX](P:Program)(B:Tb)(n:Nat):Prop:=∀(c:Code) (f:Nat) (tm:Tm) (ds:Ds) (s:St) (e:En) (w:World) (a:Act) (Q:Exit→Act→World→Prop),
 aZ e s w→aY e s.next (cY B f) tm a→a.tmps.size=ew B f→mD P e s.next ds a.defers→eK P (cY B f) (ew B f) e s w Q (run B n (.code c f tm ds s))→c.wp P Q a w∧∀b,c=.loop b→Code.rounds P b Q n a w
theorem aY.fresh(h:aY e k ns tm a):aY e k ns ⟨tm.g,.nil⟩ a:=⟨h.1,fun t=>by
 have h1:=h.2 t;unfold bM at *;cases hd:ns.at_ t with
 |none=>exact trivial
 |some u=>rw[hd]at h1;exact h1⟩
theorem Ul [FX]{r:aS}{id:Nat}(h:eK P ns nt e s w Q (tW r id)):eK P ns nt e s w Q r:=by
 cases r<;>exact h
theorem afk [FX]{r:aS}{ds:Ds}(hds:mD P e s.next ds a.defers)(h:eK P ns nt e s w Q (EV r ds)):Uj ns nt e s w a Q r:=by
 cases r with
 |ok ex tm' ds' s'=>
  cases ds' with
  |nil=>exact fun e' a' w' h1 h2 h3 h4=>h e' a' w' h1 h2 h3 (by rw[h4];exact hds.ext h1.ext h1.nx)
  |cons d ds'=>exact h.elim
 |pan v tm' ds' s'=>
  cases ds' with
  |nil=>exact fun e' a' w' u h1 h2 h3 h4 h5=>h e' a' w' u h1 h2 h3 (by rw[h4];exact hds.ext h1.ext h1.nx) h5
  |cons d ds'=>exact h.elim
 |ret _ _=>exact h.elim
 |okR _ _ _ _=>exact h.elim
 |retR _ _=>exact h.elim
 |bad _=>exact h.elim
theorem Um [FX]{r:aS}{rn:Rn}{b:Code}{f:Nat}{N:Act→World→Prop}(h:eK P ns nt e s w Q (vY r rn b f))(hN:∀jT rK s1 e1 a1 w1,aW e s w e1 s1 w1→aY e1 s1.next ns jT a1→a1.tmps.size=nt→mD P e1 s1.next rK a1.defers→eK P ns nt e1 s1 w1 Q (rn (.code b f jT rK s1))→N a1 w1):eK P ns nt e s w (Exit.then N Q) r:=by
 cases r with
 |ok x tm ds s1=>
  cases x with
  |normal=>exact fun e1 a1 w1 h1 h2 h3 h4=>hN tm ds s1 e1 a1 w1 h1 h2 h3 h4 (eK.step h1 h)
  |exit i=>exact h
  |goto l=>exact h
  |ret=>exact h
 |pan v tm ds s1=>exact h
 |ret _ _=>exact h
 |okR _ _ _ _=>exact h
 |retR _ _=>exact h
 |bad _=>exact h
theorem afl [FX]{r:aS}{id:Nat}(h:eK P ns nt e s w Q (EW r id)):eK P ns nt e s w (Exit.inBlock id Q) r:=by
 cases r with
 |ok x tm ds s1=>
  cases x with
  |normal=>exact h
  |exit i=>
   replace h:eK P ns nt e s w Q (Bool.rec (.ok (.exit i) tm ds s1) (.ok .normal tm ds s1) (Nat.beq i id)):=h
   intro e1 a1 w1 h1 h2 h3 h4;show(if i=id then Q .normal a1 w1 else Q (.exit i) a1 w1);cases hb:Nat.beq i id with
   |true=>rw[hb]at h;rw[if_pos (Nat.eq_of_beq_eq_true hb)];exact h e1 a1 w1 h1 h2 h3 h4
   |false=>rw[hb]at h;rw[if_neg (Nat.ne_of_beq_eq_false hb)];exact h e1 a1 w1 h1 h2 h3 h4
  |goto l=>exact h
  |ret=>exact h
 |pan v tm ds s1=>exact h
 |ret _ _=>exact h
 |okR _ _ _ _=>exact h
 |retR _ _=>exact h
 |bad _=>exact h
theorem afm [FX]{n:Nat}(hO:uh P B n)(hD:Uk P B n)(hC:qB P B n):qB P B (n+1):=by
 intro c f tm ds s e w a Q hr hm hsz hds h;cases c with
 |skip=>exact⟨wp_skip (h e a w (aW.refl hr) hm hsz hds),fun b hb=>(by cases hb)⟩
 |region id ops dr=>
  refine⟨?_,fun b hb=>(by cases hb)⟩;cases dr with
  |false=>
   have h2:=Ul (show eK P (cY B f) (ew B f) e s w Q (tW (run B n (.ops (tS B (cY B f) (ew B f) ops) ⟨tm.g,.nil⟩ ds s)) id)from h);exact wp_region_list (hO _ _ ops ops.toList _ ds s e w a Q hr hm.fresh hsz hds h2)
  |true=>
   have h2:=Ul (show eK P (cY B f) (ew B f) e s w Q (tW (EV (run B n (.dops (vS B (cY B f) (ew B f) ops) [] 0 s.next ⟨tm.g,.nil⟩ s)) ds) id)from h);exact hD _ _ id ops tm s e w a Q hr hm hsz (afk hds h2)
 |seq x y=>
  refine⟨wp_seq ?_,fun b hb=>(by cases hb)⟩;exact(hC x f tm ds s e w a _ hr hm hsz hds (Um (show eK P (cY B f) (ew B f) e s w Q (vY (run B n (.code x f tm ds s)) (run B n) y f)from h) fun jT rK s1 e1 a1 w1 h1 h2 h3 h4 h5=>(hC y f jT rK s1 e1 w1 a1 Q h1.rep h2 h3 h4 h5).1)).1
 |cond c x y=>
  refine⟨?_,fun b hb=>(by cases hb)⟩;have hc:=cQ hm c
  replace h:eK P (cY B f) (ew B f) e s w Q (LJ (ev (mv (cY B f) c) tm) (run B n) x y f tm ds s):=h
  cases hv:ev (mv (cY B f) c) tm<;>rw[hv]at h hc<;>first|exact h.elim|skip
  rename_i t;have dE:a.eval c=.bool t:=hc;cases t with
  |true=>exact wp_cond_true dE (hC x f tm ds s e w a Q hr hm hsz hds h).1
  |false=>exact wp_cond_false dE (hC y f tm ds s e w a Q hr hm hsz hds h).1
 |block id c=>
  refine⟨wp_block ?_,fun b hb=>(by cases hb)⟩;exact(hC c f tm ds s e w a _ hr hm hsz hds (afl (show eK P (cY B f) (ew B f) e s w Q (EW (run B n (.code c f tm ds s)) id)from h))).1
 |loop b=>
  have key:Code.rounds P b Q (n+1) a w:=by
   rw[rounds_succ];exact(hC b f tm ds s e w a _ hr hm hsz hds (Um (show eK P (cY B f) (ew B f) e s w Q (vY (run B n (.code b f tm ds s)) (run B n) (.loop b) f)from h) fun jT rK s1 e1 a1 w1 h1 h2 h3 h4 h5=>(hC (.loop b) f jT rK s1 e1 w1 a1 Q h1.rep h2 h3 h4 h5).2 b rfl)).1
  exact⟨wp_loop_rounds (n+1) key,fun b' hb=>by cases hb;exact key⟩
 |rangeFunc g ps x y=>exact h.elim
 |exit id=>exact⟨wp_exit (h e a w (aW.refl hr) hm hsz hds),fun b hb=>(by cases hb)⟩
 |scope c=>exact h.elim
 |label l=>exact⟨wp_label (h e a w (aW.refl hr) hm hsz hds),fun b hb=>(by cases hb)⟩
 |goto l=>exact h.elim
 |ret=>exact⟨wp_ret (h e a w (aW.refl hr) hm hsz hds),fun b hb=>(by cases hb)⟩
 |refuse m=>exact h.elim
end
section
variable {P:Program} {B:Tb} {e e':En} {s s':St} {w:World} {ns:NS} {tm tm':Tm} {a:Act} {k:Nat} {ex:Ex}
def ug [FX](P:Program)(B:Tb):Prop:=∀(f c:Nat) (args:List AV) (s s':St) (v:AV) (e:En) (w:World) (vs:Array Value),B.ext.at_ f=some c→B.xf c args s=some (v,s')→aZ e s w→Gl e s.next→RL e s.next args vs.toList→
 ∀{o:Oper} {a:Act} {K:Act→World→Prop} {Q:Exit→Act→World→Prop},(∀e' w' u,aW e s w e' s' w'→R e' s'.next v u→K (a.put o.dst u) w')→o.upon P a K Q ((callFunc f vs).run P w)
theorem Un:∀(l:List AV) (i:Nat) (tm:Tm) (t:Nat),(jW l i tm).g.at_ t=if i≤t∧t<i+l.length then l[t-i]? else tm.g.at_ t
 |[],i,tm,t=>by show tm.g.at_ t=_;rw[if_neg (by rintro⟨h1,h2⟩;rw[List.length_nil]at h2;omega)]
 |b::l,i,tm,t=>by
  show(jW l (i+1) ⟨tm.g.set i b,tm.l⟩).g.at_ t=_;rw[Un l (i+1)];show(if i+1≤t∧t<i+1+l.length then l[t-(i+1)]? else(tm.g.set i b).at_ t)=_;rw[T.at_set];by_cases h1:i+1≤t∧t<i+1+l.length
  ·rw[if_pos h1,if_pos (by simp;omega),show t-i=(t-(i+1))+1 by omega];rfl
  ·rw[if_neg h1];by_cases h2:i=t
   ·subst h2;rw[if_pos rfl,if_pos (by simp),Nat.sub_self];rfl
   ·exact IQ
theorem Uo:∀(l:List AV) (i:Nat) (tm:Tm),(jW l i tm).l=tm.l
 |[],_,_=>rfl
 |b::l,i,tm=>Uo l (i+1) ⟨tm.g.set i b,tm.l⟩
theorem Up [FX]{args:List AV}{vs:Array Value}(hgl:Gl e k)(hl:RL e k args vs.toList)(m:Nat):aY e k ns (jW args 0 ⟨.leaf,.nil⟩) {tmps:=vs++Array.replicate m undef,defers:=[]}:=⟨hgl,fun t=>by
 unfold bM;cases hd:ns.at_ t with
 |none=>
  show R e k (vH (jW args 0 ⟨.leaf,.nil⟩).l t) _;rw[Uo];exact trivial
 |some u=>
  show R e k (vI ((jW args 0 ⟨.leaf,.nil⟩).g.at_ t)) _;rw[Un];by_cases h:0≤t∧t<0+args.length
  ·rw[if_pos h];obtain⟨v,hv,hR⟩:=hl.at (i:=t) (a:=args[t]'(by omega)) (by rw[Nat.zero_add]at h;simp[h.2]);rw[Nat.sub_zero,List.getElem?_eq_getElem (by omega)];have hlt:t<vs.size:=by have:=hl.len;simp at this;omega
   have h2:(vs++Array.replicate m undef).getD t undef=v:=by
    rw[Array.getElem?_toList]at hv;rw[Array.getD_eq_getD_getElem?,Array.getElem?_append_left hlt,hv];rfl
   show R e k _ ((vs++Array.replicate m undef).getD t undef);rw[h2];exact hR
  ·rw[if_neg h];exact trivial⟩
def Uq(tmps:Array Value):ResultVar→Sem Value
 |.tmp t=>pure (tmps.getD t undef)
 |.cell x t=>do loadVar t (←asAddr (tmps.getD x undef))
theorem afn(fn:Func)(tmps:Array Value):results fn tmps=(do
 let vs ←fn.results.mapM (Uq tmps)
 pure (if h:vs.size=1 then vs[0]else .tuple vs)):=by
 unfold results;congr 1
theorem afo [FX](ht:bS P B)(hr:aZ e s w)(hm:aY e s.next ns tm a){r:ResultVar}{v:AV}(h:vT r ns B tm s=some v):
 ∃u,(Uq a.tmps r).run P w=.ok u w∧R e s.next v u:=by
 cases r with
 |tmp t=>
  injection (show some (ev (bM ns t) tm)=some v from h)with h1
  subst h1;exact⟨_,rfl,hm.2 t⟩
 |cell x t=>
  replace h:(Bool.rec none (EO (qk (ev (bM ns x) tm) (iS B t) (aN B t) s)) (eD B t):Option AV)=some v:=h
  cases hk:eD B t with
  |false=>rw[hk]at h;cases h
  |true=>
   rw[hk]at h
   replace h:EO (qk (ev (bM ns x) tm) (iS B t) (aN B t) s)=some v:=h
   cases hx:qk (ev (bM ns x) tm) (iS B t) (aN B t) s<;>rw[hx]at h<;>first|(cases h;done)|skip
   rename_i v2 s2;injection (show some v2=some v from h)with h1
   subst h1;obtain⟨b,o,c,m,size,et,r,l,hp,_⟩:=Ur hx;obtain⟨rfl,z,h2,h3⟩:=Us ht hr hk (hm.2 x) hx;refine⟨z,?_,h3⟩;have dK:=hm.2 x;rw[hp]at dK;obtain⟨_,gZ⟩:=dK;show(do loadVar t (←asAddr (a.tmps.getD x undef)):Sem Value).run P w=.ok z w;rw[gZ]at h2 ⊢;simpa[Instr.loadAt,Instr.sureAddr,asAddr]using h2
theorem Ut{g:ResultVar→Sem Value}(hg:∀r v,vT r ns B tm s=some v→∃u,(g r).run P w=.ok u w∧R e k v u):∀(l:List ResultVar) (avs:List AV),nE l ns B tm s=some avs→∃us,(l.mapM g).run P w=.ok us w∧RL e k avs us
 |[],avs,h=>by
  injection (show some []=some avs from h)with h1
  subst h1;exact⟨[],by rw[List.mapM_nil];rfl,rfl⟩
 |r::l,avs,h=>by
  replace h:Lz (vT r ns B tm s) (nE l ns B tm s)=some avs:=h
  cases h1:vT r ns B tm s with
  |none=>rw[h1]at h;cases h
  |some v=>
   cases h2:nE l ns B tm s with
   |none=>rw[h1,h2]at h;cases h
   |some vs=>
    rw[h1,h2]at h;injection (show some (v::vs)=some avs from h)with h3
    subst h3;obtain⟨u,h4,h5⟩:=hg r v h1;obtain⟨us,h6,h7⟩:=Ut hg l vs h2;refine⟨u::us,?_,u,us,rfl,h5,h7⟩;rw[List.mapM_cons];simp[Sem.run_bind,h4,h6]
theorem Uu [FX](ht:bS P B)(hr:aZ e s w)(hm:aY e s.next ns tm a){fn:Func}{v:AV}(h:tU (nE fn.results.toList ns B tm s)=some v):∃u,(results fn a.tmps).run P w=.ok u w∧R e s.next v u:=by
 cases hl:nE fn.results.toList ns B tm s with
 |none=>rw[hl]at h;cases h
 |some avs=>
  rw[hl]at h;obtain⟨us,h1,h2⟩:=Ut (P:=P) (w:=w) (e:=e) (k:=s.next) (fun r v hh=>afo (P:=P) ht hr hm hh) fn.results.toList avs hl;have hrun:(results fn a.tmps).run P w=.ok (if h:us.toArray.size=1 then us.toArray[0]else .tuple us.toArray) w:=by
   rw[afn,Array.mapM_eq_mapM_toList];simp only[Sem.run_bind,map_eq_pure_bind,bind_assoc,pure_bind];rw[h1];rfl
  cases avs with
  |nil=>
   cases h;rw[show us=[]from h2]at hrun;exact⟨_,hrun,#[],rfl,rfl⟩
  |cons x avs=>
   cases avs with
   |nil=>
    cases h;obtain⟨u,us',h3,h4,h5⟩:=h2;rw[show us'=[]from h5]at h3;subst h3;exact⟨u,hrun,h4⟩
   |cons y avs=>
    cases h;have hlen:=h2.len;rw[dif_neg (by simp at hlen ⊢;omega)]at hrun;exact⟨_,hrun,us.toArray,rfl,by simpa using h2⟩
def iO(e:En)(k:Nat):Md→FrameMode→Prop
 |.ret,u=>u=.returning
 |.pan v d,u=>∃x,R e k v x∧u=.panicking [{v:=x,recovered:=d}]
theorem iO.ext{k':Nat}{m:Md}{u:FrameMode}(hx:cW k e e')(hk:k≤k')(h:iO e k m u):iO e' k' m u:=by
 cases m with
 |ret=>exact h
 |pan v d=>
  obtain⟨x,h1,h2⟩:=h;exact⟨x,h1.ext hx hk,h2⟩
theorem iO.settle{m:Md}{u:FrameMode}(h:iO e k m u):iO e k (Fa m) (settle u):=by
 cases m with
 |ret=>cases h;rfl
 |pan v d=>
  obtain⟨x,h1,rfl⟩:=h;cases d with
  |false=>exact⟨x,h1,rfl⟩
  |true=>rfl
theorem iO.run{m:Md}{u:FrameMode}(h:iO e k m u):u≠.run:=by
 cases m with
 |ret=>cases h;(intro hh;cases hh)
 |pan v d=>obtain⟨x,_,rfl⟩:=h;(intro hh;cases hh)
def hY [FX](e:En)(s:St)(w:World)(Z:Ending→World→Prop):aS→Prop
 |.ret v s'=>∀e' w' x,aW e s w e' s' w'→R e' s'.next v x→Z (.returned x) w'
 |.pan v _ _ s'=>∀e' w' x,aW e s w e' s' w'→R e' s'.next v x→Z (.panicked [{v:=x,recovered:=false}]) w'
 |_=>False
theorem hY.step [FX]{e1:En}{s1:St}{w1:World}{Z:Ending→World→Prop}{r:aS}(h:aW e s w e1 s1 w1)(hq:hY e s w Z r):hY e1 s1 w1 Z r:=by
 cases r with
 |ret v s'=>exact fun e' w' x h1 h2=>hq e' w' x (h.trans h1) h2
 |pan v tm ds s'=>exact fun e' w' x h1 h2=>hq e' w' x (h.trans h1) h2
 |ok _ _ _ _=>exact hq
 |okR _ _ _ _=>exact hq
 |retR _ _=>exact hq
 |bad _=>exact hq
def ui [FX](P:Program)(B:Tb)(n:Nat):Prop:=∀(f:Nat) (fn:Func) (tm:Tm) (ds:Ds) (m:Md) (s:St) (e:En) (w:World) (tmps:Array Value) (dl:List Deferred) (u:FrameMode) (Z:Ending→World→Prop),B.fn.at_ f=some fn→
 aZ e s w→aY e s.next (cY B f) tm {tmps,defers:=[]}→mD P e s.next ds dl→iO e s.next m u→hY e s w Z (run B n (.lv f tm ds m s))→Leaves P fn tmps Z dl u w
def sS [FX](e:En)(s:St)(w:World)(Z:Ending→FrameMode→World→Prop):aS→Prop
 |.retR m s'=>∀e' w' x u,aW e s w e' s' w'→iO e' s'.next m u→Z (.returned x) u w'
 |_=>False
def Ac [FX](P:Program)(B:Tb)(n:Nat):Prop:=∀(f:Nat) (args:List AV) (m:Md) (s:St) (e:En) (w:World) (vs:Array Value) (u:FrameMode) (Z:Ending→FrameMode→World→Prop),
 aZ e s w→Gl e s.next→RL e s.next args vs.toList→iO e s.next m u→sS e s w Z (run B n (.rfn f args m s))→(callFunc f vs).run P w=.ok (.enter f vs) w∧CallsD P f vs u w Z
theorem Ga [FX](ht:bS P B){f:Nat}{fn:Func}{Z:Ending→World→Prop}(hr:aZ e s w)(hm:aY e s.next (cY B f) tm a)(h:hY e s w Z (nG f fn B tm s)):∃v,(results fn a.tmps).run P w=.ok v w∧Z (.returned v) w:=by
 unfold nG at h;cases ho:tU (nE fn.results.toList (cY B f) B tm s)with
 |none=>rw[ho]at h;exact h.elim
 |some v=>
  rw[ho]at h;obtain⟨u,h1,h2⟩:=Uu (P:=P) ht hr hm ho;exact⟨u,h1,h e w u (aW.refl hr) h2⟩
theorem afp [FX](ht:bS P B){n:Nat}(hL:ui P B n)(hR:Ac P B n):ui P B (n+1):=by
 intro f fn tm ds m s e w tmps dl u Z hf hr hm hds hmd h;cases ds with
 |nil=>
  rw[show dl=[]from hds]
  replace h:hY e s w Z (LP (B.fn.at_ f) m f B tm s):=h
  rw[hf]at h;cases m with
  |ret=>
   cases hmd;exact Ga ht hr hm h
  |pan v d=>
   cases d with
   |true=>exact h.elim
   |false=>
    obtain⟨x,hx,rfl⟩:=hmd;exact h e w x (aW.refl hr) hx
 |cons d ds=>
  obtain⟨x,xs,rfl,⟨fv,cap,vs,htar,hvs,hinv⟩,hxs⟩:=hds
  replace h:hY e s w Z (LQ (run B n (.rfn d.1 d.2 m s)) f tm ds (run B n)):=h
  have key:=hR d.1 d.2 m s e w vs u (fun
   |.returned _,u',w'=>Leaves P fn tmps Z xs (settle u') w'
   |.panicked qE,u',w'=>Leaves P fn tmps Z xs (raised u' qE) w'
   |.outgrown,_,w'=>Z .outgrown w') hr hm.1 hvs hmd (by
   cases hrun:run B n (.rfn d.1 d.2 m s)with
   |retR m2 s2=>
    rw[hrun]at h;intro e1 w1 x1 u1 h1 h2;exact hL f fn tm ds (Fa m2) s2 e1 w1 tmps xs (settle u1) Z hf h1.rep (hm.ext h1.ext h1.nx) (hxs.ext h1.ext h1.nx) h2.settle (hY.step h1 h)
   |ok _ _ _ _=>rw[hrun]at h;exact h.elim
   |ret _ _=>rw[hrun]at h;exact h.elim
   |pan _ _ _ _=>rw[hrun]at h;exact h.elim
   |okR _ _ _ _=>rw[hrun]at h;exact h.elim
   |bad _=>rw[hrun]at h;exact h.elim)
  obtain⟨xt,xa⟩:=x;simp only at htar hinv;subst htar;exact leaves_cons hmd.run ((hinv w).trans key.1) key.2
theorem FZ(ht:bS P B){f:Nat}{fn:Func}{c:Code}(hf:B.fn.at_ f=some fn)(hb:fn.body=some c)(vs:Array Value)(w:World):P.funcs[f]? =some fn∧(callFunc f vs).run P w=.ok (.enter f vs) w:=by
 obtain⟨hfn,hname⟩:=ht.fn f fn hf;refine⟨hfn,?_⟩;have ahr:¬fn.name= "runtime.NumGoroutine":=by simpa using hname
 unfold callFunc;simp[hfn,ahr,hb]
theorem Uv{f:Nat}{fn:Func}(hf:B.fn.at_ f=some fn){args:List AV}{vs:Array Value}(hl:RL e k args vs.toList)(hle:args.length≤fn.ntmps):(vs++Array.replicate (fn.ntmps-vs.size) undef).size=ew B f:=by
 have:ew B f=fn.ntmps:=by unfold ew;rw[hf]
 have hsz:vs.size=args.length:=by have:=hl.len;simpa using this
 rw[this,Array.size_append,Array.size_replicate];omega
theorem Uw [FX](ht:bS P B){n:Nat}(hC:qB P B n)(hL:ui P B n){f:Nat}{args:List AV}{vs:Array Value}{Z:Ending→World→Prop}(hr:aZ e s w)(hgl:Gl e s.next)(hl:RL e s.next args vs.toList)(h:hY e s w Z (rW (B.fn.at_ f) B (run B n) f args s)):
 (callFunc f vs).run P w=.ok (.enter f vs) w∧Calls P f vs w Z:=by
 cases hf:B.fn.at_ f with
 |none=>rw[hf]at h;exact h.elim
 |some fn=>
  rw[hf]at h
  replace h:hY e s w Z (LM fn.body fn B (run B n) f args s):=h
  cases hb:fn.body with
  |none=>rw[hb]at h;exact h.elim
  |some c=>
   rw[hb]at h
   replace h:hY e s w Z (Bool.rec (.bad [f,918]) (EY (run B n (.code c f (jW args 0 ⟨.leaf,.nil⟩) [] s)) f fn B (run B n)) (Nat.ble (cK args) fn.ntmps)):=h
   cases hle:Nat.ble (cK args) fn.ntmps with
   |false=>rw[hle]at h;exact h.elim
   |true=>
    rw[hle]at h
    replace hle:=Nat.le_of_ble_eq_true hle
    rw[gQ]at hle;obtain⟨hfn,hcall⟩:=FZ ht hf hb vs w;refine⟨hcall,calls_of_wp_defers hfn hb ?_⟩;refine(hC c f _ [] s e w _ _ hr (Up hgl hl _) (Uv hf hl hle) rfl ?_).1
    replace h:hY e s w Z (EY (run B n (.code c f (jW args 0 ⟨.leaf,.nil⟩) [] s)) f fn B (run B n)):=h
    generalize run B n (.code c f (jW args 0 ⟨.leaf,.nil⟩) [] s)=r at h;cases r with
    |ok x tm ds s1=>
     replace h:hY e s w Z (Bool.rec (.bad [f,917]) (EX f fn B (run B n) tm s1 ds) (tX x)):=h
     cases hx:tX x with
     |false=>rw[hx]at h;exact h.elim
     |true=>
      rw[hx]at h
      replace h:hY e s w Z (EX f fn B (run B n) tm s1 ds):=h
      intro e1 a1 w1 h1 h2 h3 h4;have h5:Leaves P fn a1.tmps Z a1.defers .returning w1:=by
       cases ds with
       |nil=>
        rw[show a1.defers=[]from h4];exact Ga ht h1.rep h2 (hY.step h1 h)
       |cons d ds=>exact hL f fn tm (d::ds) .ret s1 e1 w1 a1.tmps a1.defers .returning Z hf h1.rep h2 h4 rfl (hY.step h1 h)
      cases x<;>first|exact h5|cases hx
    |pan v tm ds s1=>
     replace h:hY e s w Z (LL f (run B n) v tm s1 ds):=h
     intro e1 a1 w1 u h1 h2 h3 h4 h5;show Leaves P fn a1.tmps Z a1.defers (.panicking [{v:=u,recovered:=false}]) w1;cases ds with
     |nil=>
      rw[show a1.defers=[]from h4];exact h e1 w1 u h1 h5
     |cons d ds=>exact hL f fn tm (d::ds) (.pan v false) s1 e1 w1 a1.tmps a1.defers _ Z hf h1.rep h2 h4 ⟨u,h5,rfl⟩ (hY.step h1 h)
    |ret _ _=>exact h.elim
    |okR _ _ _ _=>exact h.elim
    |retR _ _=>exact h.elim
    |bad _=>exact h.elim
theorem afq [FX](ht:bS P B)(hX:ug P B){n:Nat}(hC:qB P B n)(hL:ui P B n):qD P B (n+1):=by
 intro f args s e w vs hr hgl hl o a K Q h;have plain:De e s w o a K Q (rW (B.fn.at_ f) B (run B n) f args s)→o.upon P a K Q ((callFunc f vs).run P w):=fun h=>by
  have hz:hY e s w (fun
   |.returned v,w''=>K (a.put o.dst v) w''
   |.panicked qE,w''=>Q (.panic qE) a w''
   |.outgrown,_=>LetsOut Q) (rW (B.fn.at_ f) B (run B n) f args s):=by
   cases hrun:rW (B.fn.at_ f) B (run B n) f args s<;>rw[hrun]at h<;>exact h
  obtain⟨hcall,hZ⟩:=Uw ht hC hL hr hgl hl hz;rw[hcall,Oper.upon_enter];exact hZ
 replace h:De e s w o a K Q (EZ (B.ext.at_ f) B (run B n) f args s):=h
 cases hx:B.ext.at_ f with
 |none=>rw[hx]at h;exact plain h
 |some c=>
  rw[hx]at h
  replace h:De e s w o a K Q (LN (B.xf c args s) B (run B n) f args s):=h
  cases hp:B.xf c args s with
  |none=>rw[hp]at h;exact plain h
  |some p=>
   rw[hp]at h;exact hX f c args s p.2 p.1 e w vs hx hp hr hgl hl h
end
section
variable {e e':En} {k k':Nat} {ns:NS} {tm:Tm} {a:Act}
def Lv(e e':En):Prop:=∀b,e.lv b=true→e'.σ b=e.σ b∧e'.κ b=e.κ b∧e'.lv b=true
mutual
theorem R.lv(hx:Lv e e'):∀{a:AV} {v:Value},R e k a v→R e' k a v
 |.bot,_,_=>trivial
 |.int _ _,_,h=>h
 |.bool _,_,h=>h
 |.str _,_,h=>h
 |.lit _,_,h=>h
 |.ptr b o,_,h=>⟨⟨h.1.1,(hx b h.1.2).2.2⟩,by rw[(hx b h.1.2).1];exact h.2⟩
 |.slc b o n c,_,h=>⟨⟨⟨h.1.1.1,(hx b h.1.1.2).2.2⟩,by rw[(hx b h.1.1.2).2.1];exact h.1.2⟩,by rw[(hx b h.1.1.2).1,(hx b h.1.1.2).2.1];exact h.2⟩
 |.map b,_,h=>⟨⟨h.1.1,(hx b h.1.2).2.2⟩,by rw[(hx b h.1.2).1];exact h.2⟩
 |.agg l,_,h=>by
  obtain⟨cs,h1,h2⟩:=h;exact⟨cs,h1,RL.lv hx h2⟩
 |.tup l,_,h=>by
  obtain⟨cs,h1,h2⟩:=h;exact⟨cs,h1,RL.lv hx h2⟩
 |.ifc t a,_,h=>by
  obtain⟨u,h1,h2⟩:=h;exact⟨u,h1,R.lv hx h2⟩
 |.fn f a c,_,h=>by
  obtain⟨x,y,h1,h2,h3⟩:=h;exact⟨x,y,h1,RL.lv hx h2,RL.lv hx h3⟩
 |.cls _ _ _,_,h=>h
 |.emp,_,h=>h
theorem RL.lv(hx:Lv e e'):∀{as:List AV} {vs:List Value},RL e k as vs→RL e' k as vs
 |[],_,h=>h
 |a::as,_,h=>by
  obtain⟨v,vs,h1,h2,h3⟩:=h;exact⟨v,vs,h1,R.lv hx h2,RL.lv hx h3⟩
end
mutual
theorem R.bd:∀{a:AV} {v v':Value},R e k a v→R e' k' a v'→R e' k a v'
 |.bot,_,_,_,_=>trivial
 |.int _ _,_,_,_,h=>h
 |.bool _,_,_,_,h=>h
 |.str _,_,_,_,h=>h
 |.lit _,_,_,_,h=>h
 |.ptr b o,_,_,h,h'=>⟨⟨h.1.1,h'.1.2⟩,h'.2⟩
 |.slc b o n c,_,_,h,h'=>⟨⟨⟨h.1.1.1,h'.1.1.2⟩,h'.1.2⟩,h'.2⟩
 |.map b,_,_,h,h'=>⟨⟨h.1.1,h'.1.2⟩,h'.2⟩
 |.agg l,_,_,h,h'=>by
  exact Ux
 |.tup l,_,_,h,h'=>by
  exact Ux
 |.ifc t a,_,_,h,h'=>by
  obtain⟨u,_,h2⟩:=h;obtain⟨u',h3,h4⟩:=h';exact⟨u',h3,R.bd h2 h4⟩
 |.fn f a c,_,_,h,h'=>by
  obtain⟨x,y,_,h2,h3⟩:=h;obtain⟨x',y',h4,h5,h6⟩:=h';exact⟨x',y',h4,RL.bd h2 h5,RL.bd h3 h6⟩
 |.cls _ _ _,_,_,_,h=>h
 |.emp,_,_,_,h=>h
theorem RL.bd:∀{as:List AV} {vs vs':List Value},RL e k as vs→RL e' k' as vs'→RL e' k as vs'
 |[],_,_,_,h=>h
 |a::as,_,_,h,h'=>by
  obtain⟨v,vs,_,h2,h3⟩:=h;obtain⟨v',vs',h4,h5,h6⟩:=h';exact⟨v',vs',h4,R.bd h2 h5,RL.bd h3 h6⟩
end
theorem dZ.lv [FX](hx:Lv e e'):∀{ps:List (AV×AV)} {l:List (Value×Value)},dZ e k ps l→dZ e' k ps l
 |[],_,h=>h
 |p::ps,_,h=>by
  obtain⟨u,v,r,h1,h2,h3,h4⟩:=h;exact⟨u,v,r,h1,h2.lv hx,h3.lv hx,h4.lv hx⟩
theorem dZ.mem:∀{ps:List (AV×AV)} {l:List (Value×Value)},dZ e k ps l→∀p∈ps,(∃u,R e k p.1 u)∧∃v,R e k p.2 v
 |[],_,_,p,hp=>by simp at hp
 |q::ps,_,h,p,hp=>by
  obtain⟨u,v,r,_,h2,h3,h4⟩:=h;rcases List.mem_cons.1 hp with rfl|hp
  ·exact⟨⟨u,h2⟩,v,h3⟩
  ·exact h4.mem p hp
theorem dZ.bd2 [FX]:∀{ps:List (AV×AV)} {l:List (Value×Value)},dZ e' k' ps l→(∀p∈ps,(∃u,R e k p.1 u)∧∃v,R e k p.2 v)→dZ e' k ps l
 |[],_,h,_=>h
 |p::ps,_,h,hb=>by
  obtain⟨u',v',r',h5,h6,h7,h8⟩:=h;obtain⟨⟨u,h1⟩,v,h2⟩:=hb p (by simp);exact⟨u',v',r',h5,h1.bd h6,h2.bd h7,h8.bd2 fun q hq=>hb q (by simp[hq])⟩
theorem RO.lv [FX](hx:Lv e e'){b:Nat}(hb:e'.κ b=e.κ b){o:bk}{r:Obj}(h:RO e k b o r):RO e' k b o r:=by
 cases o with
 |cells c n size t room=>
  obtain⟨cs,fz,h1,h2,h3,h4,h5⟩:=h;refine⟨cs,fz,h1,h2,by rw[hb];exact h3,by rw[hb];exact h4,fun i l hi=>?_⟩;obtain⟨h6,h7,h8⟩:=h5 i l hi;refine⟨h6,h7,fun j a hj=>?_⟩;obtain⟨h11,v,h9,h10⟩:=h8 j a hj;exact⟨h11,v,h9,h10.lv hx⟩
 |map kk es=>
  obtain⟨ents,clock,es',h1,h2,h3⟩:=h;exact⟨ents,clock,es',h1,h2.lv hx,h3⟩
 |siter l p=>exact h
theorem RO.bd [FX]{b:Nat}{o:bk}{r r':Obj}(h:RO e k b o r)(h':RO e' k' b o r'):RO e' k b o r':=by
 cases o with
 |cells c n size t room=>
  obtain⟨cs,fz,_,_,_,_,h5⟩:=h;obtain⟨cs',fz',h1',h2',h3',h4',h5'⟩:=h';refine⟨cs',fz',h1',h2',h3',h4',fun i l hi=>?_⟩;obtain⟨_,_,h8⟩:=h5 i l hi;obtain⟨h6',h7',h8'⟩:=h5' i l hi;refine⟨h6',h7',fun j a hj=>?_⟩;obtain⟨_,v,_,h10⟩:=h8 j a hj;obtain⟨h11',v',h9',h10'⟩:=h8' j a hj;exact⟨h11',v',h9',h10.bd h10'⟩
 |map kk es=>
  obtain⟨ents,clock,es1,_,h2,h3⟩:=h;obtain⟨ents',clock',es2,h1',h2',h3'⟩:=h';exact⟨ents',clock',es2,h1',h2'.bd2 fun p hp=>h2.mem p (h3.1.1.mem_iff.1 (h3'.1.1.mem_iff.2 hp)),h3'⟩
 |siter l p=>exact h'
theorem RO.mono [FX](hk:k≤k'){b:Nat}{o:bk}{r:Obj}(h:RO e k b o r):RO e k' b o r:=by
 cases o with
 |cells c n size t room=>
  obtain⟨cs,fz,h1,h2,h3,h4,h5⟩:=h;refine⟨cs,fz,h1,h2,h3,h4,fun i l hi=>?_⟩;obtain⟨h6,h7,h8⟩:=h5 i l hi;refine⟨h6,h7,fun j a hj=>?_⟩;obtain⟨h11,v,h9,h10⟩:=h8 j a hj;exact⟨h11,v,h9,h10.ext (cW.refl _ _) hk⟩
 |map kk es=>
  obtain⟨ents,clock,es',h1,h2,h3⟩:=h;exact⟨ents,clock,es',h1,h2.ext (cW.refl _ _) hk,h3⟩
 |siter l p=>exact h
def En.mix(e e':En)(lo hi:Nat):En:=⟨fun b=>if lo≤b∧b<hi then e'.σ b else e.σ b,fun b=>if lo≤b∧b<hi then e'.κ b else e.κ b,fun b=>if lo≤b∧b<hi then e'.lv b else e.lv b,e.fx⟩
theorem afr{lo hi b:Nat}(h:lo≤b∧b<hi):(e.mix e' lo hi).σ b=e'.σ b∧(e.mix e' lo hi).κ b=e'.κ b∧(e.mix e' lo hi).lv b=e'.lv b:=by simp[En.mix,h]
theorem xT{lo hi b:Nat}(h:¬(lo≤b∧b<hi)):(e.mix e' lo hi).σ b=e.σ b∧(e.mix e' lo hi).κ b=e.κ b∧(e.mix e' lo hi).lv b=e.lv b:=by
 unfold En.mix;simp only[if_neg h,and_self]
theorem afs [FX]{lo hi:Nat}(h:cW lo e e'):cW hi e' (e.mix e' lo hi):=fun b hb=>by
 by_cases hl:lo≤b
 ·exact afr ⟨hl,hb⟩
 ·obtain⟨h1,h2,h3⟩:=xT (e:=e) (e':=e') (lo:=lo) (hi:=hi) (b:=b) (fun hh=>hl hh.1);obtain⟨h4,h5,h6⟩:=h b (by omega);exact⟨h1.trans h4.symm,h2.trans h5.symm,h3.trans h6.symm⟩
theorem aft [FX]{lo hi:Nat}(h:∀b,lo≤b→b<hi→e.lv b=false):Lv e (e.mix e' lo hi):=fun b hb=>by
 obtain⟨h1,h2,h3⟩:=xT (e:=e) (e':=e') (lo:=lo) (hi:=hi) (b:=b) (fun hh=>by rw[h b hh.1 hh.2]at hb;cases hb);exact⟨h1,h2,h3.trans hb⟩
end
theorem xU(m n:Nat):cL m n=m.testBit n:=by
 unfold cL Nat.testBit;show Nat.beq (1 &&& (m >>> n)) 1=((1 &&& (m >>> n)) != 0);rw[Nat.one_and_eq_mod_two];have:(m >>> n)% 2<2:=Nat.mod_lt _ (by omega);generalize(m >>> n)% 2=x at *;have:x=0∨x=1:=by omega
 rcases this with rfl|rfl<;>rfl
theorem Dh [FX](m n x:Nat):cL (Nat.lor m n) x=(cL m x||cL n x):=by
 rw[xU,xU,xU];exact Nat.testBit_or m n x
theorem Uy [FX](d x:Nat):cL (Nat.shiftLeft 1 d) x=decide (d=x):=by
 rw[xU];show(1 <<< d).testBit x=_;rw[Nat.one_shiftLeft,Nat.testBit_two_pow]
theorem Uz(a:Nat):∀l:List Nat,tT a l=true↔a∈l
 |[]=>by simp[tT]
 |b::l=>by
  show(Bool.rec (tT a l) true (Nat.beq a b):Bool)=true↔_;cases hb:Nat.beq a b with
  |true=>have:=Nat.eq_of_beq_eq_true hb;subst this;simp
  |false=>have:=Nat.ne_of_beq_eq_false hb;simp[this,Uz a l]
theorem xV [FX]:∀{l m:List Nat},vW l m=true→∀b,b∈l→b∉m
 |[],m,_,b,hb=>by simp at hb
 |a::l,m,h,b,hb=>by
  replace h:(!(tT a m)&&vW l m)=true:=h
  rw[Bool.and_eq_true]at h;rcases List.mem_cons.1 hb with rfl|hb
  ·intro hm;rw[(Uz b m).2 hm]at h;simp at h
  ·exact xV h.2 b hb
theorem oE(f:Rc→List Nat):∀{rs:List Rc} {b:Nat},b∈iT f rs↔∃r∈rs,b∈f r
 |[],b=>by simp[iT]
 |r::rs,b=>by
  show b∈iD (f r) (iT f rs)↔_;rw[qY,List.mem_append,oE f];simp
theorem xW{α:Type}{p:α→Bool}:∀{l:List α},(!(tV p l))=true→∀x∈l,p x=false
 |[],_,x,hx=>by simp at hx
 |a::l,h,x,hx=>by
  replace h:(!(p a||tV p l))=true:=h
  rw[Bool.not_or,Bool.and_eq_true]at h;rcases List.mem_cons.1 hx with rfl|hx
  ·simpa using h.1
  ·exact xW h.2 x hx
theorem xX{pre:Nat}:∀{rs:List Rc} {r:Rc},r∈cI pre rs↔r∈rs∧cL pre r.ix=false
 |[],r=>by simp[cI]
 |q::rs,r=>by
  show r∈(Bool.rec (q::cI pre rs) (cI pre rs) (cL pre q.ix):List Rc)↔_;cases hb:cL pre q.ix with
  |true=>
   show r∈cI pre rs↔_;rw[xX,List.mem_cons];constructor
   ·rintro⟨h1,h2⟩;exact⟨.inr h1,h2⟩
   ·rintro⟨rfl|h1,h2⟩
    ·rw[hb]at h2;cases h2
    ·exact⟨h1,h2⟩
  |false=>
   show r∈q::cI pre rs↔_;rw[List.mem_cons,List.mem_cons,xX];constructor
   ·rintro(rfl|⟨h1,h2⟩)
    ·exact⟨.inl rfl,hb⟩
    ·exact⟨.inr h1,h2⟩
   ·rintro⟨rfl|h1,h2⟩
    ·exact .inl rfl
    ·exact .inr ⟨h1,h2⟩
theorem UA:∀{n lo b:Nat},b∈nF lo n↔lo≤b∧b<lo+n
 |0,lo,b=>by
  show b∈([]:List Nat)↔_;simp
 |n+1,lo,b=>by
  show b∈lo::nF (lo+1) n↔_;rw[List.mem_cons,UA];omega
theorem rh(src:T bk):∀(l:List Nat) (dst:T bk) (b:Nat),(gf src l dst).at_ b=if b∈l then src.at_ b else dst.at_ b
 |[],dst,b=>by show dst.at_ b=_;simp
 |a::l,dst,b=>by
  show((gf src l dst).setP (iC a) (src.at_ a)).get (iC b)=_;rw[T.get_setP];by_cases h:a=b
  ·subst h;simp
  ·rw[if_neg (fun hh=>h (xK hh))];show(gf src l dst).at_ b=_;rw[rh src l dst b];have:b≠a:=fun hh=>h hh.symm
   simp[this]
theorem Jk(base:Nat)(acc:List Nat):∀l:List Nat,∃m,jj base l acc=m++acc∧∀b,b∈l→b<base→b∈m
 |[]=>⟨[],rfl,fun b hb=>by simp at hb⟩
 |a::l=>by
  obtain⟨m,h1,h2⟩:=Jk base acc l;show ∃m,(Bool.rec (jj base l acc) (a::jj base l acc) (Nat.ble (a+1) base):List Nat)=m++acc∧_;cases hb:Nat.ble (a+1) base with
  |true=>
   refine⟨a::m,by rw[show(Bool.rec (jj base l acc) (a::jj base l acc) true:List Nat)=a::jj base l acc from rfl,h1];rfl,fun b hm hlt=>?_⟩;rcases List.mem_cons.1 hm with rfl|hm
   ·simp
   ·simp[h2 b hm hlt]
  |false=>
   refine⟨m,h1,fun b hm hlt=>?_⟩;rcases List.mem_cons.1 hm with rfl|hm
   ·have:Nat.ble (b+1) base=true:=Nat.ble_eq_true_of_le hlt;rw[hb]at this;cases this
   ·exact h2 b hm hlt
theorem Jl{b:Bool}{n:List Nat}{x r:aS}(h:(Bool.rec (.bad n) x b:aS)=r)(hr:∀m,r≠.bad m):b=true∧x=r:=by
 cases b with
 |true=>exact⟨rfl,h⟩
 |false=>exact absurd h.symm (hr n)
section
variable {P:Program} {ops:Array Oper} {Q:Exit→Act→World→Prop} {md:Region.Mode}
def gi(ops:Array Oper)(listed:Array Bool):Nat:=((List.range ops.size).filter fun j=>!listed.getD j false).length
theorem rZ{listed:Array Bool}{j:Nat}(h:listed.getD j true=false):listed.getD j false=false∧j<listed.size:=by
 rcases Nat.lt_or_ge j listed.size with h'|h'
 ·simp[h']at h ⊢;exact h
 ·simp[Array.getElem?_eq_none h']at h
theorem FF{listed:Array Bool}{j:Nat}(h:listed.getD j false=false)(hj:j<listed.size):listed.getD j true=false:=by
 simp[hj]at h ⊢;exact h
theorem zZ{listed:Array Bool}{j:Nat}(hj:j<listed.size):(listed.setIfInBounds j true).getD j false=true:=by simp[hj]
theorem rY [FX]{listed:Array Bool}{j:Nat}(hj:j<ops.size)(h:listed.getD j true=false):gi ops (listed.setIfInBounds j true)<gi ops listed:=by
 obtain⟨hf,hs⟩:=rZ h;have e:((List.range ops.size).filter fun i=>!(listed.setIfInBounds j true).getD i false)=((List.range ops.size).filter fun i=>!listed.getD i false).filter fun i=>decide (i≠j):=by
  rw[List.filter_filter];apply List.filter_congr;intro i _;by_cases hij:i=j
  ·subst hij;rw[zZ hs];simp
  ·rw[getD_set_ne false (Ne.symm hij)];simp[hij]
 unfold gi;rw[e,List.length_filter_lt_length_iff_exists];exact⟨j,List.mem_filter.2 ⟨List.mem_range.2 hj,by rw[hf];rfl⟩,by simp⟩
def ph(md:Region.Mode)(ops:Array Oper)(listed:Array Bool):Prop:=∀i o,ops[i]? =some o→listed.getD i false=true→∀e∈o.after,Region.binds md e=true→listed.getD e.on false=true
theorem FG [FX](hwf:∀j o,ops[j]? =some o→∀e∈o.after,Region.binds md e=true→e.on<j){listed:Array Bool}(hs:listed.size=ops.size)(hr:Region.ready md ops listed=[]):∀j,j<ops.size→listed.getD j false=true:=by
 intro j
 induction j using Nat.strongRecOn with
 |ind j ih=>
  intro hj;cases hl:listed.getD j false with
  |true=>rfl
  |false=>
   have:j∈Region.ready md ops listed:=mem_ready.2 ⟨FF hl (by omega),ops[j],by simp[hj],fun e he hb=>by
    have hlt:=hwf j ops[j] (by simp[hj]) e he hb;exact ih e.on hlt (by omega)⟩
   rw[hr]at this;cases this
theorem wA [FX](I:Array Bool→Act→World→Prop)(hwf:∀j o,ops[j]? =some o→∀e∈o.after,Region.binds md e=true→e.on<j)
 (hstep:∀listed a w j o,I listed a w→listed.size=ops.size→ops[j]? =some o→listed.getD j false=false→(∀e∈o.after,Region.binds md e=true→listed.getD e.on false=true)→ph md ops listed→wpOp P ops Q j (fun a' w'=>I (listed.setIfInBounds j true) a' w') a w)
 (hend:∀listed a w,I listed a w→(∀j,j<ops.size→listed.getD j false=true)→Q .normal a w):
 ∀(n:Nat) (listed:Array Bool) (a:Act) (w:World),listed.size=ops.size→ph md ops listed→gi ops listed≤n→I listed a w→wpAny P md ops Q n listed a w
 |0,listed,a,w,_,_,hn,hI=>by
  have hall:∀j,j<ops.size→listed.getD j false=true:=fun j hj=>by
   cases hl:listed.getD j false with
   |true=>rfl
   |false=>
    have:j∈(List.range ops.size).filter fun j=>!listed.getD j false:=List.mem_filter.2 ⟨List.mem_range.2 hj,by rw[hl];rfl⟩
    have:=List.length_pos_of_mem this;unfold gi at hn;omega
  refine⟨?_,hend _ _ _ hI hall⟩;apply List.eq_nil_iff_forall_not_mem.2;intro j hj;obtain⟨h0,o,ho,_⟩:=mem_ready.1 hj;have:=hall j (Array.getElem?_eq_some_iff.1 ho).1;rw[(rZ h0).1]at this;cases this
 |n+1,listed,a,w,hs,hc,hn,hI=>by
  refine⟨fun hr=>hend _ _ _ hI (FG hwf hs hr),fun j hj=>?_⟩;obtain⟨h0,o,ho,hall⟩:=mem_ready.1 hj;have hjs:j<ops.size:=(Array.getElem?_eq_some_iff.1 ho).1;refine wpOp_mono (fun a' w' h=>wA I hwf hstep hend n _ a' w' (by simpa using hs) ?_ ?_ h) (hstep listed a w j o hI hs ho (rZ h0).1 hall hc)
  ·intro i o' ho' hi e he hb;by_cases hij:i=j
   ·subst hij;rw[ho]at ho';cases ho';exact getD_set_true (hall e he hb)
   ·rw[getD_set_ne false (Ne.symm hij)]at hi;exact getD_set_true (hc i o' ho' hi e he hb)
  ·have:=rY (ops:=ops) hjs h0;omega
theorem FH [FX]{id:Nat}{a:Act}{w:World}(hm:P.follows .mixedOrders=true)(I:Array Bool→Act→World→Prop)(hwf:∀j o,ops[j]? =some o→∀e∈o.after,Region.binds .any e=true→e.on<j)
 (hstep:∀listed a w j o,I listed a w→listed.size=ops.size→ops[j]? =some o→listed.getD j false=false→(∀e∈o.after,Region.binds .any e=true→listed.getD e.on false=true)→ph .any ops listed→wpOp P ops Q j (fun a' w'=>I (listed.setIfInBounds j true) a' w') a w)
 (hend:∀listed a w,I listed a w→(∀j,j<ops.size→listed.getD j false=true)→Q .normal a w)
 (h:I (Array.replicate ops.size false) a w.drew):(Code.region id ops true).wp P Q a w:=
 wp_region_any hm (wA I hwf hstep hend _ _ _ _ (by simp) (fun i o _ hi=>by
  exfalso;rcases Nat.lt_or_ge i ops.size with h'|h'
  ·simp[h']at hi
  ·simp[h']at hi) (by unfold gi;exact Nat.le_trans (List.length_filter_le _ _) (by simp)) h)
theorem afu{i:Nat}{K:Act→World→Prop}{a:Act}{w:World}(h:wpOp P ops (fun _ _ _=>False) i K a w):∃a' w',K a' w':=by
 unfold wpOp at h;split at h
 ·exact⟨_,_,h⟩
 ·rename_i o ho;split at h
  ·rcases h with h|⟨_,_,_,h⟩
   ·unfold Oper.wp at h;generalize(execOp a.eval o).run P w=r at h;cases r with
    |ok n w'=>
     cases n<;>simp only[Oper.upon]at h<;>first|exact⟨_,_,h⟩|skip
     ·obtain⟨en,w2,fr,h1,_⟩:=h [];cases en with
      |returned v=>exact⟨_,_,h1⟩
      |panicked c=>exact h1.elim
      |outgrown=>obtain⟨_,_,h2⟩:=h1;exact h2.elim
     ·obtain⟨v,w2,h1,_⟩:=h default [];exact⟨_,_,h1⟩
    |halt x w'=>cases x<;>simp only[Oper.upon]at h
   ·exact h.elim
  ·exact⟨_,_,h⟩
end
section
variable {ops:Array Oper}
noncomputable def cn(ops:Array Oper):Nat→T Nat
 |0=>.leaf
 |i+1=>match ops[i]? with
  |some o=>pe (cX (cn ops i) o.after.toList) i (cn ops i)
  |none=>cn ops i
theorem xY{i:Nat}{o:Oper}(h:ops[i]? =some o):cn ops (i+1)=pe (cX (cn ops i) o.after.toList) i (cn ops i):=by
 simp only[cn,h]
theorem vh [FX]:∀{i j p:Nat},(cn ops i).at_ j=some p→j<i∧∃o,ops[j]? =some o∧cX (cn ops j) o.after.toList=some p
 |0,j,p,h=>by rw[show cn ops 0=.leaf from rfl,T.at_leaf]at h;cases h
 |i+1,j,p,h=>by
  cases ho:ops[i]? with
  |none=>
   simp only[cn,ho]at h;obtain⟨h1,h2⟩:=vh h;exact⟨by omega,h2⟩
  |some o=>
   rw[xY ho]at h;cases hp:cX (cn ops i) o.after.toList with
   |none=>
    rw[hp]at h;obtain⟨h1,h2⟩:=vh (show(cn ops i).at_ j=some p from h);exact⟨by omega,h2⟩
   |some q=>
    rw[hp]at h
    replace h:((cn ops i).set i q).at_ j=some p:=h
    rw[T.at_set]at h;by_cases hij:i=j
    ·subst hij;rw[if_pos rfl]at h;cases h;exact⟨by omega,o,ho,hp⟩
    ·rw[if_neg hij]at h;obtain⟨h1,h2⟩:=vh h;exact⟨by omega,h2⟩
theorem xZ [FX]{ps:T Nat}:∀{l:List Edge} {p:Nat},cX ps l=some p→(∀e∈l,Region.binds .any e=true→∃q,ps.at_ e.on=some q)∧∀x,cL p x=true→∃e∈l,Region.binds .any e=true∧∃q,ps.at_ e.on=some q∧(x=e.on∨cL q x=true)
 |[],p,h=>by
  injection (show some 0=some p from h)with h
  subst h;refine⟨fun e he=>by simp at he,fun x hx=>?_⟩;rw[xU,Nat.zero_testBit]at hx;cases hx
 |e::l,p,h=>by
  replace h:(Bool.rec (cX ps l) (EL (ps.at_ e.on) (cX ps l) e.on) (Region.binds .any e):Option Nat)=some p:=h
  cases hb:Region.binds .any e with
  |false=>
   rw[hb]at h;obtain⟨h1,h2⟩:=xZ (show cX ps l=some p from h);refine⟨fun e' he' hb'=>?_,fun x hx=>?_⟩
   ·rcases List.mem_cons.1 he' with rfl|he'
    ·rw[hb]at hb';cases hb'
    ·exact h1 e' he' hb'
   ·exact UB
  |true=>
   rw[hb]at h
   replace h:EL (ps.at_ e.on) (cX ps l) e.on=some p:=h
   cases hq:ps.at_ e.on with
   |none=>rw[hq]at h;cases h
   |some q=>
    cases hp:cX ps l with
    |none=>rw[hq,hp]at h;cases h
    |some p'=>
     rw[hq,hp]at h;injection (show some (Nat.lor (Nat.lor q (Nat.shiftLeft 1 e.on)) p')=some p from h)with h
     subst h;obtain⟨h1,h2⟩:=xZ hp;refine⟨fun e' he' hb'=>?_,fun x hx=>?_⟩
     ·rcases List.mem_cons.1 he' with rfl|he'
      ·exact⟨q,hq⟩
      ·exact h1 e' he' hb'
     ·rw[Dh,Dh,Uy,Bool.or_eq_true,Bool.or_eq_true]at hx;rcases hx with(hx|hx)|hx
      ·exact⟨e,by simp,hb,q,hq,.inr hx⟩
      ·exact⟨e,by simp,hb,q,hq,.inl (of_decide_eq_true hx).symm⟩
      ·exact UB
theorem yc [FX]{listed:Array Bool}(hc:ph .any ops listed):∀(i:Nat) {o:Oper} {p x:Nat},ops[i]? =some o→cX (cn ops i) o.after.toList=some p→(∀e∈o.after,Region.binds .any e=true→listed.getD e.on false=true)→cL p x=true→listed.getD x false=true∧x<i:=by
 intro i
 induction i using Nat.strongRecOn with
 |ind i ih=>
  intro o p x ho hp hall hx;obtain⟨e,h1,h2,q,h3,h4⟩:=(xZ hp).2 x hx;have he:=hall e (by simpa using h1) h2;obtain⟨h5,o',h6,h7⟩:=vh h3;rcases h4 with rfl|h4
  ·exact⟨he,h5⟩
  ·obtain⟨h8,h9⟩:=ih e.on h5 h6 h7 (fun e' he' hb'=>hc e.on o' h6 he e' he' hb') h4;exact⟨h8,by omega⟩
end
end Go.Proofs.YtlpombjidhloiaaGreat.Eng
