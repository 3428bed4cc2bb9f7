/- A deferred function by the runner. A region that draws its order. Condition: what each theorem says. -/
import Derived.Test.YtlpombjidhloiaaGreatBbi
namespace Go.Proofs.YtlpombjidhloiaaGreat.Eng
section
variable {P:Program} {B:Tb} {e e':En} {s s':St} {w:World} {ns:NS} {nt:Nat} {tm tm':Tm} {a:Act} {k:Nat} {ex:Ex} {c₀:Frame} {cs:List Frame} {Q:Exit→Act→List Frame→World→Prop}
def gq [FX](ns:NS)(nt:Nat)(e:En)(s:St)(w:World)(c₀:Frame)(cs:List Frame)(Q:Exit→Act→List Frame→World→Prop):aS→Prop
 |.okR ex tm' m' s'=>∀e' a' w' u',aW e s w e' s' w'→aY e' s'.next ns tm' a'→a'.tmps.size=nt→a'.defers=[]→iO e' s'.next m' u'→Q ex.out a' ({c₀ with mode:=u'}::cs) w'
 |_=>False
theorem gq.step [FX]{e1:En}{s1:St}{w1:World}{r:aS}(h:aW e s w e1 s1 w1)(hq:gq ns nt e s w c₀ cs Q r):gq ns nt e1 s1 w1 c₀ cs Q r:=by
 cases r with
 |okR ex tm' m' s'=>exact fun e' a' w' u' h1=>hq e' a' w' u' (h.trans h1)
 |ok _ _ _ _=>exact hq
 |ret _ _=>exact hq
 |pan _ _ _ _=>exact hq
 |retR _ _=>exact hq
 |bad _=>exact hq
def wB [FX](P:Program)(B:Tb)(n:Nat):Prop:=∀(ns:NS) (nt:Nat) (ops:Array Oper) (l:List Oper) (i:Nat) (tm:Tm) (m:Md) (s:St) (e:En) (w:World) (a:Act) (c₀:Frame) (cs:List Frame) (u:FrameMode) (Q:Exit→Act→List Frame→World→Prop),
 ops.toList.drop i=l→aZ e s w→aY e s.next ns tm a→a.tmps.size=nt→a.defers=[]→iO e s.next m u→gq ns nt e s w c₀ cs Q (run B n (.rops (bZ (fo B ns nt ops.toList) l) tm m s))→
 wpOpsS P ops Q (List.range' i l.length) a ({c₀ with mode:=u}::cs) w
def wC [FX](P:Program)(B:Tb)(n:Nat):Prop:=∀(c:Code) (f:Nat) (tm:Tm) (m:Md) (s:St) (e:En) (w:World) (a:Act) (c₀:Frame) (cs:List Frame) (u:FrameMode) (Q:Exit→Act→List Frame→World→Prop),
 aZ e s w→aY e s.next (cY B f) tm a→a.tmps.size=ew B f→a.defers=[]→iO e s.next m u→gq (cY B f) (ew B f) e s w c₀ cs Q (run B n (.rcode c f tm m s))→c.wpS P Q a ({c₀ with mode:=u}::cs) w
theorem afF{m:Md}{u:FrameMode}(h:iO e k m u):(∃x u',recoverD ({c₀ with mode:=u}::cs)=some (x,{c₀ with mode:=u'}::cs)∧R e k (qw m).1 x∧iO e k (qw m).2 u')∨(recoverD ({c₀ with mode:=u}::cs)=none∧R e k (qw m).1 .nilIface∧iO e k (qw m).2 u):=by
 cases m with
 |ret=>cases h;exact .inr ⟨rfl,rfl,rfl⟩
 |pan v d=>
  obtain⟨x,hx,rfl⟩:=h;cases d with
  |false=>exact .inl ⟨x,.panicking [{v:=x,recovered:=true}],rfl,hx,x,hx,rfl⟩
  |true=>exact .inr ⟨rfl,rfl,x,hx,rfl⟩
theorem afD [FX](ht:bS P B){n:Nat}(hO:wB P B n)(hF:qD P B n):wB P B (n+1):=by
 intro ns nt ops l i tm m s e w a c₀ cs u Q hl hr hm hsz hds hmd h;cases l with
 |nil=>exact h e a w u (aW.refl hr) hm hsz hds hmd
 |cons o l=>
  have hlt:i<ops.size:=by
   rcases Nat.lt_or_ge i ops.size with h1|h1
   ·exact h1
   ·exact Di
  have ho:ops[i]? =some o:=by
   have h1:(ops.toList.drop i)[0]? =some o:=by rw[hl];rfl
   exact Dk
  have je:ops.toList.drop (i+1)=l:=by
   exact Dl
  rw[List.length_cons,List.range'_succ]
  replace h:gq ns nt e s w c₀ cs Q (LY (nD (Option.rec none (qt ns ops.toList) o.guard) tm) (fo B ns nt ops.toList o) (run B n) (bZ (fo B ns nt ops.toList) l) tm m s):=h
  cases hw:nD (Option.rec none (qt ns ops.toList) o.guard) tm with
  |none=>rw[hw]at h;exact h.elim
  |some b=>
   rw[hw]at h;have hwant:=vf (ops:=ops) hm hw;simp only[wpOpsS,ho,hwant];cases b with
   |false=>
    rw[if_neg (by decide)]
    replace h:gq ns nt e s w c₀ cs Q (run B n (.rops (bZ (fo B ns nt ops.toList) l) (put (md ns o.dst) und tm) m s)):=h
    exact hO ns nt ops l (i+1) _ m s e w _ c₀ cs u Q je hr (hm.put rf (fun d _=>.inr ⟨rfl,rfl⟩)) (by rw[jZ];exact hsz) (by rw[kG];exact hds) hmd h
   |true=>
    rw[if_pos rfl]
    replace h:gq ns nt e s w c₀ cs Q (LX (fS (kF nt (cmp ns o.op B) o.dst) tm s) (kF nt (cmp ns o.op B) o.dst) (run B n) (bZ (fo B ns nt ops.toList) l) (md ns o.dst) tm m):=h
    have hne:kF nt (cmp ns o.op B) o.dst≠.none:=by intro hh;rw[hh]at h;exact h
    obtain⟨hdc,kK⟩:=Df rfl hne;rw[hdc]at h;have hput:∀d,o.dst=some d→d<a.tmps.size:=fun d hd=>by rw[hsz];exact kK d hd
    cases hx:fS (cmp ns o.op B) tm s with
    |val v s1=>
     rw[hx]at h
     replace h:gq ns nt e s w c₀ cs Q (run B n (.rops (bZ (fo B ns nt ops.toList) l) (put (md ns o.dst) v tm) m s1)):=h
     obtain⟨e1,w1,nx,h1,h2,h3⟩:=Jh ht hr hm hx;rw[h1];have hrest:∀x,R e1 s1.next v x→wpOpsS P ops Q (List.range' (i+1) l.length) (a.put o.dst x) ({c₀ with mode:=u}::cs) w1:=fun x hx=>
      hO ns nt ops l (i+1) _ m s1 e1 w1 _ c₀ cs u Q je h2.rep ((hm.ext h2.ext h2.nx).put hx (fun d hd=>.inl (hput d hd))) (by rw[jZ];exact hsz) (by rw[kG];exact hds) (hmd.ext h2.ext h2.nx) (h.step h2)
     rcases h3 with⟨x,rfl,hu⟩|⟨rfl,rfl⟩
     ·exact hrest x hu
     ·exact hrest undef rf
    |call f args s1=>
     rw[hx]at h
     replace h:gq ns nt e s w c₀ cs Q (Bool.rec (.bad [916]) (Fe (run B n (.fn f args s1)) (run B n) (bZ (fo B ns nt ops.toList) l) (md ns o.dst) tm m) (iG (cmp ns o.op B))):=h
     cases hb:iG (cmp ns o.op B)with
     |false=>rw[hb]at h;exact h.elim
     |true=>
      rw[hb]at h;obtain⟨g,as,gI⟩:=Jj hb;cases vg gI rfl with
      |call c x hop hcal dy=>
       rw[gI,dy]at hx;obtain⟨rfl,vs,hvs,hexec⟩:=Db (P:=P) (w:=w) hm hop hcal hx;rw[hexec];have hup:o.upon P a (fun a' w'=>wpOpsS P ops Q (List.range' (i+1) l.length) a' ({c₀ with mode:=u}::cs) w') (fun e a' w'=>Q e a' ({c₀ with mode:=u}::cs) w') ((callFunc f vs).run P w):=by
        refine hF f args s e w vs hr hm.1 hvs ?_
        replace h:gq ns nt e s w c₀ cs Q (Fe (run B n (.fn f args s)) (run B n) (bZ (fo B ns nt ops.toList) l) (md ns o.dst) tm m):=h
        generalize run B n (.fn f args s)=r at h;cases r with
        |ret v s2=>
         exact fun e1 w1 x h1 hu=>hO ns nt ops l (i+1) _ m s2 e1 w1 _ c₀ cs u Q je h1.rep ((hm.ext h1.ext h1.nx).put hu (fun d hd=>.inl (hput d hd))) (by rw[jZ];exact hsz) (by rw[kG];exact hds) (hmd.ext h1.ext h1.nx) (gq.step h1 h)
        |pan _ _ _ _=>exact h.elim
        |ok _ _ _ _=>exact h.elim
        |okR _ _ _ _=>exact h.elim
        |retR _ _=>exact h.elim
        |bad _=>exact h.elim
       generalize(callFunc f vs).run P w=r2 at hup;cases r2 with
       |ok nx w2=>cases nx<;>first|exact hup.elim|exact hup
       |halt x w2=>exact hup
      |defer c x _ _ dy=>cases dy
      |panic x _ dy=>cases dy
      |recov c _ _ dy=>cases dy
    |recov s1=>
     rw[hx]at h
     replace h:gq ns nt e s w c₀ cs Q (Bool.rec (.bad [914]) (run B n (.rops (bZ (fo B ns nt ops.toList) l) (put (md ns o.dst) (qw m).1 tm) (qw m).2 s1)) (Nat.beq (pf (cmp ns o.op B)) 4)):=h
     cases hb:Nat.beq (pf (cmp ns o.op B)) 4 with
     |false=>rw[hb]at h;exact h.elim
     |true=>
      rw[hb]at h;have ha:Dg (cmp ns o.op B)=true:=by cases gI:cmp ns o.op B<;>rw[gI]at hb<;>first|rfl|cases hb
      cases vg rfl ha with
      |recov c hop hcal dy=>
       rw[dy]at hx;injection (show Nx.recov s=.recov s1 from hx)with hx
       subst hx;have hexec:(execOp a.eval o).run P w=.ok .recover w:=by
        unfold execOp;rw[hop];simp[resolve,hcal,invoke,builtin]
       rw[hexec];rcases afF (c₀:=c₀) (cs:=cs) hmd with⟨x,u',h1,h2,h3⟩|⟨h1,h2,h3⟩
       ·simp only[h1];exact hO ns nt ops l (i+1) _ _ s e w _ c₀ cs u' Q je hr (hm.put h2 (fun d hd=>.inl (hput d hd))) (by rw[jZ];exact hsz) (by rw[kG];exact hds) h3 h
       ·simp only[h1];exact hO ns nt ops l (i+1) _ _ s e w _ c₀ cs u Q je hr (hm.put h2 (fun d hd=>.inl (hput d hd))) (by rw[jZ];exact hsz) (by rw[kG];exact hds) h3 h
      |call c x _ _ dy=>rw[dy]at hb;cases hb
      |defer c x _ _ dy=>rw[dy]at hb;cases hb
      |panic x _ dy=>rw[dy]at hb;cases hb
    |defer f args s1=>rw[hx]at h;exact h.elim
    |pan v s1=>rw[hx]at h;exact h.elim
    |bad m=>rw[hx]at h;exact h.elim
theorem afG [FX]{r:aS}{rn:Rn}{b:Code}{f:Nat}{N:Act→List Frame→World→Prop}(h:gq ns nt e s w c₀ cs Q (Fc r rn b f))(hN:∀jT m1 s1 e1 a1 w1 u1,aW e s w e1 s1 w1→aY e1 s1.next ns jT a1→a1.tmps.size=nt→a1.defers=[]→iO e1 s1.next m1 u1→gq ns nt e1 s1 w1 c₀ cs Q (rn (.rcode b f jT m1 s1))→N a1 ({c₀ with mode:=u1}::cs) w1):gq ns nt e s w c₀ cs (Exit.thenS N Q) r:=by
 cases r with
 |okR x tm m s1=>
  cases x with
  |normal=>exact fun e1 a1 w1 u1 h1 h2 h3 h4 h5=>hN tm m s1 e1 a1 w1 u1 h1 h2 h3 h4 h5 (gq.step h1 h)
  |exit i=>exact h
  |goto l=>exact h
  |ret=>exact h
 |ok _ _ _ _=>exact h
 |pan _ _ _ _=>exact h
 |ret _ _=>exact h
 |retR _ _=>exact h
 |bad _=>exact h
theorem afH [FX]{r:aS}{m:Md}{u:FrameMode}(hmd:iO e s.next m u)(h:gq ns nt e s w c₀ cs Q (qu r m)):eK P ns nt e s w (fun ex a' w'=>Q ex a' ({c₀ with mode:=u}::cs) w') r:=by
 cases r with
 |ok x tm ds s1=>
  cases ds with
  |nil=>exact fun e1 a1 w1 h1 h2 h3 h4=>h e1 a1 w1 u h1 h2 h3 h4 (hmd.ext h1.ext h1.nx)
  |cons d ds=>exact h.elim
 |okR _ _ _ _=>exact h.elim
 |pan _ _ _ _=>exact h.elim
 |ret _ _=>exact h.elim
 |retR _ _=>exact h.elim
 |bad _=>exact h.elim
theorem afE [FX]{n:Nat}(hO:wB P B n)(hC:qB P B n)(hR:wC P B n):wC P B (n+1):=by
 intro c f tm m s e w a c₀ cs u Q hr hm hsz hds hmd h;have plain:∀c,gq (cY B f) (ew B f) e s w c₀ cs Q (qu (run B n (.code c f tm [] s)) m)→c.wpS P Q a ({c₀ with mode:=u}::cs) w:=fun c h=>
  wpS_of_wp (hC c f tm [] s e w a _ hr hm hsz (show a.defers=[]from hds) (afH hmd h)).1
 cases c with
 |skip=>exact plain _ h
 |region id ops dr=>
  cases dr with
  |true=>exact plain _ h
  |false=>
   replace h:gq (cY B f) (ew B f) e s w c₀ cs Q (tW (run B n (.rops (tS B (cY B f) (ew B f) ops) ⟨tm.g,.nil⟩ m s)) id):=h
   have h2:gq (cY B f) (ew B f) e s w c₀ cs Q (run B n (.rops (tS B (cY B f) (ew B f) ops) ⟨tm.g,.nil⟩ m s)):=by
    cases hrun:run B n (.rops (tS B (cY B f) (ew B f) ops) ⟨tm.g,.nil⟩ m s)<;>rw[hrun]at h<;>exact h
   refine wpS_region ?_;have:=hO (cY B f) (ew B f) ops ops.toList 0 _ m s e w a c₀ cs u Q rfl hr hm.fresh hsz hds hmd h2;rw[List.range_eq_range',←Array.length_toList];exact this
 |seq x y=>
  refine wpS_seq (hR x f tm m s e w a c₀ cs u _ hr hm hsz hds hmd (afG (show gq (cY B f) (ew B f) e s w c₀ cs Q (Fc (run B n (.rcode x f tm m s)) (run B n) y f)from h) fun jT m1 s1 e1 a1 w1 u1 h1 h2 h3 h4 h5 h6=>?_));exact hR y f jT m1 s1 e1 w1 a1 c₀ cs u1 Q h1.rep h2 h3 h4 h5 h6
 |cond c x y=>
  have hc:=cQ hm c
  replace h:gq (cY B f) (ew B f) e s w c₀ cs Q (LW (ev (mv (cY B f) c) tm) (run B n) x y f tm m s):=h
  cases hv:ev (mv (cY B f) c) tm<;>rw[hv]at h hc<;>first|exact h.elim|skip
  rename_i t;have dE:a.eval c=.bool t:=hc;refine wpS_cond dE ?_;cases t with
  |true=>exact hR x f tm m s e w a c₀ cs u Q hr hm hsz hds hmd h
  |false=>exact hR y f tm m s e w a c₀ cs u Q hr hm hsz hds hmd h
 |block id c=>exact plain _ h
 |loop b=>exact plain _ h
 |rangeFunc g ps x y=>exact h.elim
 |exit id=>exact plain _ h
 |scope c=>exact h.elim
 |label l=>exact h.elim
 |goto l=>exact h.elim
 |ret=>exact plain _ h
 |refuse m=>exact h.elim
theorem afC [FX](ht:bS P B){n:Nat}(hR:wC P B n):Ac P B (n+1):=by
 intro f args m s e w vs u Z hr hgl hl hmd h
 replace h:sS e s w Z (LV (B.ext.at_ f) B (run B n) f args m s):=h
 cases hx:B.ext.at_ f with
 |some c=>rw[hx]at h;exact h.elim
 |none=>
  rw[hx]at h
  replace h:sS e s w Z (LU (B.fn.at_ f) B (run B n) f args m s):=h
  cases hf:B.fn.at_ f with
  |none=>rw[hf]at h;exact h.elim
  |some fn=>
   rw[hf]at h
   replace h:sS e s w Z (LS fn.body fn B (run B n) f args m s):=h
   cases hb:fn.body with
   |none=>rw[hb]at h;exact h.elim
   |some c=>
    rw[hb]at h
    replace h:sS e s w Z (Bool.rec (.bad [f,918]) (Fb (run B n (.rcode c f (jW args 0 ⟨.leaf,.nil⟩) m s)) f fn B) (Nat.ble (cK args) fn.ntmps)):=h
    cases hle:Nat.ble (cK args) fn.ntmps with
    |false=>rw[hle]at h;exact h.elim
    |true=>
     rw[hle]at h
     replace hle:=Nat.le_of_ble_eq_true hle
     rw[gQ]at hle
     replace h:sS e s w Z (Fb (run B n (.rcode c f (jW args 0 ⟨.leaf,.nil⟩) m s)) f fn B):=h
     obtain⟨hfn,hcall⟩:=FZ ht hf hb vs w;refine⟨hcall,callsD_of_wpS hfn hb fun c₀ cs hu=>?_⟩;have fJ:({c₀ with mode:=u}:Frame)=c₀:=by subst hu;rfl
     have key:=hR c f (jW args 0 ⟨.leaf,.nil⟩) m s e w {tmps:=vs++Array.replicate (fn.ntmps-vs.size) undef,defers:=[]} c₀ cs u (bodyPostS P fn c₀ cs Z) hr (Up hgl hl _) (Uv hf hl hle) rfl hmd (by
      generalize run B n (.rcode c f (jW args 0 ⟨.leaf,.nil⟩) m s)=r at h;cases r with
      |okR x tm m1 s1=>
       replace h:sS e s w Z (Bool.rec (.bad [f,933]) (.retR m1 s1) (and (tX x) (LR (tU (nE fn.results.toList (cY B f) B tm s1))))):=h
       cases dK:tX x with
       |false=>rw[dK]at h;exact h.elim
       |true=>
        cases hres:tU (nE fn.results.toList (cY B f) B tm s1)with
        |none=>rw[dK,hres]at h;exact h.elim
        |some v=>
         rw[dK,hres]at h;intro e1 a1 w1 u1 h1 h2 h3 h4 h5;obtain⟨y,h6,h7⟩:=Uu (P:=P) ht h1.rep h2 hres;have h8:bodyPostS P fn c₀ cs Z .normal a1 ({c₀ with mode:=u1}::cs) w1:=⟨h4,u1,rfl,y,h6,h e1 w1 y u1 h1 h5⟩;cases x<;>first|exact h8|cases dK
      |ok _ _ _ _=>exact h.elim
      |pan _ _ _ _=>exact h.elim
      |ret _ _=>exact h.elim
      |retR _ _=>exact h.elim
      |bad _=>exact h.elim)
     rw[fJ]at key;exact key
end
section
variable {P:Program} {ns:NS} {nt base M:Nat} {ops:Array Oper} {C:Ch}
theorem UM [FX](hC:C.Ok P ns nt ops base 0 M)(hM:M≤ops.size):∀{i:Nat},i≤M→∀{j:Nat} {o:Oper} {t:Nat},j<i→ops[j]? =some o→o.dst=some t→cL (C.dn i) t=true
 |0,_,j,_,_,hj,_,_=>absurd hj (Nat.not_lt_zero _)
 |i+1,hi,j,o,t,hj,ho,hd=>by
  obtain⟨oi,hoi,_,h1,_,_⟩:=hC.of hM (i:=i) (by omega);obtain⟨h2,h3⟩:=UJ h1;by_cases hji:j=i
  ·subst hji;rw[hoi]at ho;cases ho;exact(h3 t hd).2
  ·exact h2 t (UM hC hM (i:=i) (by omega) (by omega) ho hd)
theorem UN [FX](hC:C.Ok P ns nt ops base 0 M)(hM:M≤ops.size){i j:Nat}{oi oj:Oper}{t:Nat}(hij:j<i)(hiM:i<M)(hj:ops[j]? =some oj)(hi:ops[i]? =some oi)(hdj:oj.dst=some t)(hdi:oi.dst=some t):False:=by
 obtain⟨_,h1,_,_⟩:=hC i oi (Nat.zero_le _) hiM hi;have h2:=(UJ h1).2 t hdi;rw[UM hC hM (by omega) hij hj hdj]at h2;cases h2.1
theorem afA [FX](hC:C.Ok P ns nt ops base 0 M)(hM:M≤ops.size){i j:Nat}{oi oj:Oper}{t:Nat}(hjM:j<M)(hiM:i<M)(hj:ops[j]? =some oj)(hi:ops[i]? =some oi)(hdj:oj.dst=some t)(hdi:oi.dst=some t):j=i:=by
 rcases Nat.lt_trichotomy j i with h|h|h
 ·exact(UN hC hM h hiM hj hi hdj hdi).elim
 ·exact h
 ·exact(UN hC hM h hjM hi hj hdi hdj).elim
theorem Do [FX](hC:C.Ok P ns nt ops base 0 M)(hM:M≤ops.size)(t:Nat):∀{i:Nat},i≤M→(∃(j:Nat) (o:Oper),j<i∧ops[j]? =some o∧o.dst=some t∧ev (bM ns t) (C.tm i)=C.v j)∨((∀(j:Nat) (o:Oper),j<i→ops[j]? =some o→o.dst≠some t)∧ev (bM ns t) (C.tm i)=ev (bM ns t) (C.tm 0))
 |0,_=>.inr ⟨fun j o hj=>absurd hj (Nat.not_lt_zero _),rfl⟩
 |i+1,hi=>by
  obtain⟨oi,hoi,_,_,_,D⟩:=hC.of hM (i:=i) (by omega);rw[D.tmq];cases hd:oi.dst with
  |none=>
   rcases Do hC hM t (i:=i) (by omega)with⟨j,o,h1,h2,h3,h4⟩|⟨h1,h2⟩
   ·exact .inl ⟨j,o,by omega,h2,h3,h4⟩
   ·refine .inr ⟨fun j o hj ho=>?_,h2⟩;by_cases hji:j=i
    ·subst hji;rw[hoi]at ho;cases ho;rw[hd];(intro hh;cases hh)
    ·exact h1 j o (by omega) ho
  |some d=>
   rw[xS];by_cases hdt:d=t
   ·subst hdt;rw[if_pos rfl];exact .inl ⟨i,oi,by omega,hoi,hd,rfl⟩
   ·rw[if_neg hdt];rcases Do hC hM t (i:=i) (by omega)with⟨j,o,h1,h2,h3,h4⟩|⟨h1,h2⟩
    ·exact .inl ⟨j,o,by omega,h2,h3,h4⟩
    ·refine .inr ⟨fun j o hj ho=>?_,h2⟩;by_cases hji:j=i
     ·subst hji;rw[hoi]at ho;cases ho;rw[hd];intro hh;cases hh;exact hdt rfl
     ·exact h1 j o (by omega) ho
theorem UO [FX](hC:C.Ok P ns nt ops base 0 M)(hM:M≤ops.size)(h0:C.rs 0=[])(hT:pQ C ns nt 0){j:Nat}(hj:j<M){b:Nat}(hb:¬(C.r j).TP b):(C.s (j+1)).heap.at_ b=(C.s j).heap.at_ b:=by
 obtain⟨_,_,_,_,_,D⟩:=hC.of hM hj;obtain⟨⟨e,w,a,hr,_⟩,_⟩:=vj hC hM h0 hT (i:=j) (by omega);have fct:=(vj hC hM h0 hT (i:=M) (Nat.le_refl _)).2 j hj;exact D.hp2 (fun b o hb=>(hr.obj b o hb).1) fct.bd fct.lg b hb
theorem Dp [FX](hC:C.Ok P ns nt ops base 0 M)(hM:M≤ops.size)(h0:C.rs 0=[])(hT:pQ C ns nt 0){b:Nat}:∀{i:Nat},i≤M→(∀j,j<i→¬(C.r j).TP b)→(C.s i).heap.at_ b=(C.s 0).heap.at_ b
 |0,_,_=>rfl
 |i+1,hi,h=>by
  rw[UO hC hM h0 hT (by omega) (h i (by omega))];exact Dp hC hM h0 hT (by omega) fun j hj=>h j (by omega)
theorem Js [FX](hC:C.Ok P ns nt ops base 0 M)(hM:M≤ops.size)(h0:C.rs 0=[])(hT:pQ C ns nt 0){b j:Nat}(hTj:(C.r j).TP b):∀{i:Nat},j<i→i≤M→(∀j',j<j'→j'<i→¬(C.r j').TP b)→(C.s i).heap.at_ b=(C.G j).heap.at_ b
 |0,hj,_,_=>absurd hj (Nat.not_lt_zero _)
 |i+1,hj,hi,h=>by
  by_cases hji:j=i
  ·subst hji;obtain⟨_,_,_,_,_,D⟩:=hC.of hM (i:=j) (by omega);exact D.hp1 b hTj
  ·rw[UO hC hM h0 hT (by omega) (h i (by omega) (by omega))];exact Js hC hM h0 hT hTj (by omega) (by omega) fun j' h1 h2=>h j' h1 (by omega)
theorem UP [FX](hC:C.Ok P ns nt ops base 0 M)(hM:M≤ops.size):∀{i:Nat},i≤M→∃l,(C.s i).wr=l++(C.s 0).wr∧∀j,j<i→∀b,b∈(C.G j).wr→b<base→b∈l
 |0,_=>⟨[],rfl,fun j hj=>absurd hj (Nat.not_lt_zero _)⟩
 |i+1,hi=>by
  obtain⟨l,h1,h2⟩:=UP hC hM (i:=i) (by omega);obtain⟨_,_,_,_,_,D⟩:=hC.of hM (i:=i) (by omega);obtain⟨m,h3,h4⟩:=Jk base (C.s i).wr (C.G i).wr;refine⟨m++l,by rw[D.lg,h3,h1,List.append_assoc],fun j hj b hb hlt=>?_⟩;rw[List.mem_append];by_cases hji:j=i
  ·subst hji;exact .inl (h4 b hb hlt)
  ·exact .inr (h2 j (by omega) b hb hlt)
structure DI [FX](C:Ch)(ns:NS)(nt M:Nat)(ops:Array Oper)(e0:En)(w0:World)(a0:Act)(D:Nat→Prop)(e:En)(h:T bk)(a:Act)(w:World):Prop where
 rep:aZ e ⟨h,(C.s M).next,[]⟩ w
 low:∀j,D j→j<M
 no:∀b,(∀j,j<M→D j→¬(C.r j).TP b)→h.at_ b=(C.s 0).heap.at_ b
 hit:∀b j,j<M→D j→(C.r j).TP b→(∀j',j<j'→j'<M→D j'→¬(C.r j').TP b)→h.at_ b=(C.G j).heap.at_ b
 ext:cW (C.s 0).next e0 e
 own:∀b o,h.at_ b=some o→(∃b0 o0,(C.s 0).heap.at_ b0=some o0∧e0.σ b0=e.σ b)∨w0.heap.size≤e.σ b
 os:w.os=w0.os
 tape:w.tape=w0.tape
 output:w.output=w0.output
 size:w0.heap.size≤w.heap.size
 kp:∀k,k<w0.heap.size→(∀b o,(C.s 0).heap.at_ b=some o→e0.σ b≠k)→w.heap[k]? =w0.heap[k]?
 dead:∀j,j<M→¬D j→∀b,(C.s j).next≤b→b<(C.s (j+1)).next→e.lv b=false
 sl1:∀(j:Nat) (o:Oper) (t:Nat),D j→ops[j]? =some o→o.dst=some t→R e (C.s M).next (C.v j) (a.tmps.getD t undef)
 sl0:∀t,(∀(j:Nat) (o:Oper),D j→ops[j]? =some o→o.dst≠some t)→R e (C.s M).next (ev (bM ns t) (C.tm 0)) (a.tmps.getD t undef)
 tmps:a.tmps.size=nt
 defers:a.defers=a0.defers
 fx:e.fx=e0.fx
theorem Ag(a:Act)(dst:Option Nat)(u:Value)(t:Nat):(dst=some t→t<a.tmps.size→(a.put dst u).tmps.getD t undef=u)∧(dst=some t→¬t<a.tmps.size→(a.put dst u).tmps.getD t undef=undef)∧(dst≠some t→(a.put dst u).tmps.getD t undef=a.tmps.getD t undef):=by
 cases dst with
 |none=>exact⟨fun h=>((by cases h)),fun h=>((by cases h)),fun _=>rfl⟩
 |some d=>
  refine⟨fun h hlt=>?_,fun h hlt=>?_,fun h=>?_⟩
  ·cases h;show(a.tmps.setIfInBounds t u).getD t undef=u;rw[Array.getD_eq_getD_getElem?,Array.getElem?_setIfInBounds,if_pos rfl,if_pos hlt];rfl
  ·cases h;show(a.tmps.setIfInBounds t u).getD t undef=undef;rw[Array.getD_eq_getD_getElem?,Array.getElem?_setIfInBounds,if_pos rfl,if_neg hlt];rfl
  ·have hne:d≠t:=fun hh=>h (by rw[hh])
   show(a.tmps.setIfInBounds d u).getD t undef=_;rw[Array.getD_eq_getD_getElem?,Array.getElem?_setIfInBounds,if_neg hne,←Array.getD_eq_getD_getElem?]
theorem UQ [FX](hC:C.Ok P ns nt ops base 0 M)(hM:M≤ops.size)(h0:C.rs 0=[])(hT:pQ C ns nt 0)
 {e0:En} {w0:World} {a0:Act} {D:Nat→Prop} {e:En} {h:T bk} {a:Act} {w:World} {i p:Nat} {o:Oper} {tml:Tm} (hi:i≤M) (ho:ops[i]? =some o) (hDi:¬D i) (hp:∀x,cL p x=true→D x)
 (hcl:∀j,D j→∀p',(∃oj,ops[j]? =some oj∧cX (cn ops j) oj.after.toList=some p')→∀x,cL p' x=true→D x)
 (hlater:∀t,ev (bM ns t) tml=.bot∨((∀(j:Nat) (o:Oper),i<j→ops[j]? =some o→o.dst=some t→∃p',cX (cn ops j) o.after.toList=some p'∧cL p' i=true)∧ev (bM ns t) tml=ev (bM ns t) (C.tm i)))
 (hgl:Gl e (C.s i).next) (hI:DI C ns nt M ops e0 w0 a0 D e h a w):aY e (C.s i).next ns (hU (cI p (C.rs i)) tml) a:=⟨hgl,fun t=>by
 obtain⟨⟨es,ws,as,hrs,hms,_⟩,_⟩:=vj hC hM h0 hT (i:=i) hi;rcases Jp (t:=t) (tm:=tml) _ (UL hC hM h0 (i:=i) (p:=p) hi)with h1|⟨hn,h1⟩
 ·rw[h1];exact trivial
 ·rw[h1];rcases hlater t with h2|⟨hl,h2⟩
  ·rw[h2];exact trivial
  ·rw[h2];have hbd:=hms.2 t;rcases Do hC hM t (i:=i) hi with⟨j,oj,h3,h4,h5,h6⟩|⟨h3,h4⟩
   ·rw[h6]at hbd ⊢;have hDj:D j:=by
     cases hb:cL p j with
     |true=>exact hp j hb
     |false=>
      have h7:=hn _ (ye hC hM h0 hi h3 hb);rw[Jq hC hM h0 (by omega),h4]at h7;exact absurd h5 h7
    exact hbd.bd (hI.sl1 j oj t hDj h4 h5)
   ·rw[h4]at hbd ⊢;refine hbd.bd (hI.sl0 t fun j oj hDj hoj hd=>?_);rcases Nat.lt_trichotomy j i with hji|hji|hji
    ·exact h3 j oj hji hoj hd
    ·subst hji;exact hDi hDj
    ·obtain⟨p',h5,h6⟩:=hl j oj hji hoj hd;exact hDi (hcl j hDj p' ⟨oj,hoj,h5⟩ i h6)⟩
theorem UR [FX](hC:C.Ok P ns nt ops base 0 M)(hM:M≤ops.size)(h0:C.rs 0=[])(hT:pQ C ns nt 0)
 {e0:En} {w0:World} {a0:Act} {D:Nat→Prop} {e:En} {h:T bk} {a:Act} {w:World} {i:Nat} {o:Oper} (hiM:i<M) (ho:ops[i]? =some o) (hDi:¬D i) (hp:∀x,cL (C.p i) x=true→D x)
 (hcl:∀j,D j→∀p',(∃oj,ops[j]? =some oj∧cX (cn ops j) oj.after.toList=some p')→∀x,cL p' x=true→D x)
 (hgl:Gl e (C.s i).next) (hI:DI C ns nt M ops e0 w0 a0 D e h a w) {K:Act→World→Prop} {Q:Exit→Act→World→Prop} (hK:∀e' h' a' w',DI C ns nt M ops e0 w0 a0 (fun j=>j=i∨D j) e' h' a' w'→K a' w'):wpOp P ops Q i K a w:=by
 have hclC:∀j,D j→∀x,cL (C.p j) x=true→D x:=fun j hj x hx=>by
  obtain⟨oj,hoj,h1,_⟩:=hC.of hM (hI.low j hj);exact hcl j hj _ ⟨oj,hoj,h1⟩ x hx
 obtain⟨_,_,_,Dd⟩:=hC i o (Nat.zero_le _) hiM ho;obtain⟨⟨es,ws,as,hrs,hms,_⟩,_⟩:=vj hC hM h0 hT (i:=i) (by omega);have hfacts:=(vj hC hM h0 hT (i:=M) (Nat.le_refl _)).2;have hsub:∀b o',(C.F i).at_ b=some o'→h.at_ b=some o':=fun b o' hb=>by
  have hs:=Dd.sub b o' hb;have hbl:b<(C.s i).next:=(hrs.obj b o' hs).1;have hlow:∀j,j<i→(C.r j).TP b→D j:=fun j hj hTj=>by
   cases hbit:cL (C.p i) j with
   |true=>exact hp j hbit
   |false=>exact(Dd.c1 _ (ye hC hM h0 (by omega) hj hbit) b o' hb hTj).elim
  have hhigh:∀j,i≤j→j<M→D j→¬(C.r j).TP b:=fun j hij hj hDj hTj=>by
   by_cases hji:j=i
   ·subst hji;exact hDi hDj
   ·obtain⟨_,_,_,_,_,Dj⟩:=hC.of hM hj;cases hbit:cL (C.p j) i with
    |true=>exact hDi (hclC j hDj i hbit)
    |false=>exact Dj.c2 _ (ye hC hM h0 (by omega) (by omega) hbit) b hTj ⟨by rw[Dd.lo];exact hbl,Dd.dom b o' hb⟩
  rcases Jo (fun j=>(C.r j).TP b) i with hn|⟨j,h1,h2,h3⟩
  ·rw[hI.no b fun j hj hDj=>by
    rcases Nat.lt_or_ge j i with h1|h1
    ·exact hn j h1
    ·exact hhigh j h1 hj hDj]
   rw[←Dp hC hM h0 hT (by omega) hn];exact hs
  ·rw[hI.hit b j (by omega) (hlow j h1 h2) h2 fun j' h4 h5 h6=>by
    rcases Nat.lt_or_ge j' i with h7|h7
    ·exact h3 j' h4 h7
    ·exact hhigh j' h7 h5 h6]
   rw[←Js hC hM h0 hT h2 h1 (by omega) h3];exact hs
 have hrF:aZ e ⟨C.F i,(C.s i).next,[]⟩ w:=hI.rep.part hsub fun b o' hb=>by
  obtain⟨h1,_,r',_,h2⟩:=hrs.obj b o' (Dd.sub b o' hb);exact⟨h1,fun r hr=>h2.bd hr⟩
 have hmb:=UQ hC hM h0 hT (by omega) ho hDi hp hcl Dd.later hgl hI;refine Dd.run e w a hrF hmb hI.tmps K Q fun e' w' u h1 h2 h3=>?_
 obtain⟨h',hh'⟩:=UI (C.G i).heap h (C.r i).TP (C.G i).next;have in1:∀b,(C.r i).TP b→b<(C.G i).next∧h'.at_ b=(C.G i).heap.at_ b:=fun b hb=>by
  have:b<(C.G i).next:=Dd.hi▸hb.1;exact⟨this,(hh' b).1 ⟨this,hb⟩⟩
 have out:∀b,¬(C.r i).TP b→h'.at_ b=h.at_ b:=fun b hb=>(hh' b).2 fun hx=>hb hx.2
 have hle:(C.s i).next≤(C.G i).next:=h1.nx;have hGN:(C.G i).next≤(C.s M).next:=by rw[←Dd.nx];exact nu hC hM (by omega) (Nat.le_refl _)
 have fr:Fr e w h (C.s M).next [] (C.F i) (C.s i).next e' (C.G i) w' (C.r i).TP h':=
  ⟨hI.rep,hsub,fun b o hb=>(hrF.obj b o hb).1,h1,in1,out,fun b hT hb=>(hfacts i hiM).lg b hb fun hw=>hT ⟨by rw[Dd.hi];omega,.inl (Dd.tw b hw)⟩⟩
 have hlv:Lv e (e.mix e' (C.s i).next (C.G i).next):=aft fun b q1 q2=>hI.dead i hiM hDi b q1 (by rw[Dd.nx];exact q2)
 have hmx:cW (C.G i).next e' (e.mix e' (C.s i).next (C.G i).next):=afs h1.ext;have h5:∀b,¬(C.r i).TP b→(e.mix e' (C.s i).next (C.G i).next).σ b=e.σ b∧(e.mix e' (C.s i).next (C.G i).next).κ b=e.κ b∧(e.mix e' (C.s i).next (C.G i).next).lv b=e.lv b:=fun b hT=>
  xT fun hx=>hT ⟨by rw[Dd.hi];exact hx.2,.inr (by rw[Dd.lo];exact hx.1)⟩
 refine hK (e.mix e' (C.s i).next (C.G i).next) h' _ w' ?_;exact {
  rep:=fr.repA hGN hmx rfl fun b o' hb hT=>⟨(hI.rep.obj b o' hb).1,(h5 b hT).1,fun r hr=>hr.lv hlv (h5 b hT).2.1⟩
  low:=fun j hj=>hj.elim (fun hh=>by rw[hh];exact hiM) (hI.low j)
  no:=fun b hn=>by
   rw[out b (hn i hiM (.inl rfl))];exact hI.no b fun j hj hD=>hn j hj (.inr hD)
  hit:=fun b j hj hD hTj hl=>by
   rcases hD with rfl|hD
   ·exact(in1 b hTj).2
   ·have hnT:¬(C.r i).TP b:=fun hTi=>by
     rcases Nat.lt_trichotomy i j with hij|hij|hij
     ·obtain⟨_,_,_,_,_,Dj⟩:=hC.of hM hj;cases hbit:cL (C.p j) i with
      |true=>exact hDi (hclC j hD i hbit)
      |false=>exact Dj.c3 _ (ye hC hM h0 (by omega) hij hbit) b hTj hTi
     ·subst hij;exact hDi hD
     ·exact hl i hij hiM (.inl rfl) hTi
    rw[out b hnT];exact hI.hit b j hj hD hTj fun j' q1 q2 q3=>hl j' q1 q2 (.inr q3)
  ext:=fun b hb=>by
   have hc:=nu hC hM (Nat.zero_le i) (by omega);obtain⟨q1,q2,q3⟩:=xT (e:=e) (e':=e') (lo:=(C.s i).next) (hi:=(C.G i).next) (b:=b) (fun hx=>by have:=hx.1;omega);obtain⟨q4,q5,q6⟩:=hI.ext b hb;exact⟨q1.trans q4,q2.trans q5,q3.trans q6⟩
  own:=fr.own hmx (fun b o' hb hT=>(h5 b hT).1) (p:=fun x=>∃b0 o0,(C.s 0).heap.at_ b0=some o0∧e0.σ b0=x) hI.size hI.own
  os:=h1.os.trans hI.os
  tape:=h1.tape.trans hI.tape
  output:=h1.output.trans hI.output
  size:=Nat.le_trans hI.size h1.size
  kp:=fun k hk hn=>by
   rw[h1.kp k (Nat.lt_of_lt_of_le hk hI.size) fun b o' hb he=>?_,hI.kp k hk hn];rcases hI.own b o' (hsub b o' hb)with⟨b0,o0,q1,q2⟩|q1
   ·exact hn b0 o0 q1 (q2.trans he)
   ·omega
  dead:=fun j hj hnD b q1 q2=>by
   have hji:j≠i:=fun hx=>hnD (.inl hx)
   have h6:=hI.dead j hj (fun hx=>hnD (.inr hx)) b q1 q2;rw[(xT (e:=e) (e':=e') (lo:=(C.s i).next) (hi:=(C.G i).next) (b:=b) (fun hx=>by
    rw[←Dd.nx]at hx;rcases Nat.lt_or_ge j i with hij|hij
    ·have:=nu hC hM (i:=j+1) (j:=i) hij (by omega);have:=hx.1;omega
    ·have:=nu hC hM (i:=i+1) (j:=j) (by omega) (by omega);have:=hx.2;omega)).2.2]
   exact h6
  sl1:=fun j oj t hD hoj hd=>by
   obtain⟨p1,p2,p3⟩:=Ag a o.dst u t;by_cases hji:j=i
   ·subst hji;rw[ho]at hoj;cases hoj;rcases Nat.lt_or_ge t a.tmps.size with q|q
    ·rw[p1 hd q];exact h2.ext hmx hGN
    ·rw[p2 hd (by omega)];rcases h3 t hd with q2|⟨q2,_⟩
     ·rw[hI.tmps]at q;exact absurd q2 (Nat.not_lt.2 q)
     ·rw[q2];exact rf
   ·have hDj:D j:=hD.resolve_left hji;rw[p3 fun hd'=>hji (afA hC hM (hI.low j hDj) hiM hoj ho hd hd')];exact(hI.sl1 j oj t hDj hoj hd).lv hlv
  sl0:=fun t ht=>by
   obtain⟨_,_,p3⟩:=Ag a o.dst u t;rw[p3 (ht i o (.inl rfl) ho)];exact(hI.sl0 t fun j oj hD=>ht j oj (.inr hD)).lv hlv
  tmps:=by rw[jZ];exact hI.tmps
  defers:=by rw[kG];exact hI.defers
  fx:=hI.fx}
theorem US [FX](hC:C.Ok P ns nt ops base 0 M)(hM:M≤ops.size)(h0:C.rs 0=[])(hT:pQ C ns nt 0)(hb:base=(C.s 0).next)
 {e0 e1:En} {w w1:World} {a a1:Act} {D:Nat→Prop} {h1:T bk} (hgl:Gl e0 (C.s 0).next) (hI:DI C ns nt M ops e0 w a D e1 h1 a1 w1) (hall:∀j,j<M→D j):
 aW e0 ⟨(C.s 0).heap,(C.s 0).next,(C.s 0).wr⟩ w e1 (C.s M) w1∧aY e1 (C.s M).next ns (C.tm M) a1:=by
 have hN:∀b,h1.at_ b=(C.s M).heap.at_ b:=fun b=>by
  rcases Jo (fun j=>(C.r j).TP b) M with hn|⟨j,q1,q2,q3⟩
  ·rw[hI.no b fun j hj _=>hn j hj,Dp hC hM h0 hT (Nat.le_refl _) hn]
  ·rw[hI.hit b j q1 (hall j q1) q2 fun j' p1 p2 _=>q3 j' p1 p2,Js hC hM h0 hT q2 q1 (Nat.le_refl _) q3]
 have hrep:aZ e1 (C.s M) w1:=⟨fun b o hb=>hI.rep.obj b o (by show h1.at_ b=_;rw[hN];exact hb),fun b o b' o' hb hb' he=>hI.rep.inj b o b' o' (by show h1.at_ b=_;rw[hN];exact hb) (by show h1.at_ b'=_;rw[hN];exact hb') he,fun g o hg=>⟨(hI.rep.fx g o hg).1,fun b o' hb=>(hI.rep.fx g o hg).2 b o' (by show h1.at_ b=_;rw[hN];exact hb)⟩⟩;have hcM:=nu hC hM (Nat.zero_le M) (Nat.le_refl _);refine⟨{
  rep:=hrep
  ext:=hI.ext
  nx:=hcM
  own:=fun b o hb=>hI.own b o (by rw[hN];exact hb)
  os:=hI.os
  tape:=hI.tape
  output:=hI.output
  size:=hI.size
  kp:=hI.kp
  fx:=hI.fx
  lg:=?_},hgl.ext hI.ext hcM,fun t=>?_⟩
 ·obtain⟨l,q1,q2⟩:=UP hC hM (i:=M) (Nat.le_refl _);refine⟨l,q1,fun b hb' hn=>?_⟩;rw[Dp hC hM h0 hT (Nat.le_refl _) (b:=b) (fun j hj hTP=>?_)];obtain⟨_,_,_,_,_,Dj⟩:=hC.of hM hj;have hcj:=nu hC hM (Nat.zero_le j) (by omega);have af:b<(C.s 0).next:=hb';obtain⟨_,p1|p1⟩:=hTP
  ·rcases Dj.tl b p1 with p2|p2
   ·exact hn (q2 j hj b p2 (by rw[hb];exact af))
   ·omega
  ·rw[Dj.lo]at p1;omega
 ·rcases Do hC hM t (i:=M) (Nat.le_refl _)with⟨j,o,h2,h3,h4,h5⟩|⟨h2,h3⟩
  ·rw[h5];exact hI.sl1 j o t (hall j h2) h3 h4
  ·rw[h3];exact hI.sl0 t fun j o hD ho=>h2 j o (hI.low j hD) ho
end
theorem aW.relog [FX]{e e':En}{h:T bk}{k:Nat}{l:List Nat}{w w':World}{G:St}{base:Nat}(hb:base≤k)(h1:aW e ⟨h,k,[]⟩ w e' G w'){e0:En}{s0:St}{w0:World}(h0:aW e0 s0 w0 e ⟨h,k,l⟩ w)(hbase:base=s0.next):aW e0 s0 w0 e' ⟨G.heap,G.next,jj base G.wr l⟩ w' where
 rep:=⟨h1.rep.obj,h1.rep.inj,h1.rep.fx⟩
 fx:=h1.fx.trans h0.fx
 ext:=h0.ext.trans h1.ext h0.nx
 nx:=Nat.le_trans h0.nx h1.nx
 own:=fun b o hb=>by
  rcases h1.own b o hb with⟨b1,o1,q1,q2⟩|q1
  ·rcases h0.own b1 o1 q1 with⟨b0,o0,q3,q4⟩|q3
   ·exact .inl ⟨b0,o0,q3,q4.trans q2⟩
   ·exact .inr (q2▸q3)
  ·exact .inr (Nat.le_trans h0.size q1)
 os:=h1.os.trans h0.os
 tape:=h1.tape.trans h0.tape
 output:=h1.output.trans h0.output
 size:=Nat.le_trans h0.size h1.size
 kp:=fun k' hk hn=>by
  rw[h1.kp k' (Nat.lt_of_lt_of_le hk h0.size) fun b o hb he=>?_,h0.kp k' hk hn];rcases h0.own b o hb with⟨b0,o0,q3,q4⟩|q3
  ·exact hn b0 o0 q3 (q4.trans he)
  ·omega
 lg:=by
  obtain⟨l0,q1,q2⟩:=h0.lg;obtain⟨l1,q3,q4⟩:=h1.lg;obtain⟨m,q5,q6⟩:=Jk base l G.wr;have q1:l=l0++s0.wr:=q1;have q3:G.wr=l1:=by simpa using q3
  refine⟨m++l0,by rw[show(⟨G.heap,G.next,jj base G.wr l⟩:St).wr=jj base G.wr l from rfl,q5,q1,List.append_assoc],fun b af hn=>?_⟩;rw[List.mem_append,not_or]at hn;have q7:=q4 b (show b<k by omega) fun hm=>hn.1 (q6 b (by rw[q3];exact hm) (by omega))
  exact q7.trans (q2 b af hn.2)
theorem afB [FX]{P:Program}{B:Tb}(ht:bS P B)(hmx:P.follows .mixedOrders=true){n:Nat}(hF:∀m,m<n→qD P B m):Uk P B n:=by
 intro ns nt id ops tm s e w a Q hr hm hsz hQ;have cT:∀m,run B n (.dops (vS B ns nt ops) [] 0 s.next ⟨tm.g,.nil⟩ s)≠.bad m:=fun m hh=>by rw[hh]at hQ;exact hQ
 obtain⟨C,M,_,hM,hC,c1,c2,c3,_,hE⟩:=qE ht n hF ops.toList 0 [] 0 ⟨tm.g,.nil⟩ s _ rfl (Nat.zero_le _) (fun q hq=>by simp at hq) rfl cT rfl;have oN:aY e s.next ns (C.tm 0) a:=by rw[c2];exact hm.fresh
 have hT:pQ C ns nt 0:=⟨e,w,a,by rw[c3];exact⟨hr.obj,hr.inj,hr.fx⟩,by rw[c3];exact oN,hsz⟩;have Ea:cW s.next e ⟨e.σ,e.κ,fun b=>if b<s.next then e.lv b else false,e.fx⟩:=fun b hb=>⟨rfl,rfl,by simp[hb]⟩
 have hcM:s.next≤(C.s M).next:=by rw[←c3];exact nu hC hM (Nat.zero_le _) (Nat.le_refl _)
 have Kz:Gl ⟨e.σ,e.κ,fun b=>if b<s.next then e.lv b else false,e.fx⟩ (C.s 0).next:=by rw[c3];exact hm.1.ext Ea (Nat.le_refl _)
 have hstart:∃h1,DI C ns nt M ops ⟨e.σ,e.κ,fun b=>if b<s.next then e.lv b else false,e.fx⟩ w a (fun j=>(Array.replicate ops.size false).getD j false=true) ⟨e.σ,e.κ,fun b=>if b<s.next then e.lv b else false,e.fx⟩ h1 a w.drew:=by
  refine⟨(C.s 0).heap,?_⟩;have hnone:∀j,¬(Array.replicate ops.size false).getD j false=true:=fun j hj=>by
   rcases Nat.lt_or_ge j ops.size with h'|h'
   ·simp[h']at hj
   ·simp[h']at hj
  exact {
   rep:=⟨fun b o hb=>by
    rw[c3]at hb;obtain⟨q1,q2,r,q3,q4⟩:=hr.obj b o hb;exact⟨Nat.lt_of_lt_of_le q1 hcM,q2,r,q3,q4.ext Ea hcM q1⟩,fun b o b' o' hb hb' he=>by rw[c3]at hb hb';exact hr.inj b o b' o' hb hb' he,fun g o hg=>⟨(hr.fx g o hg).1,fun b o' hb=>(hr.fx g o hg).2 b o' (by rw[c3]at hb;exact hb)⟩⟩
   low:=fun j hD=>absurd hD (hnone j)
   no:=fun b _=>rfl
   hit:=fun b j _ hD=>absurd hD (hnone j)
   ext:=cW.refl _ _
   own:=fun b o hb=>.inl ⟨b,o,hb,rfl⟩
   os:=rfl
   tape:=rfl
   output:=rfl
   size:=Nat.le_refl _
   kp:=fun _ _ _=>rfl
   dead:=fun j hj _ b q1 _=>by
    have:=nu hC hM (Nat.zero_le j) (by omega);rw[c3]at this;show(if b<s.next then e.lv b else false)=false;rw[if_neg (by omega)]
   sl1:=fun j o t hD=>absurd hD (hnone j)
   sl0:=fun t _=>(oN.2 t).ext Ea hcM
   tmps:=hsz
   defers:=rfl
   fx:=rfl}
 have hStp:∀{e1 w1},aW ⟨e.σ,e.κ,fun b=>if b<s.next then e.lv b else false,e.fx⟩ ⟨(C.s 0).heap,(C.s 0).next,(C.s 0).wr⟩ w e1 (C.s M) w1→aW e s w e1 (C.s M) w1:=fun {e1 w1} h=>by
  rw[c3]at h;exact {rep:=h.rep,ext:=Ea.trans h.ext (Nat.le_refl _),nx:=h.nx,own:=h.own,os:=h.os,tape:=h.tape,output:=h.output,size:=h.size,kp:=h.kp,lg:=h.lg,fx:=h.fx}
 have hcl:∀{listed:Array Bool},ph .any ops listed→∀j,listed.getD j false=true→∀p',(∃oj,ops[j]? =some oj∧cX (cn ops j) oj.after.toList=some p')→∀x,cL p' x=true→listed.getD x false=true:=fun {listed} hc j hD p' ⟨oj,hoj,hpo⟩ x hx=>
  (yc hc j hoj hpo (fun e he hb=>hc j oj hoj hD e he hb) hx).1
 have hset:∀{listed:Array Bool} {j:Nat},j<listed.size→(fun k=>k=j∨listed.getD k false=true)=fun k=>(listed.setIfInBounds j true).getD k false=true:=fun {listed j} hj=>by
  funext k;apply propext;by_cases hk:k=j
  ·subst hk;rw[zZ hj];simp
  ·rw[getD_set_ne false (Ne.symm hk)];simp[hk]
 have hglI:∀{e1 h1 a1 w1 D i},i≤M→DI C ns nt M ops ⟨e.σ,e.κ,fun b=>if b<s.next then e.lv b else false,e.fx⟩ w a D e1 h1 a1 w1→Gl e1 (C.s i).next:=fun {e1 h1 a1 w1 D i} hi hI=>Kz.ext hI.ext (nu hC hM (Nat.zero_le i) hi)
 generalize hrun:run B n (.dops (vS B ns nt ops) [] 0 s.next ⟨tm.g,.nil⟩ s)=r0 at *;cases hE with
 |all hMN=>
  refine FH hmx (fun listed a1 w1=>∃e1 h1,DI C ns nt M ops ⟨e.σ,e.κ,fun b=>if b<s.next then e.lv b else false,e.fx⟩ w a (fun j=>listed.getD j false=true) e1 h1 a1 w1) ?_ ?_ ?_ ⟨_,hstart⟩
  ·intro j o ho e' he hb;obtain⟨q,hq⟩:=(xZ (hC j o (Nat.zero_le _) (by rw[hMN];exact(Array.getElem?_eq_some_iff.1 ho).1) ho).1).1 e' (by simpa using he) hb;exact(vh hq).1
  ·rintro listed a1 w1 j o ⟨e1,h1,hI⟩ hs ho hl hall hc;have hj:j<ops.size:=(Array.getElem?_eq_some_iff.1 ho).1;refine UR hC hM c1 hT (by omega) ho (by rw[hl];(intro hh;cases hh)) (fun x hx=>(yc hc j ho (hC j o (Nat.zero_le _) (by omega) ho).1 hall hx).1) (hcl hc) (hglI (by omega) hI) hI fun e' h' a' w' hI'=>⟨e',h',?_⟩
   rw[←hset (by omega)];exact hI'
  ·rintro listed a1 w1 ⟨e1,h1,hI⟩ hall;obtain⟨q1,q2⟩:=US hC hM c1 hT (by rw[c3]) Kz hI fun j hj=>hall j (by omega)
   exact hQ e1 a1 w1 (hStp q1) q2 hI.tmps hI.defers
 |pan o p tml G v s' ho hp hS=>
  have hMlt:M<ops.size:=(Array.getElem?_eq_some_iff.1 ho).1;refine FH hmx (fun listed a1 w1=>∃e1 h1,DI C ns nt M ops ⟨e.σ,e.κ,fun b=>if b<s.next then e.lv b else false,e.fx⟩ w a (fun j=>listed.getD j false=true) e1 h1 a1 w1) ?_ ?_ ?_ ⟨_,hstart⟩
  ·intro j oj hoj e' he hb;have hpj:∃p',cX (cn ops j) oj.after.toList=some p':=by
    rcases Nat.lt_trichotomy j M with h1|h1|h1
    ·exact⟨_,(hC j oj (Nat.zero_le _) h1 hoj).1⟩
    ·subst h1;rw[ho]at hoj;cases hoj;exact⟨p,hp⟩
    ·obtain⟨p',q,_⟩:=hS.wait j oj h1 hoj;exact⟨p',q⟩
   obtain⟨p',hp'⟩:=hpj;obtain⟨q,hq⟩:=(xZ hp').1 e' (by simpa using he) hb;exact(vh hq).1
  ·rintro listed a1 w1 j oj ⟨e1,h1,hI⟩ hs hoj hl hall hc;have hj:j<ops.size:=(Array.getElem?_eq_some_iff.1 hoj).1;rcases Nat.lt_trichotomy j M with h2|h2|h2
   ·refine UR hC hM c1 hT h2 hoj (by rw[hl];(intro hh;cases hh)) (fun x hx=>(yc hc j hoj (hC j oj (Nat.zero_le _) h2 hoj).1 hall hx).1) (hcl hc) (hglI (by omega) hI) hI fun e' h' a' w' hI'=>⟨e',h',?_⟩
    rw[←hset (by omega)];exact hI'
   ·subst h2;rw[ho]at hoj;cases hoj;have hpre:∀x,cL p x=true→listed.getD x false=true:=fun x hx=>(yc hc j ho hp hall hx).1
    have hallD:∀k,k<j→listed.getD k false=true:=fun k hk=>by
     cases hb:cL p k with
     |true=>exact hpre k hb
     |false=>
      have:=ye hC hM c1 (Nat.le_refl _) hk hb;rw[hS.un]at this;cases this
    obtain⟨q1,q2⟩:=US hC hM c1 hT (by rw[c3]) Kz hI hallD;have hmb:=UQ (p:=p) hC hM c1 hT (Nat.le_refl _) ho (by rw[hl];(intro hh;cases hh)) hpre (hcl hc) hS.later (hglI (Nat.le_refl _) hI) hI;rw[hS.un]at hmb;have q3:aZ e1 ⟨(C.s j).heap,(C.s j).next,[]⟩ w1:=⟨q1.rep.obj,q1.rep.inj,q1.rep.fx⟩;refine hS.run e1 w1 a1 q3 hmb hI.tmps _ Q fun e' w' u q4 q5=>?_
    rw[hS.sp]at hQ;refine hQ e' a1 w' u ?_ (q2.ext q4.ext q4.nx) hI.tmps hI.defers q5;exact aW.relog (h:=(C.s j).heap) (k:=(C.s j).next) (l:=(C.s j).wr) (by rw[←c3];exact nu hC hM (Nat.zero_le _) (Nat.le_refl _)) q4 (hStp q1) rfl
   ·obtain⟨p',q1,q2⟩:=hS.wait j oj h2 hoj;have:=hI.low M ((yc hc j hoj q1 hall q2).1);omega
  ·rintro listed a1 w1 ⟨e1,h1,hI⟩ hall;have:=hI.low M (hall M hMlt);omega
theorem FK [FX]{P:Program}{B:Tb}(ht:bS P B)(hX:ug P B)(hmx:P.follows .mixedOrders=true):∀n,(uh P B n∧qB P B n∧qD P B n)∧ui P B n∧Ac P B n∧wB P B n∧wC P B n:=by
 intro n
 induction n using Nat.strongRecOn with
 |ind n ih=>
  cases n with
  |zero=>exact⟨⟨fun _ _ _ _ _ _ _ _ _ _ _ _ _ _ _ h=>((by cases h)),fun _ _ _ _ _ _ _ _ _ _ _ _ _ h=>((by cases h)),fun _ _ _ _ _ _ _ _ _ _ _ _ _ h=>((by cases h))⟩,fun _ _ _ _ _ _ _ _ _ _ _ _ _ _ _ _ _ h=>((by cases h)),fun _ _ _ _ _ _ _ _ _ _ _ _ _ h=>((by cases h)),fun _ _ _ _ _ _ _ _ _ _ _ _ _ _ _ _ _ _ _ _ _ h=>((by cases h)),fun _ _ _ _ _ _ _ _ _ _ _ _ _ _ _ _ _ h=>((by cases h))⟩
  |succ n=>
   obtain⟨⟨h1,h2,h3⟩,h4,h5,h6,h7⟩:=ih n (Nat.lt_succ_self n);exact⟨⟨afj ht h1 h3,afm h1 (afB ht hmx fun m hm=>(ih m (by omega)).1.2.2) h2,afq ht hX h2 h4⟩,afp ht h4 h5,afC ht h7,afD ht h6 h3,afE h6 h2 h7⟩
theorem Ny [FX]{P:Program}{B:Tb}(ht:bS P B)(hX:ug P B)(hmx:P.follows .mixedOrders=true){n f:Nat}{args:List AV}{s s':St}{v:AV}{vs:Array Value}{e:En}{w:World}(hx:B.ext.at_ f=none)(h:run B n (.fn f args s)=.ret v s')(hr:aZ e s w)(hgl:Gl e s.next)(hl:RL e s.next args vs.toList):
 Calls P f vs w fun en w'=>∃e' u,en=.returned u∧aW e s w e' s' w'∧R e' s'.next v u:=by
 cases n with
 |zero=>cases h
 |succ n=>
  replace h:EZ (B.ext.at_ f) B (run B n) f args s=.ret v s':=h
  rw[hx]at h
  replace h:rW (B.fn.at_ f) B (run B n) f args s=.ret v s':=h
  exact(Uw ht (FK ht hX hmx n).1.2.1 (FK ht hX hmx n).2.1 hr hgl hl (by rw[h];exact fun e' w' x h1 h2=>⟨e',x,rfl,h1,h2⟩)).2
theorem UT(P:Program):∀(l:List TypeInfo) (k t:Nat),(qj P l k)[t]? =(l[t]?).map (KE P (k+t))
 |[],k,t=>by simp[qj]
 |i::l,k,0=>by simp[qj]
 |i::l,k,t+1=>by
  show(qj P l (k+1))[t]? =_;rw[UT P l (k+1) t,show k+1+t=k+(t+1)by omega];rfl
theorem ML [FX](P:Program)(ext:T Nat)(xf:Nat→List AV→St→Option (AV×St))(hn:P.funcs.toList.all (fun fn=>!(fn.name== "runtime.NumGoroutine"))=true):bS P (tb P ext xf) where
 ty:=fun t i h=>by
  replace h:(T.ofL (qj P P.types.toList 0) 0 .leaf).at_ t=some i:=h
  rw[IP]at h;by_cases hc:0≤t∧t<0+(qj P P.types.toList 0).length
  ·rw[if_pos hc,Nat.sub_zero,UT]at h;cases ht:P.types.toList[t]? with
   |none=>rw[ht]at h;cases h
   |some ti=>
    rw[ht]at h;cases h;have hi:P.info? t=some ti:=by
     unfold Tables.info?;rw[Array.getElem?_toList]at ht;have hlt:=(Array.getElem?_eq_some_iff.1 ht).1;rw[if_pos hlt];exact ht
    refine⟨ti,hi,rfl,by rw[Nat.zero_add];rfl,by rw[Nat.zero_add];rfl,by rw[Nat.zero_add];rfl,by rw[Nat.zero_add];rfl,rfl,fun z hz=>?_⟩
    replace hz:ti.zero.map cR=some z:=hz
    cases hzz:ti.zero with
    |none=>rw[hzz]at hz;cases hz
    |some v=>rw[hzz]at hz;cases hz;exact⟨v,rfl,rfl⟩
  ·rw[if_neg hc,T.at_leaf]at h;cases h
 fn:=fun f fn h=>by
  replace h:(T.ofL P.funcs.toList 0 .leaf).at_ f=some fn:=h
  rw[IP]at h;by_cases hc:0≤f∧f<0+P.funcs.toList.length
  ·rw[if_pos hc,Nat.sub_zero]at h;have hm:=List.mem_of_getElem? h;rw[Array.getElem?_toList]at h;have:=List.all_eq_true.1 hn fn hm;exact⟨h,by simpa using this⟩
  ·rw[if_neg hc,T.at_leaf]at h;cases h
end Go.Proofs.YtlpombjidhloiaaGreat.Eng
