/- The judge. The judge's errors are none of them 0, in plain words. Condition: what each theorem says. -/
import Derived.Test.YtlpombjidhloiaaGreatBay
import Derived.Test.YtlpombjidhloiaaGreatBaz
import Derived.Defers
import Derived.Recover
namespace Go.Proofs.YtlpombjidhloiaaGreat
open Go.RowKit
set_option maxRecDepth 100000
attribute [local go_sem ↓] Go.wp_at_zero Go.wp_at_succ
theorem Hk:∀{l:List ao} {i:Nat} {y:ao},l[i]? =some y→bq y+l.length≤lr l+1
 |x::l,0,y,h=>by
  cases h;have:l.length≤lr l:=by
   clear x
   induction l with
   |nil=>exact Nat.le_refl _
   |cons z l ih=>rw[lr,List.length_cons];have:=lu z;omega
  rw[lr,List.length_cons];omega
 |x::l,i+1,y,h=>by
  have:=Hk (l:=l) (i:=i) (y:=y) (by simpa using h);rw[lr,List.length_cons];have:=lu x;omega
@[go_sem high] theorem ajm(w:World):(Instr.makeMap 164 none).run Tryz.prog w=.ok (.map (some w.heap.size)) (cC fE w []):=lW w _
@[go_sem] theorem ajn(w:World)(l:List (Int×Value))(x:Int)(v:Value)(hx:x∉l.map (·.1)):(Instr.mapUpdate 164 (.map (some w.heap.size)) (.int .u8 x) v).run Tryz.prog (cC fE w l)=.ok () (cC fE w (l++[(x,v)])):=nP Tryz.underlying164 (iM Tryz.underlying5) w l x v hx
attribute [local go_sem] Pa
def Ci(pt pv:Nat):List (Int×Value):=[(5,.func (.func 60) #[] #[]),(6,.func (.func 61) #[] #[]),(7,.func (.func 62) #[] #[]),(1,dp 63 pt pv),(2,dp 64 pt pv),(3,dp 65 pt pv),(4,dp 66 pt pv),(8,dp 67 pt pv),(12,dp 68 pt pv),(11,dp 69 pt pv),(10,dp 70 pt pv)]
def fF(V:ea)(f:Nat)(x:ao):Jr Jd:=
 if x.kind=5 then .ok ⟨5,.whole x.n,0⟩
 else if x.kind=6 then .ok ⟨4,.letter (x.n% 256),0⟩
 else if x.kind=7 then .ok ⟨6,.str x.name,0⟩
 else if x.kind=1 then nameJ V x
 else if x.kind=2 then dotJ V f x
 else if x.kind=3 then indexJ V f x
 else if x.kind=4 then derefJ V f x
 else if x.kind=8 then setJ V f x
 else if x.kind=12 then oneJ V f x
 else if x.kind=11 then(exprJ V f (kid x 0) >>= fun a=>exprJ V f (kid x 1) >>= fun b=>iV V x a b)
 else if x.kind=10 then funJ V f x
 else .error (x.pos,251)
theorem abS(V:ea)(f:Nat)(x:ao):exprJ V (f+1) x=(fF V f x >>= fun j=>aI (decide (aJ V.T j.type≠0)) x 252 >>= fun _=>.ok j):=by
 rw[exprJ.eq_2];rfl
def abT(w0:World)(b:Nat)(r:Jr Jd)(v:Value):Prop:=∃f,v=.func (.func f) #[] #[]∧(∀args w,(callFunc f args).run Tryz.prog w=.ok (.enter f args) w)∧∀w,Below w0.heap.size w0 w→Calls Tryz.prog f #[.pointer (some ⟨b,0,none⟩)] w (jN w r)
def abU(w0:World)(pt pv b:Nat)(r:Jr Jd)(v:Value):Prop:=∃f,v=dp f pt pv∧(∀args w,(callFunc f args).run Tryz.prog w=.ok (.enter f args) w)∧∀w,Below w0.heap.size w0 w→Calls Tryz.prog f #[qV pt pv,.pointer (some ⟨b,0,none⟩)] w (jN w r)
theorem Hl{w:World}{j:Jd}(hv:Vw j.val){f:FuncId}{args:Array Value}(h:Calls Tryz.prog f args w (Pv w (bU j))):Calls Tryz.prog f args w (jN w (.ok j)):=
 h.mono fun _ _ ⟨he,hb⟩=>⟨hb,he,hv⟩
def abV(w:World)(r pt pv b:Nat)(k:Int)(rs:Jr Jd)(p:cJ):Prop:=
 (∃v,(Instr.lookup 164 (.map (some r)) (.int .u8 k) true).run Tryz.prog w=.ok (.tuple #[v,.bool true]) w∧(abT w b rs v∨abU w pt pv b rs v))∨
 ((Instr.lookup 164 (.map (some r)) (.int .u8 k) true).run Tryz.prog w=.ok (.tuple #[.nilFunc,.bool false]) w∧rs=.error (p,251))
theorem abW{w:World}{pt pv:Nat}{T:List Ty}{L:List Lv}(h:bO w pt pv T L){b:Nat}{x:ao}(hx:bg w b x)(wf:Wf x)(few:ez 1000000 x)(IH:∀y,bq y<bq x→Wf y→ez 1000000 y→df pt pv T L y)(DO:uC)(HST:∀y,0≤cG (aj T L) y∧cG (aj T L) y≤23)(SZ:∀u,0≤(aN T u).1∧(aN T u).1≤65535)(f:Nat)(hf:8*bq x≤f+1){r:Nat}(km:KM fE w r (Ci pt pv)):
 abV w r pt pv b x.kind (fF (aj T L) f x) x.pos:=by
 have hk:∀i,i<x.kids.length→df pt pv T L (kid x i)∧8*bq (kid x i)+8≤f+1:=fun i hi=>by
  have hm:=su hi;have:=Og hi;exact⟨IH _ (by omega) (wf.sub _ hm) (few.sub _ hm),by omega⟩
 have yC:∀i,i<x.kids.length→(kid x i).kind=2→0<(kid x i).kids.length:=fun i hi h2=>by
  have:=(wf.sub _ (su hi)).node.one (.inl h2);omega
 have hat:∀(i:Nat) (y:ao),(x.kids.drop 1)[i]? =some y→i+1<x.kids.length∧y∈x.kids∧8*bq y+8+8*i+8≤8*bq x:=fun i y hi=>by
  rw[List.getElem?_drop,Nat.add_comm 1 i]at hi;have h1:=Hk hi;have h2:=(List.getElem?_eq_some_iff.1 hi).1;rw[AP x];exact⟨h2,List.mem_of_getElem? hi,by omega⟩
 have hsz:=AP x;by_cases k5:x.kind=5
 ·refine .inl ⟨_,by rw[k5];exact(ej Tryz.underlying164 (iM Tryz.underlying5) km 5 rfl).1,.inl ⟨_,rfl,fun args w=>by kernel_rfl,fun w' hb=>?_⟩⟩;rw[show fF (aj T L) f x=.ok ⟨5,.whole x.n,0⟩from if_pos k5];exact Hl (j:=⟨5,.whole x.n,0⟩) (show -32768≤(x.n:Int)∧(x.n:Int)≤65535 from⟨by omega,by have:=wf.node.num k5;omega⟩) (Zu (hx.later hb))
 by_cases k6:x.kind=6
 ·refine .inl ⟨_,by rw[k6];exact(ej Tryz.underlying164 (iM Tryz.underlying5) km 6 rfl).1,.inl ⟨_,rfl,fun args w=>by kernel_rfl,fun w' hb=>?_⟩⟩;rw[show fF (aj T L) f x=.ok ⟨4,.letter (x.n% 256),0⟩by unfold fF;rw[if_neg k5,if_pos k6]];exact Hl (j:=⟨4,.letter (x.n% 256),0⟩) (show x.n% 256<256 by omega) (Zv (hx.later hb))
 by_cases k7:x.kind=7
 ·refine .inl ⟨_,by rw[k7];exact(ej Tryz.underlying164 (iM Tryz.underlying5) km 7 rfl).1,.inl ⟨_,rfl,fun args w=>by kernel_rfl,fun w' hb=>?_⟩⟩;rw[show fF (aj T L) f x=.ok ⟨6,.str x.name,0⟩by unfold fF;rw[if_neg k5,if_neg k6,if_pos k7]];exact Hl (j:=⟨6,.str x.name,0⟩) trivial (Zw (hx.later hb))
 by_cases k1:x.kind=1
 ·refine .inl ⟨_,by rw[k1];exact(ej Tryz.underlying164 (iM Tryz.underlying5) km 1 rfl).1,.inr ⟨_,rfl,fun args w=>by kernel_rfl,fun w' hb=>?_⟩⟩;rw[show fF (aj T L) f x=nameJ (aj T L) x by unfold fF;rw[if_neg k5,if_neg k6,if_neg k7,if_pos k1]];exact NX (h.later hb) (hx.later hb) (by omega)
 by_cases k2:x.kind=2
 ·have hl:=wf.node.one (.inl k2);obtain⟨g,rfl⟩:∃g,f=g+1:=⟨f-1,by have:=lu x;omega⟩;refine .inl ⟨_,by rw[k2];exact(ej Tryz.underlying164 (iM Tryz.underlying5) km 2 rfl).1,.inr ⟨_,rfl,fun args w=>by kernel_rfl,fun w' hb=>?_⟩⟩;rw[show fF (aj T L) (g+1) x=dotJ (aj T L) (g+1) x by unfold fF;rw[if_neg k5,if_neg k6,if_neg k7,if_neg k1,if_pos k2]];exact YY (h.later hb) (hx.later hb) (by omega) (hk 0 (by omega)).1 g (by have:=(hk 0 (by omega)).2;omega)
 by_cases k3:x.kind=3
 ·have hl:=wf.node.two (.inl k3);obtain⟨g,rfl⟩:∃g,f=g+1:=⟨f-1,by have:=lu x;omega⟩;refine .inl ⟨_,by rw[k3];exact(ej Tryz.underlying164 (iM Tryz.underlying5) km 3 rfl).1,.inr ⟨_,rfl,fun args w=>by kernel_rfl,fun w' hb=>?_⟩⟩;rw[show fF (aj T L) (g+1) x=indexJ (aj T L) (g+1) x by unfold fF;rw[if_neg k5,if_neg k6,if_neg k7,if_neg k1,if_neg k2,if_pos k3]];exact YX (h.later hb) (hx.later hb) hl (hk 0 (by omega)).1 (hk 1 (by omega)).1 g (by have:=(hk 0 (by omega)).2;omega) (by have:=(hk 1 (by omega)).2;omega)
 by_cases k4:x.kind=4
 ·have hl:=wf.node.one (.inr (.inl k4));obtain⟨g,rfl⟩:∃g,f=g+1:=⟨f-1,by have:=lu x;omega⟩;refine .inl ⟨_,by rw[k4];exact(ej Tryz.underlying164 (iM Tryz.underlying5) km 4 rfl).1,.inr ⟨_,rfl,fun args w=>by kernel_rfl,fun w' hb=>?_⟩⟩;rw[show fF (aj T L) (g+1) x=derefJ (aj T L) (g+1) x by unfold fF;rw[if_neg k5,if_neg k6,if_neg k7,if_neg k1,if_neg k2,if_neg k3,if_pos k4]];exact YW (h.later hb) (hx.later hb) (by omega) (hk 0 (by omega)).1 g (by have:=(hk 0 (by omega)).2;omega)
 by_cases k8:x.kind=8
 ·have hl:=wf.node.some (.inl k8);obtain⟨g,rfl⟩:∃g,f=g+1:=⟨f-1,by have:=lu x;omega⟩;refine .inl ⟨_,by rw[k8];exact(ej Tryz.underlying164 (iM Tryz.underlying5) km 8 rfl).1,.inr ⟨_,rfl,fun args w=>by kernel_rfl,fun w' hb=>?_⟩⟩;rw[show fF (aj T L) (g+1) x=setJ (aj T L) (g+1) x by unfold fF;rw[if_neg k5,if_neg k6,if_neg k7,if_neg k1,if_neg k2,if_neg k3,if_neg k4,if_pos k8]];have hlen:x.kids.length≤lr x.kids:=by
   have:=Hk (List.getElem?_eq_getElem (l:=x.kids) (i:=0) (by omega));have:=lu (x.kids[0]'(by omega));omega
  refine ZC (h.later hb) (hx.later hb) (by omega) (yC 0 (by omega)) few.len g (by omega) (fun i y hi=>?_);obtain⟨h1,h2,h3⟩:=hat i y hi;unfold Bn;split
  ·rename_i k9;have h4:=(wf.sub y h2).node.two (.inr (.inl k9));have hs:∀j,j<2→df pt pv T L (kid y j)∧8*bq (kid y j)+2+i≤g:=fun j hj=>by
    have h5:=Og (t:=y) (i:=j) (by omega);have h6:=su (t:=y) (i:=j) (by omega);exact⟨IH _ (by omega) ((wf.sub y h2).sub _ h6) ((few.sub y h2).sub _ h6),by omega⟩
   exact⟨h4,hs 0 (by omega),hs 1 (by omega)⟩
  ·exact⟨IH _ (by omega) (wf.sub y h2) (few.sub y h2),by omega⟩
 by_cases k12:x.kind=12
 ·have hl:=wf.node.one (.inr (.inr k12));obtain⟨g,rfl⟩:∃g,f=g+1:=⟨f-1,by have:=lu x;omega⟩;refine .inl ⟨_,by rw[k12];exact(ej Tryz.underlying164 (iM Tryz.underlying5) km 12 rfl).1,.inr ⟨_,rfl,fun args w=>by kernel_rfl,fun w' hb=>?_⟩⟩;rw[show fF (aj T L) (g+1) x=oneJ (aj T L) (g+1) x by unfold fF;rw[if_neg k5,if_neg k6,if_neg k7,if_neg k1,if_neg k2,if_neg k3,if_neg k4,if_neg k8,if_pos k12]];exact Zd (h.later hb) (hx.later hb) (by omega) (hk 0 (by omega)).1 g (by have:=(hk 0 (by omega)).2;omega)
 by_cases k11:x.kind=11
 ·have hl:=wf.node.two (.inr (.inr k11));refine .inl ⟨_,by rw[k11];exact(ej Tryz.underlying164 (iM Tryz.underlying5) km 11 rfl).1,.inr ⟨_,rfl,fun args w=>by kernel_rfl,fun w' hb=>?_⟩⟩;rw[show fF (aj T L) f x=(exprJ (aj T L) f (kid x 0) >>= fun a=>exprJ (aj T L) f (kid x 1) >>= fun b=>iV (aj T L) x a b)by unfold fF;rw[if_neg k5,if_neg k6,if_neg k7,if_neg k1,if_neg k2,if_neg k3,if_neg k4,if_neg k8,if_neg k12,if_pos k11]];exact Zn (h.later hb) (hx.later hb) hl (hk 0 (by omega)).1 (hk 1 (by omega)).1 f (by have:=(hk 0 (by omega)).2;omega) (by have:=(hk 1 (by omega)).2;omega) DO
 by_cases k10:x.kind=10
 ·have hl:=wf.node.some (.inr k10);have h0:=hk 0 (by omega);have VY:=lu (kid x 0);obtain⟨g,rfl⟩:∃g,f=g+4+1:=⟨f-5,by omega⟩;refine .inl ⟨_,by rw[k10];exact(ej Tryz.underlying164 (iM Tryz.underlying5) km 10 rfl).1,.inr ⟨_,rfl,fun args w=>by kernel_rfl,fun w' hb=>?_⟩⟩;rw[show fF (aj T L) (g+4+1) x=funJ (aj T L) (g+4+1) x by unfold fF;rw[if_neg k5,if_neg k6,if_neg k7,if_neg k1,if_neg k2,if_neg k3,if_neg k4,if_neg k8,if_neg k12,if_neg k11,if_pos k10]];refine ZG (h.later hb) (hx.later hb) (by omega) (yC 0 (by omega)) few.len g h0.1 (by omega) (fun i y hi=>?_) (HST _) SZ;obtain⟨h1,h2,h3⟩:=hat i y hi;refine⟨IH _ (by omega) (wf.sub y h2) (few.sub y h2),by omega,fun k2=>?_⟩;have:=(wf.sub y h2).node.one (.inl k2);omega
 ·refine .inr ⟨(lY (z:=.nilFunc) Tryz.underlying164 (iM Tryz.underlying5) (fun w=>by kernel_rfl) km x.kind ?_).1,?_⟩
  ·unfold bm Ci;have e:∀{a b:Int},¬a=b→(decide (b=a))=false:=fun h=>decide_eq_false (fun h2=>h h2.symm)
   simp[Ne.symm k5,Ne.symm k6,Ne.symm k7,Ne.symm k1,Ne.symm k2,Ne.symm k3,Ne.symm k4,Ne.symm k8,Ne.symm k12,Ne.symm k11,Ne.symm k10]
  ·unfold fF;rw[if_neg k5,if_neg k6,if_neg k7,if_neg k1,if_neg k2,if_neg k3,if_neg k4,if_neg k8,if_neg k12,if_neg k11,if_neg k10]
set_option maxHeartbeats 4000000 in
theorem abX{pt pv:Nat}{T:List Ty}{L:List Lv}{x:ao}(wf:Wf x)(few:ez 1000000 x)(IH:∀y,bq y<bq x→Wf y→ez 1000000 y→df pt pv T L y)(DO:uC)(HST:∀y,0≤cG (aj T L) y∧cG (aj T L) y≤23)(SZ:∀u,0≤(aN T u).1∧(aN T u).1≤65535):df pt pv T L x:=by
 intro N hN w b h hx;obtain⟨f,rfl⟩:∃f,N=f+1:=⟨N-1,by have:=lu x;omega⟩;have HKL:=aa (fun w' (hb:Below w.heap.size w w') (r:Nat) (km:KM fE w' r (Ci pt pv))=>abW (h.later hb) (hx.later hb) wf few IH DO HST SZ f hN km);have H:=aa h;have HX:=aa hx;generalize hrr:exprJ (aj T L) (f+1) x=r;have HV:=aa (show r=(fF (aj T L) f x >>= fun j=>aI (decide (aJ T j.type≠0)) x 252 >>= fun _=>.ok j)from hrr.symm.trans (abS (aj T L) f x));generalize fF (aj T L) f x=rs at HV HKL;clear hrr hN IH wf few HST SZ DO h hx;dsimp only[qV,qC];go_enter Tryz.func37,Tryz.ntmps37;go_upto_region 1 with(fail);generalize az:w.alloc _=w1;obtain⟨ae,x1,aE⟩:=made az;generalize aU:w1.alloc _=w2;obtain⟨af,x2,bu⟩:=made aU;rw[aE]at x2;have B2:=aa (bb ae af);have X1:=aa (x1.grow af);have X2:=aa x2;have z1:=X1.out.cell;have l1:=X1.out.lt;clear az ae aE x1 aU af bu x2;go_upto_region 2 with(fail);generalize cU:cC fE w2 _=w3;obtain⟨ad,yq⟩:=AZ cU;have KMh:=aa (show KM fE w3 w2.heap.size (Ci pt pv)from yq);have B3:=ah B2 ad;have X1:=aa (X1.out.grow ad);have X2:=aa (X2.out.grow ad);clear ad;have z1:=X1.out.cell;have l1:=X1.out.lt;clear cU yq;have jE:=aa (HX.out.later B3.out);obtain⟨Ax,cx,k0x,k1x,k2x,k3x,k4x,hkidx⟩:=(HX.out.later B3.out).cells;have lbx:=aQ k0x;have KIDx:=aa hkidx;clear hkidx;have hkl:=HKL.out w3 B3.out _ KMh.out;clear HKL KMh;rcases hkl with⟨v,l1,hv⟩|⟨l1,hv⟩;case inr=>
  have aq:=aa (show r=.error (x.pos,251)by rw[HV.out,hv];rfl);clear hv HV;go_wp2_with fail;refine(eg jE.out 251).mono ?_;rintro e wq ⟨rfl,rfl⟩;exact bj aq.out B3.out rfl
 have HFN:=aa hv;clear hv;go_wp2_with fail;refine(da jE.out 251).mono ?_;rintro e wq ⟨rfl,rfl⟩;clear l1;go_upto_region 4 with(fail);go_cut [8] (fun u w'=>∃(t:Int) (v:aL) (i:Int) (b6:Nat),u=.pointer (some ⟨b6,0,none⟩)∧Below w3.heap.size w3 w'∧Bx b6 #[.int .i64 t,aK v,.int .u8 i] 29 w'∧Vw v∧r=(aI (decide (aJ T t≠0)) x 252 >>= fun _=>.ok ⟨t,v,i⟩));case first=>
  rcases HFN.out with⟨fn,rfl,hcf,hca⟩|⟨fn,rfl,hcf,hca⟩
  ·have HCA:=aa hca;clear hca HFN;cases rs with
   |error q=>
    exact Rb
   |ok j=>
    exact Rd
  ·have HCA:=aa hca;dsimp only[dp,qV,qC];dsimp only[qV,qC]at HCA;clear hca HFN;cases rs with
   |error q=>
    exact Rb
   |ok j=>
    exact Rd
 case rest=>
 obtain⟨t,vv,i,b6,rfl,aD,x6,hvw,hv⟩:=hcut;have J6:=aa x6;have VW:=aa hvw;have aq:=aa hv;have B6:=ah B3 aD;have X1:=aa (X1.out.grow aD);have X2:=aa (X2.out.grow aD);clear aD;have z1:=X1.out.cell;have l1:=X1.out.lt;have z6:=J6.out.cell;have l6:=J6.out.lt;have dV:=aa (HX.out.later B6.out);have HKD:=aa (fun w (h:bO w pt pv T L)=>nN h t);clear x6 hvw hv HV HFN jE;generalize aJ T t=kk at *;go_wp2_with fail;refine(HKD.out _ (H.out.later B6.out)).mono ?_;rintro e w7 ⟨rfl,aC⟩;have B7:=ah B6 aC;have X1:=aa (X1.out.grow aC);have X2:=aa (X2.out.grow aC);have J6:=aa (J6.out.grow aC);clear aC;have z2:=X2.out.cell;have f2:=X2.out.frozen;have l2:=X2.out.lt;have z6:=J6.out.cell;have f6:=J6.out.frozen;have l6:=J6.out.lt;have iy:=aa (HX.out.later B7.out);by_cases hkk:kk=0
 ·subst hkk;have ar:=aa (show r=.error (x.pos,252)from aq.out);exact Oq
 have ar:=aa (show r=.ok ⟨t,vv,i⟩by have:=aq.out;rw[decide_eq_true hkk]at this;exact this);have d0:=beq_eq_false_iff_ne.2 hkk;have d0b:(kk != 0)=true:=bne_iff_ne.2 hkk;go_wp2_with fail;refine(da iy.out 252).mono ?_;rintro e wq ⟨rfl,rfl⟩;go_wp2_with fail;exact ef rfl ⟨t,vv,i⟩ X2.out B7.out (by omega) rfl rfl ar.out VW.out
theorem Re{pt pv:Nat}{T:List Ty}{L:List Lv}(DO:uC)(HST:∀y,0≤cG (aj T L) y∧cG (aj T L) y≤23)(SZ:∀u,0≤(aN T u).1∧(aN T u).1≤65535):∀(n:Nat) (x:ao),bq x≤n→Wf x→ez 1000000 x→df pt pv T L x
 |0,x,h,_,_=>absurd h (by have:=lu x;omega)
 |n+1,x,h,wf,few=>abX wf few (fun y hy w f=>Re DO HST SZ n y (by omega) w f) DO HST SZ
theorem abY{pt pv:Nat}{T:List Ty}{L:List Lv}(DO:uC)(HST:∀y,0≤cG (aj T L) y∧cG (aj T L) y≤23)(SZ:∀u,0≤(aN T u).1∧(aN T u).1≤65535){x:ao}(wf:Wf x)(few:ez 1000000 x):df pt pv T L x:=Re DO HST SZ (bq x) x (Nat.le_refl _) wf few
@[go_sem] theorem ajo(x y:Value)(w:World):(Instr.typeAssert (.iface 163 (.agg #[x,y])) 20 163 false).run Tryz.prog w=.ok (.agg #[x,y]) w:=by kernel_rfl
theorem abZ{w:World}{a b:Nat}{x y:Value}(ha:Bx a #[x] 30 w)(hb:Bx b #[y] 31 w)(hab:a≠b)(p:cJ)(c:Int)(older:List PanicEntry):
 CallsD Tryz.prog 59 #[.pointer (some ⟨a,0,none⟩),.pointer (some ⟨b,0,none⟩)] (.panicking ({v:=AD p c,recovered:=false}::older)) w fun e u' w'=>
  e=.returned (.tuple #[])∧u'=.panicking ({v:=AD p c,recovered:=true}::older)∧∃W,Below w.heap.size w W∧w'=(W.setCell ⟨a,0,none⟩ (jM p)).setCell ⟨b,0,none⟩ (.int .i64 c):=by
 refine callsD_of_wpS Tryz.func59 rfl fun c₀ cs hu=>?_
 apply wpS_seq;apply wpS_region;simp[wpOpsS,go_sem,recoverD,hu,Tryz.ntmps59,Exit.thenS];refine wpS_of_wp ?_;have za:=fun j=>ha.cell j
 have zb:=fun j=>hb.cell j
 have f1:=fun j=>ha.frozen j
 have f2:=fun j=>hb.frozen j
 have la:=ha.lt;have lb:=hb.lt;unfold AD;show Code.wp _ _ _ ⟨#[.pointer (some ⟨a,0,none⟩),.pointer (some ⟨b,0,none⟩),.iface 163 (.agg #[jM p,.int .i64 c]),undef,.iface 163 (.agg #[jM p,.int .i64 c]),undef,undef,undef,undef,undef,undef,undef,undef],[]⟩ w;have HA:=aa ha;have HB:=aa hb;go_upto_region 3 with(fail);generalize az:w.alloc _=w1;obtain⟨ae,x1,aE⟩:=made az;have X1:=aa x1;have B1:=aa ae;have A1:=aa (HA.out.grow ae);have A2:=aa (HB.out.grow ae);clear az x1 ae za zb f1 f2 la lb ha hb;have z1:=X1.out.cell;have f1:=X1.out.frozen;have l1:=X1.out.lt;have z1:=A1.out.cell;have f1:=A1.out.frozen;have l1:=A1.out.lt;have z2:=A2.out.cell;have f2:=A2.out.frozen;have l2:=A2.out.lt
 go_region
 exact⟨rfl,_,rfl,.tuple #[],by simp[results],rfl,rfl,w1.drew,B1.out.drew,rfl⟩
theorem ab0(a b:Nat)(w:World):
 CallsD Tryz.prog 59 #[.pointer (some ⟨a,0,none⟩),.pointer (some ⟨b,0,none⟩)] .returning w fun e u' w'=>e=.returned (.tuple #[])∧u'=.returning∧w'=w:=by
 refine callsD_of_wpS Tryz.func59 rfl fun c₀ cs hu=>?_
 apply wpS_seq;apply wpS_region;simp[wpOpsS,go_sem,recoverD,hu,Tryz.ntmps59,Exit.thenS];refine wpS_of_wp ?_;show Code.wp _ _ _ ⟨#[.pointer (some ⟨a,0,none⟩),.pointer (some ⟨b,0,none⟩),.nilIface,undef,.nilIface,undef,undef,undef,undef,undef,undef,undef,undef],[]⟩ w;go_wp2_with fail;exact⟨rfl,.returning,by rw[←hu],.tuple #[],by simp[results],rfl,rfl,rfl⟩
def ab1(w:World)(b2:Nat)(r:Jr Jd)(e:Ending)(w':World):Prop:=∃W,Below w.heap.size w W∧match r with
 |.ok j=>e=.returned (.tuple #[])∧Vw j.val∧w'=((W.setCell ⟨b2,0,none⟩ (.int .i64 j.type)).setCell ⟨b2,1,none⟩ (aK j.val)).setCell ⟨b2,2,none⟩ (.int .u8 j.is)
 |.error q=>e=.panicked (sj q.1 q.2)∧w'=W
theorem ab2{w:World}{pt pv:Nat}{T:List Ty}{L:List Lv}(h:bO w pt pv T L){b:Nat}{x:ao}(hx:bg w b x)(E:df pt pv T L x)(N:Nat)(hN:8*bq x≤N){b1 b2:Nat}{y0 y1 y2:Value}(x1:Bx b1 #[.pointer (some ⟨b,0,none⟩)] 26 w)(x2:Bx b2 #[y0,y1,y2] 29 w):
 Calls Tryz.prog 36 #[qV pt pv,.pointer (some ⟨b1,0,none⟩),.pointer (some ⟨b2,0,none⟩)] w (ab1 w b2 (exprJ (aj T L) N x)):=by
 have HC:=aa (fun w' (hb:Below w.heap.size w w')=>E N hN w' b (h.later hb) (hx.later hb));have Y1:=aa x1;have Y2:=aa x2;generalize exprJ (aj T L) N x=r at *;clear x1 x2 h hx E hN;dsimp only[qV,qC];dsimp only[qV,qC]at HC;go_enter Tryz.func36,Tryz.ntmps36;go_upto_region 1 with(fail);generalize az:w.alloc _=w1;obtain⟨ae,x1,aE⟩:=made az;have B1:=aa ae;have X1:=aa x1;have z1:=X1.out.cell;have l1:=X1.out.lt;clear az ae aE x1;have Y1:=aa (Y1.out.grow B1.out);have Y2:=aa (Y2.out.grow B1.out);have z1:=Y1.out.cell;have l1:=Y1.out.lt;cases r with
 |error q=>
  obtain⟨p,c⟩:=q;go_wp2_with fail;refine(HC.out _ B1.out).mono ?_;rintro e w3 ⟨ad,rfl⟩;exact⟨rfl,w3,bb B1.out ad,rfl,rfl⟩
 |ok j=>
  obtain⟨t,v,i⟩:=j;go_wp2_with fail;refine(HC.out _ B1.out).mono ?_;rintro e w3 ⟨ad,rfl,hv⟩;have VW:=aa hv;have B3:=ah B1 ad;have Y2:=aa (Y2.out.grow ad);have z2:=Y2.out.cell;have f2:=Y2.out.frozen;have l2:=Y2.out.lt;dsimp only[bU,kJ];clear hv ad;go_wp2_with fail;exact sm rfl rfl ⟨w3,B3.out,rfl,VW.out,rfl⟩
theorem Rf{w:World}{a b:Nat}{x y:Value}{tmps:Array Value}(ha:Bx a #[x] 30 w)(hb:Bx b #[y] 31 w)(h6:tmps.getD 6 undef=.pointer (some ⟨a,0,none⟩))(h7:tmps.getD 7 undef=.pointer (some ⟨b,0,none⟩)):(results Tryz.f35 tmps).run Tryz.prog w=.ok (.tuple #[x,y]) w:=by
 have h6':tmps[6]?.getD undef=.pointer (some ⟨a,0,none⟩):=by simpa using h6
 have h7':tmps[7]?.getD undef=.pointer (some ⟨b,0,none⟩):=by simpa using h7
 have c1:w.cell? ⟨a,0,none⟩=some x:=ha.cell 0;have c2:w.cell? ⟨b,0,none⟩=some y:=hb.cell 0;simp[results,Tryz.results35,h6',h7',asAddr,go_sem,c1,c2]
theorem Rg{w:World}{k b:Nat}{cs:Array Value}{t:TypeId}(h:Bx k cs t w)(hk:k≠b)(v0 v1 v2:Value):Bx k cs t (((w.setCell ⟨b,0,none⟩ v0).setCell ⟨b,1,none⟩ v1).setCell ⟨b,2,none⟩ v2):=((h.far (a:=⟨b,0,none⟩) hk _).far (a:=⟨b,1,none⟩) hk _).far (a:=⟨b,2,none⟩) hk _
def ab3(B:Nat)(w:World)(b2:Nat)(y0 y1 y2:Value)(r:Jr Jd)(e:Ending)(w':World):Prop:=Below B w w'∧match r with
 |.ok j=>e=.returned (.tuple #[.complex .f64 0 0,.int .i64 0])∧Vw j.val∧Bx b2 (kJ j) 29 w'
 |.error q=>e=.returned (.tuple #[jM q.1,.int .i64 q.2])∧Bx b2 #[y0,y1,y2] 29 w'
theorem ab4{w:World}{pt pv:Nat}{T:List Ty}{L:List Lv}(h:bO w pt pv T L){b:Nat}{x:ao}(hx:bg w b x)(E:df pt pv T L x)(N:Nat)(hN:8*bq x≤N){b1 b2:Nat}{y0 y1 y2:Value}(x1:Bx b1 #[.pointer (some ⟨b,0,none⟩)] 26 w)(x2:Bx b2 #[y0,y1,y2] 29 w){B:Nat}(hB:B≤b2):
 Calls Tryz.prog 35 #[.pointer (some ⟨pt,0,none⟩),.pointer (some ⟨pv,0,none⟩),.func (.func 36) #[] #[.pointer (some ⟨b1,0,none⟩),.pointer (some ⟨b2,0,none⟩)]] w (ab3 B w b2 y0 y1 y2 (exprJ (aj T L) N x)):=by
 have HC:=aa (fun w' (hb:Below w.heap.size w w')=>ab2 (h.later hb) (hx.later hb) E N hN (x1.grow hb) (x2.grow hb));have Y2:=aa x2;have HBB:=aa hB;have HLT:=aa (show b2<w.heap.size from x2.lt);generalize exprJ (aj T L) N x=r at *;clear x1 x2 h hx E hN hB;dsimp only[qV,qC]at HC
 go_enter_defers Tryz.func35,Tryz.ntmps35
 go_upto_region 1 with(fail);generalize az:w.alloc _=w1;obtain⟨ae,x1,aE⟩:=made az;generalize aU:w1.alloc _=w2;obtain⟨af,x2,bu⟩:=made aU;rw[aE]at x2;have B2:=aa (bb ae af);have X1:=aa (x1.grow af);have X2:=aa x2;have z1:=X1.out.cell;have l1:=X1.out.lt;clear az ae aE x1 aU af bu x2;cases r with
 |error q=>
  obtain⟨p,c⟩:=q;go_wp2_with fail;refine(HC.out _ B2.out).mono ?_;rintro e w3 ⟨W,ad,rfl,rfl⟩;have Y1:=X1.out.grow ad;have Y3:=X2.out.grow ad;have hne:w.heap.size≠w.heap.size+1:=by omega
  show bodyPostD _ _ _ (.panic (sj p c)) _ _;refine leaves_cons (f:=59) (args:=#[.pointer (some ⟨w.heap.size,0,none⟩),.pointer (some ⟨w.heap.size+1,0,none⟩)]) (by simp) (by simp[go_sem]) ?_;refine(abZ Y1 Y3 hne p c []).mono ?_;rintro e u' w4 ⟨rfl,rfl,W2,aw,rfl⟩;show Leaves _ _ _ _ [] .returning _;refine⟨_,Rf (((Y1.grow aw).set 0 _).far (a:=⟨w.heap.size+1,0,none⟩) hne _) (((Y3.grow aw).far (a:=⟨w.heap.size,0,none⟩) hne.symm _).set 0 _) rfl rfl,?_,rfl,?_⟩
  ·exact(((bb (bb B2.out ad) aw).setCell (Nat.le_refl _) _).setCell (Nat.le_succ _) _).mono (by have:=HBB.out;have:=HLT.out;omega)
  ·exact((((Y2.out.grow B2.out).grow ad).grow aw).far (a:=⟨w.heap.size,0,none⟩) (by have:=HLT.out;show b2≠w.heap.size;omega) _).far (a:=⟨w.heap.size+1,0,none⟩) (by have:=HLT.out;show b2≠w.heap.size+1;omega) _
 |ok j=>
  obtain⟨t,v,i⟩:=j;go_wp2_with fail;refine(HC.out _ B2.out).mono ?_;rintro e w3 ⟨W,ad,rfl,hv,rfl⟩;have C3:=aa (mS (v0:=.int .i64 t) (v1:=aK v) (v2:=.int .u8 i) ((bb B2.out ad).mono (Nat.le_trans HBB.out (Nat.le_of_lt HLT.out))) HBB.out);have Z2:=aa (pw ((Y2.out.grow B2.out).grow ad) ⟨t,v,i⟩);have Y1:=aa (Rg (X1.out.grow ad) (show w.heap.size≠b2 by have:=HLT.out;omega) (.int .i64 t) (aK v) (.int .u8 i));have Y3:=aa (Rg (X2.out.grow ad) (show w.heap.size+1≠b2 by have:=HLT.out;omega) (.int .i64 t) (aK v) (.int .u8 i));have VW:=aa hv;dsimp only at C3 Z2 Y1 Y3 ⊢;generalize((W.setCell ⟨b2,0,none⟩ (.int .i64 t)).setCell ⟨b2,1,none⟩ (aK v)).setCell ⟨b2,2,none⟩ (.int .u8 i)=w3 at *;clear ad hv HC;have z1:=Y1.out.cell;have f1:=Y1.out.frozen;have l1:=Y1.out.lt;have z3:=Y3.out.cell;have f3:=Y3.out.frozen;have l3:=Y3.out.lt;go_wp2_with fail;have hne:w.heap.size≠w.heap.size+1:=by omega
  refine leaves_cons (f:=59) (args:=#[.pointer (some ⟨w.heap.size,0,none⟩),.pointer (some ⟨w.heap.size+1,0,none⟩)]) (by simp) (by simp[go_sem]) ?_;refine(ab0 _ _ _).mono ?_;rintro e u' w4 ⟨rfl,rfl,rfl⟩;show Leaves _ _ _ _ [] .returning _;refine⟨_,Rf ((Y1.out.set 0 _).far (a:=⟨w.heap.size+1,0,none⟩) hne _) ((Y3.out.far (a:=⟨w.heap.size,0,none⟩) hne.symm _).set 0 _) rfl rfl,?_,rfl,VW.out,?_⟩
  ·exact((C3.out.setCell (p:=⟨w.heap.size,0,none⟩) (by have:=HBB.out;have:=HLT.out;show B≤w.heap.size;omega) _).setCell (p:=⟨w.heap.size+1,0,none⟩) (by have:=HBB.out;have:=HLT.out;show B≤w.heap.size+1;omega) _)
  ·exact(Z2.out.far (a:=⟨w.heap.size,0,none⟩) (by have:=HLT.out;show b2≠w.heap.size;omega) _).far (a:=⟨w.heap.size+1,0,none⟩) (by have:=HLT.out;show b2≠w.heap.size+1;omega) _
theorem aca{P:Program}{fn:Func}{p u v:Tmp}{ty:TypeId}(h:fn.results=#[.cell p ty,.tmp u,.tmp v])(tmps:Array Value)(w:World)(g:Nat)(t:TypeId)(cs:Array Value)(fr:Nat×Nat)(d:TypeDesc)
 (hp:tmps.getD p undef=.pointer (some ⟨g,0,none⟩)) (hg:w.heap[g]? =some (.cells cs t fr))
 (hu:P.underlying ty=some d) (hd:(match d with|.struct _|.array _ _=>true|_=>false)=true) (hi:(P.info? ty).map (·.size)=some cs.size):
 (results fn tmps).run P w=.ok (.tuple #[.agg cs,tmps.getD u undef,tmps.getD v undef]) w:=by
 have hp':tmps[p]?.getD undef=.pointer (some ⟨g,0,none⟩):=by simpa using hp
 simp[results,h,hp',asAddr,run_loadVar_row w g t ty cs fr d hg hu hd hi]
theorem Rk{fn:Func}(hfn:fn.results=#[.cell 6 29,.tmp 7,.tmp 8]){wF:World}(j:Jd){u v:Value}{R:Ending→World→Prop}{tmps:Array Value}{ds:List Deferred}{k:Nat}(X:Bx k (kJ j) 29 wF)(hd:ds=[])
 (hp:tmps.getD 6 undef=.pointer (some ⟨k,0,none⟩)) (h7:tmps.getD 7 undef=u) (h8:tmps.getD 8 undef=v) (hR:R (.returned (.tuple #[bU j,u,v])) wF):bodyPost Tryz.prog fn R .ret ⟨tmps,ds⟩ wF:=by
 subst h7 h8;exact bodyPost_ret (aca hfn tmps _ k _ _ (0,0) _ hp X Tryz.underlying29 rfl (info29.trans rfl)) hd hR
def Cl:Jd:=⟨0,.none,0⟩
def acb(w:World)(r:Jr Jd)(e:Ending)(w':World):Prop:=Below w.heap.size w w'∧match r with
 |.ok j=>e=.returned (.tuple #[bU j,.complex .f64 0 0,.int .i64 0])∧Vw j.val
 |.error q=>e=.returned (.tuple #[bU Cl,jM q.1,.int .i64 q.2])
theorem acd{w:World}{pt pv:Nat}{T:List Ty}{L:List Lv}(h:bO w pt pv T L){b:Nat}{x:ao}(hx:bg w b x)(E:df pt pv T L x)(N:Nat)(hN:8*bq x≤N)(hc:∀q,exprJ (aj T L) N x=.error q→q.2≠0):
 Calls Tryz.prog 10 #[.pointer (some ⟨pt,0,none⟩),.pointer (some ⟨pv,0,none⟩),.pointer (some ⟨b,0,none⟩)] w (acb w (exprJ (aj T L) N x)):=by
 have HC:=aa (fun w' (hb:Below w.heap.size w w') b1 b2 y0 y1 y2 (x1:Bx b1 #[.pointer (some ⟨b,0,none⟩)] 26 w') (x2:Bx b2 #[y0,y1,y2] 29 w') (hB:w.heap.size≤b2)=>ab4 (h.later hb) (hx.later hb) E N hN x1 x2 hB);have HR:=aa hc;generalize exprJ (aj T L) N x=r at *;clear h hx E hN hc;go_enter Tryz.func10,Tryz.ntmps10;go_upto_region 1 with(fail);generalize az:w.alloc _=w1;obtain⟨ae,x1,aE⟩:=made az;generalize aU:w1.alloc _=w2;obtain⟨af,x2,bu⟩:=made aU;rw[aE]at x2;have B2:=aa (bb ae af);have X1:=aa (x1.grow af);have X2:=aa x2;have z1:=X1.out.cell;have l1:=X1.out.lt;clear az ae aE x1 aU af bu x2;cases r with
 |error q=>
  obtain⟨p,c⟩:=q;have fJ:=HR.out _ rfl;dsimp only at fJ;go_wp2_with fail;refine(HC.out _ B2.out _ _ _ _ _ X1.out X2.out (Nat.le_succ _)).mono ?_;rintro e w3 ⟨ad,rfl,x3⟩;have Y3:=aa x3;have B3:=aa (B2.out.trans ad);have hcb:(c != 0)=true:=bne_iff_ne.2 fJ;have z3:=Y3.out.cell;have f3:=Y3.out.frozen;have l3:=Y3.out.lt;clear ad x3;go_wp2_with fail;exact Rk rfl Cl (pw Y3.out Cl) rfl rfl rfl rfl ⟨mS B3.out (Nat.le_succ _),rfl⟩
 |ok j=>
  obtain⟨t,v,i⟩:=j;go_wp2_with fail;refine(HC.out _ B2.out _ _ _ _ _ X1.out X2.out (Nat.le_succ _)).mono ?_;rintro e w3 ⟨ad,rfl,hv,x3⟩;have Y3:=aa (show Bx (w.heap.size+1) #[.int .i64 t,aK v,.int .u8 i] 29 w3 from x3);have B3:=aa (B2.out.trans ad);have VW:=aa hv;have z3:=Y3.out.cell;have f3:=Y3.out.frozen;have l3:=Y3.out.lt;clear ad x3 hv;go_wp2_with fail;exact Rk rfl ⟨t,v,i⟩ (pw Y3.out ⟨t,v,i⟩) rfl rfl rfl rfl ⟨mS B3.out (Nat.le_succ _),rfl,VW.out⟩
end Go.Proofs.YtlpombjidhloiaaGreat
namespace Go.Proofs.YtlpombjidhloiaaGreat
def EN{α:Type}:Jr α→Prop
 |.ok _=>True
 |.error q=>q.2≠0
theorem gp{α β:Type}{a:Jr α}{f:α→Jr β}(h:EN a)(hf:∀v,EN (f v)):EN (a >>= f):=by
 cases a with
 |ok v=>exact hf v
 |error e=>exact h
theorem iN{b:Bool}{x:ao}{e:Int}(h:e≠0):EN (aI b x e):=by
 cases b
 ·exact h
 ·exact trivial
theorem eR{α:Type}{v:α}:EN (.ok v:Jr α):=trivial
theorem gS{α:Type}{p:cJ}{e:Int}(h:e≠0):EN (.error (p,e):Jr α):=h
theorem iq{α:Type}{c:Prop} [Decidable c]{a b:Jr α}(ha:EN a)(hb:EN b):EN (if c then a else b):=by
 split
 ·exact ha
 ·exact hb
section
variable (V:ea)
theorem Cj(x:ao):EN (eX V x):=by
 unfold eX;split
 ·exact Hm
 split
 ·exact Hm
 ·exact gS (by decide)
theorem Rh(x:ao):EN (nameJ V x):=by
 have h:=Cj V x;unfold nameJ;cases hn:eX V x with
 |error e=>rw[hn]at h;exact h
 |ok e=>
  try dsimp only
  repeat' (first|exact eR|exact gS (by decide)|apply iq)
theorem Ri(T:List Ty)(x:ao)(t:Int)(r:aL×Int):EN (cS T x t r):=by
 unfold cS
 repeat' (first|exact eR|exact gS (by decide)|apply iq)
theorem ab5(T:List Ty)(x:ao)(a b:Jd):EN (gC T x a b):=by
 unfold gC;split
 ·exact eR
 ·split
  ·rename_i e h;have:=iN (b:=decide (a.type≠5)||decide (b.type=5)||eh T a.val (aP T b.type)) (x:=kid x 0) (e:=254) (by decide);rw[h]at this;exact this
  ·exact iN (by decide)
theorem ab6(x:ao)(a b:Jd):EN (iV V x a b):=by
 unfold iV;dsimp only
 repeat' (first|exact eR|exact gS (by decide)|exact iN (by decide)|exact Ri _ _ _ _|exact ab5 _ _ _ _|apply iq|apply gp|intro _)
theorem ab7(x:ao):EN (ki V x):=by
 unfold ki
 repeat' (first|exact eR|exact iN (by decide)|exact Cj V _|apply gp|intro _)
structure Ck(f:Nat):Prop where
 expr:∀x,EN (exprJ V f x)
 dot:∀x,EN (dotJ V f x)
 index:∀x,EN (indexJ V f x)
 deref:∀x,EN (derefJ V f x)
 elem:∀x t,EN (elemJ V f x t)
 set:∀x,EN (setJ V f x)
 elems:∀l t a k,EN (ff V f l t a k)
 one:∀x,EN (oneJ V f x)
 fn:∀x,EN (funJ V f x)
 sized:∀x,EN (sizedJ V f x)
 call:∀x l d,EN (callJ V f x l d)
 args:∀l ps,EN (gD V f l ps)
 std:∀x s l d,EN (stdCallJ V f x s l d)
 plain:∀x,EN (plainJ V f x)
 whole:∀x,EN (wholeJ V f x)
theorem ab8:Ck V 0 where
 expr:=fun x=>by rw[exprJ];exact gS (by decide)
 dot:=fun x=>by rw[dotJ];exact gS (by decide)
 index:=fun x=>by rw[indexJ];exact gS (by decide)
 deref:=fun x=>by rw[derefJ];exact gS (by decide)
 elem:=fun x t=>by rw[elemJ];exact gS (by decide)
 set:=fun x=>by rw[setJ];exact gS (by decide)
 elems:=fun l t a k=>by rw[ff];exact gS (by decide)
 one:=fun x=>by rw[oneJ];exact gS (by decide)
 fn:=fun x=>by rw[funJ];exact gS (by decide)
 sized:=fun x=>by rw[sizedJ];exact gS (by decide)
 call:=fun x l d=>by rw[callJ];exact gS (by decide)
 args:=fun l ps=>by rw[gD];exact gS (by decide)
 std:=fun x s l d=>by rw[stdCallJ];exact gS (by decide)
 plain:=fun x=>by rw[plainJ];exact gS (by decide)
 whole:=fun x=>by rw[wholeJ];exact gS (by decide)
theorem ab9{f:Nat}(h:Ck V f):Ck V (f+1) where
 expr:=fun x=>by
  rw[exprJ]
  repeat' (first|exact eR|exact gS (by decide)|exact iN (by decide)|exact h.expr _|exact h.dot _|exact h.index _|exact h.deref _|exact h.set _|exact h.one _|exact h.fn _|exact Rh V _|exact ab6 V _ _ _|apply iq|apply gp|intro _)
 dot:=fun x=>by
  rw[dotJ];refine iq (Rh V x) (gp (h.expr _) fun j=>gp (iN (by decide)) fun _=>gp (iN (by decide)) fun _=>?_);exact Hm
 index:=fun x=>by
  rw[indexJ]
  try dsimp only
  repeat' (first|exact eR|exact iN (by decide)|exact h.expr _|apply iq|apply gp|intro _)
 deref:=fun x=>by
  rw[derefJ]
  try dsimp only
  repeat' (first|exact eR|exact iN (by decide)|exact h.expr _|apply iq|apply gp|intro _)
 elem:=fun x t=>by
  rw[elemJ]
  try dsimp only
  repeat' (first|exact eR|exact iN (by decide)|exact h.expr _|apply iq|apply gp|intro _)
 set:=fun x=>by
  rw[setJ]
  repeat' (first|exact eR|exact iN (by decide)|exact h.elems _ _ _ _|exact Cj V _|apply iq|apply gp|intro _)
 elems:=fun l t a k=>by
  cases l with
  |nil=>rw[ff];exact eR
  |cons y l=>
   rw[ff]
   repeat' (first|exact eR|exact h.elem _ _|exact h.elems _ _ _ _|apply iq|apply gp|intro _)
 one:=fun x=>by
  rw[oneJ]
  try dsimp only
  repeat' (first|exact eR|exact iN (by decide)|exact h.expr _|exact Ri _ _ _ _|apply iq|apply gp|intro _)
 fn:=fun x=>by
  rw[funJ]
  try dsimp only
  refine gp (h.call _ _ _) fun t=>?_
  refine iq eR (iq eR (iq eR (iq (gp (h.sized _) fun u=>eR) (gp (h.expr _) fun j=>?_))));split
  ·exact eR
  ·exact gp (iN (by decide)) fun _=>eR
 sized:=fun x=>by
  have hr:EN (do let j ←exprJ V f x;aI (gj j) x 252;.ok j.type:Jr Int):=gp (h.expr _) fun j=>gp (iN (by decide)) fun _=>eR
  rw[sizedJ]
  try dsimp only
  refine iq ?_ hr;have hn:=Cj V x;cases e:eX V x with
  |error q=>rw[e]at hn;exact hn
  |ok en=>exact iq eR hr
 call:=fun x l d=>by
  rw[callJ]
  try dsimp only
  repeat' (first|exact eR|exact iN (by decide)|exact h.expr _|exact h.std _ _ _ _|exact h.args _ _|apply iq|apply gp|intro _)
 args:=fun l ps=>by
  cases l with
  |nil=>rw[gD];exact eR;simp
  |cons y l=>
   cases ps with
   |nil=>rw[gD];exact eR;simp
   |cons p ps=>
    rw[gD];dsimp only
    repeat' (first|exact eR|exact iN (by decide)|exact h.expr _|exact h.args _ _|apply iq|apply gp|intro _)
 std:=fun x s l d=>by
  rw[stdCallJ]
  try dsimp only
  repeat' (first|exact eR|exact iN (by decide)|exact h.expr _|exact h.plain _|exact h.whole _|exact h.sized _|exact ab7 V _|apply iq|apply gp|intro _)
 plain:=fun x=>by
  rw[plainJ]
  repeat' (first|exact eR|exact iN (by decide)|exact h.expr _|apply gp|intro _)
 whole:=fun x=>by
  rw[wholeJ]
  repeat' (first|exact eR|exact iN (by decide)|exact h.plain _|apply gp|intro _)
theorem Rj:∀f,Ck V f
 |0=>ab8 V
 |f+1=>ab9 V (Rj f)
theorem sF(f:Nat)(x:ao)(q:cJ×Int)(h:exprJ V f x=.error q):q.2≠0:=by
 have:=(Rj V f).expr x;rw[h]at this;exact this
end
end Go.Proofs.YtlpombjidhloiaaGreat
namespace Go.Proofs.YtlpombjidhloiaaGreat
open Go.RowKit
set_option maxRecDepth 100000
attribute [local go_sem ↓] Go.wp_at_zero Go.wp_at_succ
def ads(w:World)(e:Ending)(w':World):Prop:=Below w.heap.size w w'∧∃(b pt pv:Nat) (L:List Lv),e=.returned (.pointer (some ⟨b,0,none⟩))∧w'.cell? ⟨b,0,none⟩=some (.pointer (some ⟨pt,0,none⟩))∧w'.cell? ⟨b,1,none⟩=some (.pointer (some ⟨pv,0,none⟩))∧bO w' pt pv worldT L∧aj worldT L=aj worldT (dS ee)
structure Ak(w:World):Prop where
 made:∀w',Below w.heap.size w w'→Calls Tryz.prog 8 #[] w' (ads w')
 works:∀w',Below w.heap.size w w'→Calls Tryz.prog 7 #[] w' (fun e w''=>e=.returned (.bool true)∧Below w'.heap.size w' w'')
theorem Is(s:List UInt8)(w:World):Calls Tryz.prog 6 #[.string ⟨s.toArray⟩] w (fun e w'=>e=.returned (.bool (decide (1024<s.length)))∧w=w'):=by
 go_enter Tryz.func6,Tryz.ntmps6;by_cases h:1024<s.length
 ·have hz:(1024:Int)<(s.length:Int):=by omega
  have hd:decide (1024<s.length)=true:=decide_eq_true h;rw[hd];go_wp2_with fail;go_ret;exact⟨by simp,rfl⟩
 ·have hz:¬(1024:Int)<(s.length:Int):=by omega
  have hd:decide (1024<s.length)=false:=decide_eq_false h;rw[hd];go_wp2_with fail;go_ret;exact⟨by simp,rfl⟩
def xj:Jr Jd→Jd
 |.ok j=>j
 |.error _=>Cl
def xp:Jr Jd→Nat×Nat
 |.ok _=>(0,0)
 |.error q=>(fb q.1.1,fb q.1.2)
def xc:Jr Jd→Int
 |.ok _=>0
 |.error q=>q.2
def X1(w:World)(r:Jr Jd)(e:Ending)(w':World):Prop:=Below w.heap.size w w'∧e=.returned (.tuple #[bU (xj r),.complex .f64 (xp r).1 (xp r).2,.int .i64 (xc r)])∧Vw (xj r).val
def uU(e:En):Bool:=decide (e.kind≠8)||(decide (0≤e.at_)&&decide (e.at_≤23))
theorem adt(y:ao):0≤cG (aj worldT (dS ee)) y∧cG (aj worldT (dS ee)) y≤23:=by
 have hB:((ux ee).items++lvl1.items).all (fun p=>uU p.2.en&&p.2.exports.all uU)=true:=by decide +kernel
 have hI:∀nm x,kI (dS ee) nm=some x→(uU x.en&&x.exports.all uU)=true:=by
  intro nm x h;have key:∀(l:List (List UInt8×It)),bm l nm=some x→∃p∈l,p.2=x:=by
   intro l hl;unfold bm at hl;rw[Option.map_eq_some_iff]at hl;obtain⟨a,ha,rfl⟩:=hl;exact⟨a,List.mem_of_find?_eq_some ha,rfl⟩
  have h2:bm lvl1.items nm=some x∨bm (ux ee).items nm=some x:=by
   unfold kI at h;rw[if_neg (by simp[dS])]at h;have h:eW (dS ee) nm 1=some x:=h;unfold eW at h;have h:(match bm lvl1.items nm with|some x=>some x|none=>if false=true then bm (ux ee).items nm else eW (dS ee) nm 0)=some x:=h;split at h
   ·rename_i y hy;cases h;exact .inl hy
   ·exact .inr h
  rcases h2 with h2|h2
  ·obtain⟨p,hp,rfl⟩:=key _ h2;exact List.all_eq_true.1 hB p (List.mem_append_right _ hp)
  ·obtain⟨p,hp,rfl⟩:=key _ h2;exact List.all_eq_true.1 hB p (List.mem_append_left _ hp)
 have hE:∀e:En,uU e=true→0≤(if e.kind=8 then e.at_ else 0)∧(if e.kind=8 then e.at_ else 0)≤23:=by
  intro e he;unfold uU at he;split
  ·rename_i h8;simp[h8]at he;exact he
  ·omega
 unfold cG;dsimp only;split
 ·rename_i e he;refine hE e ?_;split at he
  ·have he:jL (dS ee) y.name=some e:=he;unfold jL at he;rw[Option.map_eq_some_iff]at he;obtain⟨x,hx,rfl⟩:=he;exact(Bool.and_eq_true _ _▸hI _ x hx).1
  ·split at he
   ·have he:iU (dS ee) (kid y 0).name y.name=some e:=he;unfold iU at he;split at he
    ·rename_i x hx;split at he
     ·have:=(Bool.and_eq_true _ _▸hI _ x hx).2;exact List.all_eq_true.1 this e (List.mem_of_find?_eq_some he)
     ·cases he
    ·cases he
   ·cases he
 ·omega
theorem sK{w:World}{pt pv:Nat}{L:List Lv}(h:bO w pt pv worldT L)(hn:aj worldT L=aj worldT (dS ee)){b:Nat}{x:ao}(hx:bg w b x)(ht:Tk x)(hf:ez 1000000 x)(N:Nat)(hN:8*bq x≤N):Calls Tryz.prog 10 #[.pointer (some ⟨pt,0,none⟩),.pointer (some ⟨pv,0,none⟩),.pointer (some ⟨b,0,none⟩)] w (X1 w (exprJ (aj worldT (dS ee)) N x)):=by
 have E:=abY (pt:=pt) (pv:=pv) (T:=worldT) (L:=L) aao (by rw[hn];exact adt) Qs ht.1 hf;have h1:=acd h hx E N hN (fun q hq=>sF _ N x q hq);rw[hn]at h1;refine h1.mono ?_;rintro e w' ⟨hb,hr⟩;refine⟨hb,?_⟩;cases hres:exprJ (aj worldT (dS ee)) N x with
 |ok j=>rw[hres]at hr;exact⟨hr.1,hr.2⟩
 |error q=>rw[hres]at hr;exact⟨hr,trivial⟩
end Go.Proofs.YtlpombjidhloiaaGreat
namespace Go.Proofs.YtlpombjidhloiaaGreat
open Go.RowKit
set_option maxRecDepth 100000
def IC:Nat→Bool:=Nat.rec true fun n ih=>(FloatKind.f64.format.order (fb n) (fb n)==some Ordering.eq)&&ih
theorem adz:IC 20001=true:=by decide +kernel
theorem SR:∀{k:Nat} (_:IC k=true) {n:Nat} (_:n<k),FloatKind.f64.format.order (fb n) (fb n)=some Ordering.eq
 |k+1,h,n,hn=>by
  have h:((FloatKind.f64.format.order (fb k) (fb k)==some Ordering.eq)&&IC k)=true:=h;rw[Bool.and_eq_true]at h;rcases Nat.lt_or_ge n k with h1|h1
  ·exact SR h.2 h1
  ·obtain rfl:n=k:=by omega
   exact beq_iff_eq.1 h.1
theorem CJ{n:Nat}(h:n≤20000):FloatKind.f64.format.order (fb n) (fb n)=some Ordering.eq:=SR adz (by omega)
end Go.Proofs.YtlpombjidhloiaaGreat
