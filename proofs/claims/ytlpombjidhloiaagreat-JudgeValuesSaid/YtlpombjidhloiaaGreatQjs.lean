/- The judge's parts upon expressions. Condition: what each theorem says. -/
import Derived.Test.YtlpombjidhloiaaGreatBav
namespace Go.Proofs.YtlpombjidhloiaaGreat
open Go.RowKit
set_option maxRecDepth 100000
attribute [local go_sem ↓] Go.wp_at_zero Go.wp_at_succ
attribute [local go_sem] Oz
@[go_sem] theorem ahF(a0 a1 a2 a3 a4 a5 a6 a7 a8 a9 a10 a11:Value)(w:World):(Instr.field 47 (.agg #[a0,a1,a2,a3,a4,a5,a6,a7,a8,a9,a10,a11]) 3).run Tryz.prog w=.ok a3 w:=by kernel_rfl
theorem FR{P:Program}{ops:Array Oper}{Q:Exit→Act→World→Prop}{w0 w:World}{late:List Nat}{ms:List Al}{listed:Array Bool}{a:Act}{G:Prop}(hw:Below w0.heap.size w0 w)(i:Nat)(k:G)(hf:eE ops late ms=true:=by kernel_rfl)(hQ:∀c a d v w,Q (.panic c) (a.put d v) w↔Q (.panic c) a w:=by(intro c a d v w;cases d<;>exact Iff.rfl))(hp:nH ops [i]=true:=by kernel_rfl)(hB:zY ops late ms listed i=true:=by kernel_rfl)(h:Hid G→wpQuiet P ops (fun w'=>∃x,w'=fc w0 x) (cZ P ops Q w0 late ms w (listed.setIfInBounds i true)) (dX ops [i]) a:=by(intro hk;simp only[dX,List.filterMap,List.getElem?_toArray,List.getElem?_cons_zero,List.getElem?_cons_succ,List.getElem_toArray,List.getElem_cons_zero,List.getElem_cons_succ,Act.put,List.setIfInBounds_toArray,List.set_cons_zero,List.set_cons_succ,List.drop_succ_cons,List.drop_zero];(repeat (go_big_quiet_step (fail)));refine wpQuiet_nil ?_;exact hk.out)):cZ P ops Q w0 late ms w listed a:=Xw hf hQ hw i listed a hp hB (h k)
def AT(V:ea)(x:ao)(a b:Jd):Jr Jd:=
 if x.name=bB then(aI (decide (aJ V.T b.type=13)) x 252 >>= fun _=>
  aI (bH V.T (bG V.T a (aF V.T b.type).base).type&&ey V.T (aF V.T b.type).base (bG V.T a (aF V.T b.type).base).type) x 252 >>= fun _=>
  if(bG V.T a (aF V.T b.type).base).val=.none∨b.val=.none then .ok ⟨3,.none,0⟩else cS V.T x 3 (bC x.name (bG V.T a (aF V.T b.type).base).val b.val))
 else if x.name=dT∨x.name=eI∨x.name=gm∨x.name=fw∨x.name=gn∨x.name=fy then
  (aI (cM V.T x.name (bG V.T a b.type).type (bG V.T b a.type).type) x 252 >>= fun _=>gC V.T x (bG V.T a b.type) (bG V.T b a.type) >>= fun _=>
  if(bG V.T a b.type).val=.none∨(bG V.T b a.type).val=.none then .ok ⟨3,.none,0⟩else cS V.T x 3 (bC x.name (bG V.T a b.type).val (bG V.T b a.type).val))
 else(aI (cM V.T x.name a.type b.type) x 252 >>= fun _=>gC V.T x a b >>= fun _=>
  if a.val=.none∨b.val=.none then .ok ⟨if aP V.T a.type=5 then aP V.T b.type else aP V.T a.type,.none,0⟩else cS V.T x (if aP V.T a.type=5 then aP V.T b.type else aP V.T a.type) (bC x.name a.val b.val))
def pB(V:ea)(x:ao)(a b:Jd):Nat→Jr Jd
 |0=>aI (decide (a.is≠3)||eN V (kid x 0)) (kid x 0) 252 >>= fun _=>aI (decide (b.is≠3)||eN V (kid x 1)) (kid x 1) 252 >>= fun _=>AT V x a b
 |1=>aI (decide (b.is≠3)||eN V (kid x 1)) (kid x 1) 252 >>= fun _=>AT V x a b
 |_=>AT V x a b
theorem Zm(V:ea)(x:ao)(a b:Jd):iV V x a b=(aI (decide (x.name=dT∨x.name=eI)||(decide (a.is≠3)&&decide (b.is≠3))) x 252 >>= fun _=>pB V x a b 0):=rfl
def uC:Prop:=∀(op:List UInt8) (a b:aL),Vw a→Vw b→((bC op a b).2=0→Vw (bC op a b).1)∧∀w,Calls Tryz.prog 111 #[.string ⟨op.toArray⟩,aK a,aK b] w (Pv w (.tuple #[aK (bC op a b).1,.int .i64 (bC op a b).2]))
set_option maxHeartbeats 40000000 in
theorem Zn{w:World}{pt pv:Nat}{T:List Ty}{L:List Lv}(h:bO w pt pv T L){b:Nat}{x:ao}(hx:bg w b x)(hk:x.kids.length=2)(E:df pt pv T L (kid x 0))(E1:df pt pv T L (kid x 1))(f:Nat)(hf:8*bq (kid x 0)≤f)(yi:8*bq (kid x 1)≤f)(DO:uC):Calls Tryz.prog 69 #[qV pt pv,.pointer (some ⟨b,0,none⟩)] w (jN w (exprJ (aj T L) f (kid x 0) >>= fun a=>exprJ (aj T L) f (kid x 1) >>= fun b=>iV (aj T L) x a b)):=by
 have H:=aa h;have HX:=aa hx;have HK:=aa hk;have HE:=aa (E f hf);have jS:=aa (E1 f yi);have HDO:=aa DO;generalize hrr:(exprJ (aj T L) f (kid x 0) >>= fun a=>exprJ (aj T L) f (kid x 1) >>= fun b=>iV (aj T L) x a b)=r;have HV:=aa hrr.symm;clear h hx E hf hk E1 yi DO hrr;dsimp only[qV,qC];dsimp only[qV,qC]at HE jS;go_enter Tryz.func69,Tryz.ntmps69;go_upto_region 1 with(fail);generalize az:w.alloc _=w1;obtain⟨ae,x1,aE⟩:=made az;generalize aU:w1.alloc _=w2;obtain⟨af,x2,bu⟩:=made aU;rw[aE]at x2;have B2:=aa (bb ae af);have X1:=aa (x1.grow af);have X2:=aa x2;have z1:=X1.out.cell;have l1:=X1.out.lt;clear az ae aE x1 aU af bu x2;obtain⟨Ax,cx,k0x,k1x,k2x,k3x,k4x,hkidx⟩:=(HX.out.later B2.out).cells;have lbx:=aQ k0x;have KIDx:=aa hkidx;clear hkidx;obtain⟨gy,oy,yy,rfl,hcy,hpy,hty⟩:=KIDx.out 0 (by have:=HK.out;omega);have lgy:=aQ hpy;have HTy:=aa hty;clear hty;rw[Nat.add_zero]at hpy;obtain⟨gz,oz,yz,he,hcz,hpz,htz⟩:=KIDx.out 1 (by have:=HK.out;omega);obtain⟨rfl,rfl⟩:gz=gy∧oz=oy:=by cases he;exact⟨rfl,rfl⟩
 have HTz:=aa htz;clear he hcz htz;have h0:(0:Int)<(x.kids.length:Int):=by have:=HK.out;omega
 have h0n:0<x.kids.length:=by have:=HK.out;omega
 have h1:(1:Int)<(x.kids.length:Int):=by have:=HK.out;omega
 have h1n:1<x.kids.length:=by have:=HK.out;omega
 have hC:=fun w' (hb:Below w2.heap.size w2 w')=>HE.out w' _ ((H.out.later B2.out).later hb) (HTy.out.later hb)
 have jc:=fun w' (hb:Below w2.heap.size w2 w')=>jS.out w' _ ((H.out.later B2.out).later hb) (HTz.out.later hb)
 clear HE jS;go_upto_region 1 with(fail);refine bh [18,19] [⟨16,5,ei,29⟩,⟨17,6,ei,29⟩] (by kernel_rfl) ?_;refine FQ (Below.refl _ _) [0,1,2,3,4,5,6] ?_;refine FR (Below.refl _ _) 8 ?_;refine FR (Below.refl _ _) 9 ?_;refine FR (Below.refl _ _) 10 ?_;refine FR (Below.refl _ _) 11 ?_;refine FR (Below.refl _ _) 12 ?_;refine FR (Below.refl _ _) 13 ?_;refine FR (Below.refl _ _) 14 ?_;cases hr:exprJ (aj T L) f (kid x 0)with
 |error q=>
  obtain⟨p,c⟩:=q;have hv:=HV.out;simp only[hr,fV]at hv;have aq:=aa hv;rw[hr]at hC;have HC:=aa hC;clear hr HV hv hC jc;refine FC 7 (ud bN bN) (Below.refl _ _) (fun w4 ab=>(HC.out _ ab).mono ?_);rintro e w3 ⟨ad,rfl⟩;exact bj (fn:=Tryz.f69) aq.out (bb (bb B2.out ab) ad) rfl
 |ok ja=>
 have hv:=HV.out;simp only[hr,dc]at hv;have aq:=aa hv;rw[hr]at hC;have HC:=aa hC;clear hr HV hv hC;refine FC 7 (ud bN bN) (Below.refl _ _) (fun w4 ab=>(HC.out _ ab).mono ?_);rintro e w3 ⟨ad,rfl,hva⟩;refine⟨ad,?_⟩;have VA:=aa hva;have C3:=aa (bb ab ad);clear ad ab hva HC;cases hr:exprJ (aj T L) f (kid x 1)with
 |error q=>
  obtain⟨p,c⟩:=q;have hv:=aq.out;simp only[hr,fV]at hv;have ar:=aa hv;rw[hr]at jc;have HC:=aa jc;clear hr aq hv jc;refine FC 15 (ud bN bN) C3.out (fun w4 ab=>(HC.out _ (bb C3.out ab)).mono ?_);rintro e w5 ⟨au,rfl⟩;exact bj (fn:=Tryz.f69) ar.out (bb (bb B2.out (bb C3.out ab)) au) rfl
 |ok jb=>
 have hv:=aq.out;simp only[hr,dc]at hv;have ar:=aa hv;rw[hr]at jc;have HC:=aa jc;clear hr aq hv jc;refine FC 15 (ud bN bN) C3.out (fun w4 ab=>(HC.out _ (bb C3.out ab)).mono ?_);rintro e w5 ⟨au,rfl,hvb⟩;refine⟨au,?_⟩;have VB:=aa hvb;have C5:=aa (bb C3.out (bb ab au));clear au ab hvb HC C3;obtain⟨at_,av,ai⟩:=ja;obtain⟨bt,bv,bi⟩:=jb;dsimp only[bU];refine OM 18 (by kernel_rfl) bN bN (by kernel_rfl) C5.out rfl rfl rfl rfl (fun _ _=>rfl) (fun _ _=>rfl) info29 rfl (ig ⟨at_,av,ai⟩) rfl rfl rfl rfl (fun _ _=>rfl) (fun _ _=>rfl) info29 rfl (ig ⟨bt,bv,bi⟩) (fun b5 b6 w6 au aD hne x5 x6 aH=>?_);refine FA ?_;have J5:=aa (show Bx b5 #[.int .i64 at_,aK av,.int .u8 ai] 29 w6 from x5);have J6:=aa (show Bx b6 #[.int .i64 bt,aK bv,.int .u8 bi] 29 w6 from x6);have NB:=aa (And.intro au (And.intro aD hne));have B20:=aa B2.out;have X20:=aa X2.out.lt;have B6:=ah B2 aH;have X1:=aa (X1.out.grow aH);have X2:=aa (X2.out.grow aH);clear aH;have z5:=J5.out.cell;have l5:=J5.out.lt;have z6:=J6.out.cell;have l6:=J6.out.lt;have z1:=X1.out.cell;have l1:=X1.out.lt;clear x5 x6 au aD hne C5;obtain⟨Au,cu,k0u,k1u,k2u,k3u,k4u,hkidu⟩:=(HX.out.later B6.out).cells;have lbu:=aQ k0u;have KIDu:=aa hkidu;clear hkidu;go_upto_region 3 with(fail);generalize heq:decide (x.name=dT∨x.name=eI)=eqq at *;have HEQ:=aa heq;have aA:=aa (show r=(aI (eqq||(decide (ai≠3)&&decide (bi≠3))) x 252 >>= fun _=>pB (aj T L) x ⟨at_,av,ai⟩ ⟨bt,bv,bi⟩ 0)by rw[ar.out,Zm,heq]);clear heq ar;go_cut [8] (fun u w'=>u=.bool eqq∧w'=w6);case first=>
  by_cases q1:x.name=dT
  ·obtain⟨t1,tc,hv1⟩:∃t1,(x.name==[61])=t1∧t1=true:=⟨_,rfl,beq_iff_eq.2 q1⟩;have Q1:=aa q1;clear q1;go_wp2_with fail;go_meet;exact⟨by rw[←HEQ.out,decide_eq_true (.inl Q1.out)],rfl⟩
  have d1:(x.name==[61])=false:=beq_eq_false_iff_ne.2 q1;by_cases q2:x.name=eI
  ·obtain⟨t1,tc,hv1⟩:∃t1,(x.name==[35])=t1∧t1=true:=⟨_,rfl,beq_iff_eq.2 q2⟩;have Q2:=aa q2;clear q2;go_wp2_with fail;go_meet;exact⟨by rw[←HEQ.out,decide_eq_true (.inr Q2.out)],rfl⟩
  ·have d2:(x.name==[35])=false:=beq_eq_false_iff_ne.2 q2;go_wp2_with fail;go_meet;exact⟨by rw[←HEQ.out,decide_eq_false (by rintro(h|h)<;>contradiction)],rfl⟩
 case rest=>
 obtain⟨rfl,rfl⟩:=hcut;have dV:=aa (HX.out.later B6.out);go_upto_region 4 with(fail);go_cut [52] (fun _ w'=>(eqq||(decide (ai≠3)&&decide (bi≠3)))=true∧w'=wc);case first=>
  cases eqq;case true=>
   go_wp2_with fail;refine(da dV.out 252).mono ?_;rintro e wq ⟨rfl,rfl⟩;exact py
  by_cases q1:ai=3
  ·have aM:=aa (show r=.error (x.pos,252)by have:=aA.out;rw[decide_eq_false (by simp[q1]:¬(ai≠3))]at this;exact this);have e1:(ai != 3)=false:=by simp[q1]
   clear aA;go_wp2_with fail;refine(eg dV.out 252).mono ?_;exact AU
  have e1:(ai != 3)=true:=bne_iff_ne.2 q1;by_cases q2:bi=3
  ·have aM:=aa (show r=.error (x.pos,252)by have:=aA.out;rw[show(false||(decide (ai≠3)&&decide (bi≠3)))=false by simp[q2]]at this;exact this);have e2:(bi != 3)=false:=by simp[q2]
   clear aA;go_wp2_with fail;refine(eg dV.out 252).mono ?_;exact AU
  ·have e2:(bi != 3)=true:=bne_iff_ne.2 q2;go_wp2_with fail;refine(da dV.out 252).mono ?_;rintro e wq ⟨rfl,rfl⟩;go_wp2_with fail;go_meet;exact⟨by simp[q1,q2],rfl⟩
 case rest=>
 obtain⟨hcond,rfl⟩:=hcut;have hv:=aA.out;rw[hcond]at hv;have aM:=aa ((show _=_ from hv).trans (dc () _));clear aA hv hcond;go_wp2_with fail;generalize hws:World.alloc _ _=ws;obtain⟨hbs,xs,hss⟩:=made hws;have S6:=aa xs;have Bs:=ah B6 hbs;have X1:=aa (X1.out.grow hbs);have X2:=aa (X2.out.grow hbs);have J5:=aa (J5.out.grow hbs);have J6:=aa (J6.out.grow hbs);clear hbs;clear hws xs hss
 go_loopg [9,10,58] 2 (fun gg _ _ s58 wr=>∃kk:Nat,kk≤2∧gg=2-kk∧s58=.int .i64 kk∧Below ws.heap.size ws wr∧r=pB (aj T L) x ⟨at_,av,ai⟩ ⟨bt,bv,bi⟩ kk)
 case atStart=>exact⟨0,by omega,rfl,rfl,Below.refl _ _,aM.out⟩
 case round=>
  obtain⟨kk,hkk,hgk,rfl,hbr,hvr⟩:=hrel;have HVr:=aa hvr;have Cr:=aa hbr;have Br:=ah Bs hbr;have X1:=aa (X1.out.grow hbr);have X2:=aa (X2.out.grow hbr);have J5:=aa (J5.out.grow hbr);have J6:=aa (J6.out.grow hbr);have S6:=aa (S6.out.grow hbr);clear hbr;have z1:=X1.out.cell;have l1:=X1.out.lt;have z6:=S6.out.cell;have l6:=S6.out.lt;clear hvr;rcases(show kk=0∨kk=1∨kk=2 by omega)with kX|mE|fQ
  ·as_aux_lemma=>
   subst kX;have HN:=aa (show wrap64 (((0:Nat):Int)+1)=((1:Nat):Int)from Go.IntWalk.wrap64_in _ (by omega));have HVy:=aa (fun(hq:(decide (ai≠3)||eN (aj T L) (kid x 0))=true)=>show r=pB (aj T L) x ⟨at_,av,ai⟩ ⟨bt,bv,bi⟩ 1 by rw[HVr.out];unfold pB;dsimp only;rw[hq];rfl);have HVn:=aa (fun(hq:(decide (ai≠3)||eN (aj T L) (kid x 0))=false)=>show r=.error ((kid x 0).pos,252)by rw[HVr.out];unfold pB;dsimp only;rw[hq];rfl);clear HVr;go_upto_region 8 with(fail);generalize fI:wr.alloc _=w7;obtain⟨aC,x7,mG⟩:=made fI;have J7:=aa x7;have D9:=ah Cr aC;have B9:=ah Br aC;have X1:=aa (X1.out.grow aC);clear aC;have z1:=X1.out.cell;have l1:=X1.out.lt;have z7:=J7.out.cell;have l7:=J7.out.lt;clear fI x7 mG;obtain⟨At,ct,k0t,k1t,k2t,k3t,k4t,hkidt⟩:=(HX.out.later B9.out).cells;have lbt:=aQ k0t;have KIDt:=aa hkidt;clear hkidt;obtain⟨gv,ov,yv,rfl,hcv,hpv,htv⟩:=KIDt.out 0 (by have:=HK.out;omega);have lgv:=aQ hpv;have HTv:=aa htv;clear htv;rw[Nat.add_zero]at hpv;refine bh [] [] (by kernel_rfl) ?_;by_cases c1:ai=3
   ·have e1:(ai != 3)=false:=by simp[c1]
    have gX:=aa (show(decide (ai≠3)||eN (aj T L) (kid x 0))=eN (aj T L) (kid x 0)by simp[c1]);refine FQ (Below.refl _ _) [0,1,2,3,14,15,16,17,18,19,20,4,5,6,7,8,9,10,11] ?_;refine FC 12 aG (Below.refl _ _) (fun w4 ab=>(Gk (H.out.later (bb B9.out ab)) (HTv.out.later ab)).mono ?_);rintro e wb ⟨rfl,kC⟩;refine⟨kC,?_⟩;have CB:=aa (bb ab kC);clear kC ab;generalize eN (aj T L) (kid x 0)=oq at *;refine FS aG CB.out [13] ?_;cases oq
    ·exact ON
    ·have aM:=aa (HVy.out gX.out);refine FC 21 aG CB.out (fun w4 ab=>(jm rfl (HTv.out.later (bb CB.out ab)) 252).mono ?_);rintro e wn ⟨rfl,rfl⟩;refine⟨Below.refl _ _,?_⟩;refine cV 22 (by kernel_rfl) (by kernel_rfl) (bb CB.out ab) (fun wq hwq=>?_);refine FA ?_;have CQ:=aa (bb D9.out (bb (bb CB.out ab) hwq));go_wp2_with fail
     go_roundg (gk-1)
     case measure=>omega
     exact⟨1,by omega,by omega,by first|rfl|(rw[HN.out])|simp,CQ.out,aM.out⟩
   ·have e1:(ai != 3)=true:=bne_iff_ne.2 c1;have aM:=aa (HVy.out (by simp[c1]));refine FQ (Below.refl _ _) [0,1,2,3,14,15,16,17,18,19,20,4,5,6,7,8,9,10,11] ?_;refine FN 12 aG (Below.refl _ _) ?_;refine FQ (Below.refl _ _) [13] ?_;refine FC 21 aG (Below.refl _ _) (fun w4 ab=>(jm rfl (HTv.out.later ab) 252).mono ?_);rintro e wn ⟨rfl,rfl⟩;refine⟨Below.refl _ _,?_⟩;refine cV 22 (by kernel_rfl) (by kernel_rfl) ab (fun wq hwq=>?_);refine FA ?_;have CQ:=aa (bb D9.out (bb ab hwq));go_wp2_with fail
    go_roundg (gk-1)
    case measure=>omega
    exact⟨1,by omega,by omega,by first|rfl|(rw[HN.out])|simp,CQ.out,aM.out⟩
  ·as_aux_lemma=>
   subst mE;have HN:=aa (show wrap64 (((1:Nat):Int)+1)=((2:Nat):Int)from Go.IntWalk.wrap64_in _ (by omega));have HVy:=aa (fun(hq:(decide (bi≠3)||eN (aj T L) (kid x 1))=true)=>show r=pB (aj T L) x ⟨at_,av,ai⟩ ⟨bt,bv,bi⟩ 2 by rw[HVr.out];unfold pB;dsimp only;rw[hq];rfl);have HVn:=aa (fun(hq:(decide (bi≠3)||eN (aj T L) (kid x 1))=false)=>show r=.error ((kid x 1).pos,252)by rw[HVr.out];unfold pB;dsimp only;rw[hq];rfl);clear HVr;go_upto_region 8 with(fail);generalize fI:wr.alloc _=w7;obtain⟨aC,x7,mG⟩:=made fI;have J7:=aa x7;have D9:=ah Cr aC;have B9:=ah Br aC;have X1:=aa (X1.out.grow aC);clear aC;have z1:=X1.out.cell;have l1:=X1.out.lt;have z7:=J7.out.cell;have l7:=J7.out.lt;clear fI x7 mG;obtain⟨At,ct,k0t,k1t,k2t,k3t,k4t,hkidt⟩:=(HX.out.later B9.out).cells;have lbt:=aQ k0t;have KIDt:=aa hkidt;clear hkidt;obtain⟨gv,ov,yv,rfl,hcv,hpv,htv⟩:=KIDt.out 1 (by have:=HK.out;omega);have lgv:=aQ hpv;have HTv:=aa htv;clear htv;refine bh [] [] (by kernel_rfl) ?_;by_cases c1:bi=3
   ·have e1:(bi != 3)=false:=by simp[c1]
    have gX:=aa (show(decide (bi≠3)||eN (aj T L) (kid x 1))=eN (aj T L) (kid x 1)by simp[c1]);refine FQ (Below.refl _ _) [0,1,2,3,14,15,16,17,18,19,20,4,5,6,7,8,9,10,11] ?_;refine FC 12 aG (Below.refl _ _) (fun w4 ab=>(Gk (H.out.later (bb B9.out ab)) (HTv.out.later ab)).mono ?_);rintro e wb ⟨rfl,kC⟩;refine⟨kC,?_⟩;have CB:=aa (bb ab kC);clear kC ab;generalize eN (aj T L) (kid x 1)=oq at *;refine FS aG CB.out [13] ?_;cases oq
    ·exact ON
    ·have aM:=aa (HVy.out gX.out);refine FC 21 aG CB.out (fun w4 ab=>(jm rfl (HTv.out.later (bb CB.out ab)) 252).mono ?_);rintro e wn ⟨rfl,rfl⟩;refine⟨Below.refl _ _,?_⟩;refine cV 22 (by kernel_rfl) (by kernel_rfl) (bb CB.out ab) (fun wq hwq=>?_);refine FA ?_;have CQ:=aa (bb D9.out (bb (bb CB.out ab) hwq));go_wp2_with fail
     go_roundg (gk-1)
     case measure=>omega
     exact⟨2,by omega,by omega,by first|rfl|(rw[HN.out])|simp,CQ.out,aM.out⟩
   ·have e1:(bi != 3)=true:=bne_iff_ne.2 c1;have aM:=aa (HVy.out (by simp[c1]));refine FQ (Below.refl _ _) [0,1,2,3,14,15,16,17,18,19,20,4,5,6,7,8,9,10,11] ?_;refine FN 12 aG (Below.refl _ _) ?_;refine FQ (Below.refl _ _) [13] ?_;refine FC 21 aG (Below.refl _ _) (fun w4 ab=>(jm rfl (HTv.out.later ab) 252).mono ?_);rintro e wn ⟨rfl,rfl⟩;refine⟨Below.refl _ _,?_⟩;refine cV 22 (by kernel_rfl) (by kernel_rfl) ab (fun wq hwq=>?_);refine FA ?_;have CQ:=aa (bb D9.out (bb ab hwq));go_wp2_with fail
    go_roundg (gk-1)
    case measure=>omega
    exact⟨2,by omega,by omega,by first|rfl|(rw[HN.out])|simp,CQ.out,aM.out⟩
  ·subst fQ;have bf:=aa (show r=AT (aj T L) x ⟨at_,av,ai⟩ ⟨bt,bv,bi⟩from HVr.out);clear HVr;have z5:=J5.out.cell;have l5:=J5.out.lt;have z6:=J6.out.cell;have l6:=J6.out.lt;by_cases hin:x.name=bB
   ·as_aux_lemma=>
    have bz:=aa (show r=(aI (decide (aJ T bt=13)) x 252 >>= fun _=>
     aI (bH T (bG T ⟨at_,av,ai⟩ (aF T bt).base).type&&ey T (aF T bt).base (bG T ⟨at_,av,ai⟩ (aF T bt).base).type) x 252 >>= fun _=>
     if(bG T ⟨at_,av,ai⟩ (aF T bt).base).val=.none∨bv=.none then .ok ⟨3,.none,0⟩else cS T x 3 (bC x.name (bG T ⟨at_,av,ai⟩ (aF T bt).base).val bv))from bf.out.trans (if_pos hin))
    clear bf;have dI:(x.name==[73,78])=true:=beq_iff_eq.2 hin;have HKD:=aa (fun w (h:bO w pt pv T L)=>nN h bt);have HG:=aa (fun w (h:cF w pt T)=>nO h bt);have yo:=bz.out;clear bz hin;generalize aJ T bt=kb at *;generalize aF T bt=tt at *;have HL:=aa (fun w (h:bO w pt pv T L)=>qL h ⟨at_,av,ai⟩ tt.base);have DB:=aa (uB (T:=T) (j:=⟨at_,av,ai⟩) (i:=tt.base) VA.out);generalize bG T ⟨at_,av,ai⟩ tt.base=j2 at *;have bz:=aa yo;clear yo;obtain⟨t2,v2,i2⟩:=j2;have vt:=aa (show Vw v2 from DB.out);have z1:=X1.out.cell;have l1:=X1.out.lt;have HXf:=aa (HX.out.later Br.out);go_upto_region 18 with(fail);clear dI;go_wp2_with fail;refine(HKD.out _ (H.out.later Br.out)).mono ?_;rintro e wf ⟨rfl,hbf⟩;have HXg:=aa (HXf.out.later hbf);have Bf:=ah Br hbf;have X1:=aa (X1.out.grow hbf);have X2:=aa (X2.out.grow hbf);have J5:=aa (J5.out.grow hbf);have J6:=aa (J6.out.grow hbf);clear hbf;have z1:=X1.out.cell;have l1:=X1.out.lt;have z5:=J5.out.cell;have l5:=J5.out.lt;have z6:=J6.out.cell;have l6:=J6.out.lt;by_cases h13:kb=13;case neg=>
     have cH:=aa (show r=.error (x.pos,252)by have:=bz.out;rw[decide_eq_false h13]at this;exact this);have d13:=beq_eq_false_iff_ne.2 h13;clear bz;go_wp2_with fail;refine(eg HXg.out 252).mono ?_;rintro e wq ⟨rfl,rfl⟩;exact bj cH.out Bf.out rfl
    subst h13;have cH:=aa ((show _=_ from bz.out).trans (dc () _));clear bz;go_wp2_with fail;refine(da HXg.out 252).mono ?_;rintro e wq ⟨rfl,rfl⟩;go_wp2_with fail;refine(HG.out _ (H.out.later Bf.out).tab).mono ?_;rintro e wg ⟨s,rfl,hown,hbg⟩;have Bg:=ah Bf hbg;have X1:=aa (X1.out.grow hbg);have X2:=aa (X2.out.grow hbg);have J5:=aa (J5.out.grow hbg);have J6:=aa (J6.out.grow hbg);clear hbg;have z1:=X1.out.cell;have l1:=X1.out.lt;have z5:=J5.out.cell;have l5:=J5.out.lt;have z6:=J6.out.cell;have l6:=J6.out.lt;clear hown;dsimp only[bX];go_wp2_with fail;refine(HL.out _ (H.out.later Bg.out)).mono ?_;rintro e wh ⟨rfl,hbh⟩;have Bh:=ah Bg hbh;have X1:=aa (X1.out.grow hbh);have X2:=aa (X2.out.grow hbh);have J5:=aa (J5.out.grow hbh);have J6:=aa (J6.out.grow hbh);clear hbh;have z5:=J5.out.cell;have f5:=J5.out.frozen;have l5:=J5.out.lt;dsimp only[bU];go_upto_region 21 with(fail);have hj:=pw J5.out ⟨t2,v2,i2⟩;have ad:Below w.heap.size w _:=mS (v0:=.int .i64 t2) (v1:=aK v2) (v2:=.int .u8 i2) (k:=b5) Bh.out (by have:=NB.out.1;have:=B20.out.size;omega);have DC:∀k,k≠b5→((((wh.setCell ⟨b5,0,none⟩ (.int .i64 t2)).setCell ⟨b5,1,none⟩ (aK v2)).setCell ⟨b5,2,none⟩ (.int .u8 i2))).heap[k]? =wh.heap[k]? :=fun k hk=>(Below.heap_setCell _ _ _ k hk).trans ((Below.heap_setCell _ _ _ k hk).trans (Below.heap_setCell _ _ _ k hk))
    dsimp only[kJ]at hj;generalize((wh.setCell _ _).setCell _ _).setCell _ _=wk at *;have X1:=aa (show Bx w.heap.size _ _ wk from(DC _ (by have:=NB.out.1;have:=X20.out;omega)).trans X1.out);have X2:=aa (show Bx (w.heap.size+1) _ _ wk from(DC _ (by have:=NB.out.1;have:=X20.out;omega)).trans X2.out);have J6:=aa (show Bx b6 _ _ wk from(DC _ (by have:=NB.out.2.2;omega)).trans J6.out);have J5:=aa hj;have Bk:=aa ad;have HXk:=aa (HX.out.later ad);have z1:=X1.out.cell;have l1:=X1.out.lt;have z5:=J5.out.cell;have l5:=J5.out.lt;have z6:=J6.out.cell;have l6:=J6.out.lt;have z2:=X2.out.cell;have f2:=X2.out.frozen;have l2:=X2.out.lt;clear hj ad DC f5;go_wp2_with fail;refine(mV (H.out.later Bk.out).tab t2).mono ?_;rintro e wl ⟨rfl,hbl⟩;have HXl:=aa (HXk.out.later hbl);have Bl:=ah Bk hbl;have X1:=aa (X1.out.grow hbl);have X2:=aa (X2.out.grow hbl);have J5:=aa (J5.out.grow hbl);have J6:=aa (J6.out.grow hbl);clear hbl;have z1:=X1.out.cell;have l1:=X1.out.lt;have z5:=J5.out.cell;have l5:=J5.out.lt;have z6:=J6.out.cell;have l6:=J6.out.lt;cases ho:bH T t2
    ·have dv:=aa (show r=.error (x.pos,252)by have:=cH.out;simp only[ho]at this;exact this);clear cH ho;go_wp2_with fail;refine(eg HXl.out 252).mono ?_;rintro e wq ⟨rfl,rfl⟩;exact bj dv.out Bl.out rfl
    have hv:=cH.out;simp only[ho,Bool.true_and]at hv;have dv:=aa hv;clear cH hv ho;go_wp2_with fail;refine(wO (H.out.later Bl.out).tab tt.base t2).mono ?_;rintro e wm ⟨rfl,hbm⟩;have HXm:=aa (HXl.out.later hbm);have Bm:=ah Bl hbm;have X1:=aa (X1.out.grow hbm);have X2:=aa (X2.out.grow hbm);have J5:=aa (J5.out.grow hbm);have J6:=aa (J6.out.grow hbm);clear hbm;have z1:=X1.out.cell;have l1:=X1.out.lt;have z5:=J5.out.cell;have l5:=J5.out.lt;have z6:=J6.out.cell;have l6:=J6.out.lt;have z2:=X2.out.cell;have f2:=X2.out.frozen;have l2:=X2.out.lt;cases ho:ey T tt.base t2
    ·have lJ:=aa (show r=.error (x.pos,252)by have:=dv.out;simp only[ho]at this;exact this);clear dv ho;go_wp2_with fail;refine(eg HXm.out 252).mono ?_;rintro e wq ⟨rfl,rfl⟩;exact bj lJ.out Bm.out rfl
    have lJ:=aa (show r=(if v2=.none∨bv=.none then .ok ⟨3,.none,0⟩else cS T x 3 (bC x.name v2 bv))by have:=dv.out;simp only[ho,lA,dc]at this;exact this);clear dv ho;go_wp2_with fail;refine(da HXm.out 252).mono ?_;rintro e wq ⟨rfl,rfl⟩;go_upto_region 31 with(fail);by_cases nna:v2=.none
    ·have HVZ:=aa (show r=.ok ⟨3,.none,0⟩from lJ.out.trans (if_pos (.inl nna)));have dna:=decide_eq_true nna;exact OO
    have dna:=decide_eq_false nna;by_cases nnb:bv=.none
    ·have HVZ:=aa (show r=.ok ⟨3,.none,0⟩from lJ.out.trans (if_pos (.inr nnb)));have dnb:=decide_eq_true nnb;exact OO
    have dnb:=decide_eq_false nnb;have HVZ:=aa (lJ.out.trans (if_neg (by rintro(h|h)<;>contradiction)));have HO:=aa ((HDO.out x.name v2 bv vt.out VB.out).2);have HOV:=aa ((HDO.out x.name v2 bv vt.out VB.out).1);obtain⟨Az,cz,k0z,k1z,k2z,k3z,k4z,hkidz⟩:=(HX.out.later Bm.out).cells;have lbz:=aQ k0z;have KIDz:=aa hkidz;clear hkidz;generalize bC x.name v2 bv=ro at *;obtain⟨vo,eo⟩:=ro;go_wp2_with fail;refine(HO.out _).mono ?_;rintro e wd ⟨rfl,hbd⟩;have Bd:=ah Bm hbd;have X1:=aa (X1.out.grow hbd);have X2:=aa (X2.out.grow hbd);clear hbd;have z1:=X1.out.cell;have l1:=X1.out.lt;have z2:=X2.out.cell;have f2:=X2.out.frozen;have l2:=X2.out.lt;have HFD:=aa (fun w' (hb:Below wd.heap.size wd w')=>wM ((H.out.later Bd.out).later hb) ((HX.out.later Bd.out).later hb) (3:Int) vo eo HOV.out);have hfd:=HFD.out;have HVY:=aa (show r=cS T x (3:Int) (vo,eo)from HVZ.out);clear HVZ HFD;cases eL:cS T x (3:Int) (vo,eo)with
    |error q=>
     exact AW
    |ok j3=>
     exact AX
   by_cases hrel:x.name=dT∨x.name=eI∨x.name=gm∨x.name=fw∨x.name=gn∨x.name=fy
   ·as_aux_lemma=>
    have bz:=aa (show r=(aI (cM T x.name (bG T ⟨at_,av,ai⟩ bt).type (bG T ⟨bt,bv,bi⟩ at_).type) x 252 >>= fun _=>gC T x (bG T ⟨at_,av,ai⟩ bt) (bG T ⟨bt,bv,bi⟩ at_) >>= fun _=>
     if(bG T ⟨at_,av,ai⟩ bt).val=.none∨(bG T ⟨bt,bv,bi⟩ at_).val=.none then .ok ⟨3,.none,0⟩else cS T x 3 (bC x.name (bG T ⟨at_,av,ai⟩ bt).val (bG T ⟨bt,bv,bi⟩ at_).val))from bf.out.trans ((if_neg hin).trans (if_pos hrel)))
    clear bf;have dI:(x.name==[73,78])=false:=beq_eq_false_iff_ne.2 hin;have HREL:=aa hrel;clear hin hrel;go_upto_if 147 with(fail)
    go_cut [147] (fun u w'=>u=.bool true∧w'=wr);case first=>
     rcases HREL.out with h|h|h|h|h|h
     ·have e0:(x.name==[61])=true:=by rw[h];rfl
      have e1:(x.name==[35])=false:=by rw[h];rfl
      have e2:(x.name==[60])=false:=by rw[h];rfl
      have e3:(x.name==[60,61])=false:=by rw[h];rfl
      have e4:(x.name==[62])=false:=by rw[h];rfl
      have e5:(x.name==[62,61])=false:=by rw[h];rfl
      rw[e0];exact py
     ·have e0:(x.name==[61])=false:=by rw[h];rfl
      have e1:(x.name==[35])=true:=by rw[h];rfl
      have e2:(x.name==[60])=false:=by rw[h];rfl
      have e3:(x.name==[60,61])=false:=by rw[h];rfl
      have e4:(x.name==[62])=false:=by rw[h];rfl
      have e5:(x.name==[62,61])=false:=by rw[h];rfl
      rw[e0];exact py
     ·have e0:(x.name==[61])=false:=by rw[h];rfl
      have e1:(x.name==[35])=false:=by rw[h];rfl
      have e2:(x.name==[60])=true:=by rw[h];rfl
      have e3:(x.name==[60,61])=false:=by rw[h];rfl
      have e4:(x.name==[62])=false:=by rw[h];rfl
      have e5:(x.name==[62,61])=false:=by rw[h];rfl
      rw[e0];exact py
     ·have e0:(x.name==[61])=false:=by rw[h];rfl
      have e1:(x.name==[35])=false:=by rw[h];rfl
      have e2:(x.name==[60])=false:=by rw[h];rfl
      have e3:(x.name==[60,61])=true:=by rw[h];rfl
      have e4:(x.name==[62])=false:=by rw[h];rfl
      have e5:(x.name==[62,61])=false:=by rw[h];rfl
      rw[e0];exact py
     ·have e0:(x.name==[61])=false:=by rw[h];rfl
      have e1:(x.name==[35])=false:=by rw[h];rfl
      have e2:(x.name==[60])=false:=by rw[h];rfl
      have e3:(x.name==[60,61])=false:=by rw[h];rfl
      have e4:(x.name==[62])=true:=by rw[h];rfl
      have e5:(x.name==[62,61])=false:=by rw[h];rfl
      rw[e0];exact py
     ·have e0:(x.name==[61])=false:=by rw[h];rfl
      have e1:(x.name==[35])=false:=by rw[h];rfl
      have e2:(x.name==[60])=false:=by rw[h];rfl
      have e3:(x.name==[60,61])=false:=by rw[h];rfl
      have e4:(x.name==[62])=false:=by rw[h];rfl
      have e5:(x.name==[62,61])=true:=by rw[h];rfl
      rw[e0];exact py
    case rest=>
    obtain⟨rfl,rfl⟩:=hcut;clear dI HREL;have HLa:=aa (fun w (h:bO w pt pv T L)=>qL h ⟨at_,av,ai⟩ bt);have HLb:=aa (fun w (h:bO w pt pv T L)=>qL h ⟨bt,bv,bi⟩ at_);have DB:=aa (uB (T:=T) (j:=⟨at_,av,ai⟩) (i:=bt) VA.out);have VJ:=aa (uB (T:=T) (j:=⟨bt,bv,bi⟩) (i:=at_) VB.out);have yo:=bz.out;clear bz;generalize bG T ⟨at_,av,ai⟩ bt=j2 at *;generalize bG T ⟨bt,bv,bi⟩ at_=j3 at *;obtain⟨t2,v2,i2⟩:=j2;obtain⟨t3,v3,i3⟩:=j3;have vt:=aa (show Vw v2 from DB.out);have JX:=aa (show Vw v3 from VJ.out);have bz:=aa (show r=(aI (cM T x.name t2 t3) x 252 >>= fun _=>gC T x ⟨t2,v2,i2⟩ ⟨t3,v3,i3⟩ >>= fun _=>if v2=.none∨v3=.none then .ok ⟨3,.none,0⟩else cS T x 3 (bC x.name v2 v3))from yo);clear yo DB VJ;have z1:=X1.out.cell;have l1:=X1.out.lt;have z5:=J5.out.cell;have l5:=J5.out.lt;have z6:=J6.out.cell;have l6:=J6.out.lt;go_upto_region 28 with(fail);refine bh [10,11] [] (by kernel_rfl) ?_;refine FQ (Below.refl _ _) [0,1,2,3,7,8] ?_;refine FR (Below.refl _ _) 5 ?_;refine FR (Below.refl _ _) 6 ?_;refine lf (i:=4) (by kernel_rfl) aG rfl (by kernel_rfl) (Below.refl _ _) rfl (by intro c a d v w;cases d<;>exact Iff.rfl) (fun w1 _=>?_) (fun w4 ab=>(HLa.out _ (H.out.later (bb Br.out ab))).mono ?_)
    ·(go_simp;exact⟨rfl,rfl⟩)
    rintro e wa ⟨rfl,hba⟩;refine⟨hba,?_⟩;have Ca:=aa (bb ab hba);clear hba ab;refine lf (i:=9) (by kernel_rfl) aG rfl (by kernel_rfl) Ca.out rfl (by intro c a d v w;cases d<;>exact Iff.rfl) (fun w1 _=>?_) (fun w4 ab=>(HLb.out _ (H.out.later (bb Br.out (bb Ca.out ab)))).mono ?_)
    ·(go_simp;exact⟨rfl,rfl⟩)
    rintro e wb ⟨rfl,hbb⟩;refine⟨hbb,?_⟩;have Cb:=aa (bb Ca.out (bb ab hbb));clear hbb ab;dsimp only[bU];refine cV 10 (by kernel_rfl) (by kernel_rfl) Cb.out (fun wh hwh=>?_);refine FA ?_;have hbh:=bb Cb.out hwh;have Bh:=ah Br hbh;have X1:=aa (X1.out.grow hbh);have X2:=aa (X2.out.grow hbh);have J5:=aa (J5.out.grow hbh);have J6:=aa (J6.out.grow hbh);clear hbh;have z5:=J5.out.cell;have f5:=J5.out.frozen;have l5:=J5.out.lt;have z6:=J6.out.cell;have f6:=J6.out.frozen;have l6:=J6.out.lt;have n56:¬b5=b6:=by have:=NB.out.2.2;omega
    have n65:¬b6=b5:=by have:=NB.out.2.2;omega
    clear hwh Ca Cb HLa HLb;go_upto_region 29 with(fail);have yp:=pw J5.out ⟨t2,v2,i2⟩;have h65:b5≠b6:=n56;have VK:Bx b6 _ _ (((wh.setCell ⟨b5,0,none⟩ (.int .i64 t2)).setCell ⟨b5,1,none⟩ (aK v2)).setCell ⟨b5,2,none⟩ (.int .u8 i2)):=((J6.out.far (show b6≠b5 from n65) _).far (show b6≠b5 from n65) _).far (show b6≠b5 from n65) _;have JY:=pw VK ⟨t3,v3,i3⟩;have yp:=((yp.far (a:=⟨b6,0,none⟩) n56 (.int .i64 t3)).far (a:=⟨b6,1,none⟩) n56 (aK v3)).far (a:=⟨b6,2,none⟩) n56 (.int .u8 i3);have ad:Below w.heap.size w _:=mS (v0:=.int .i64 t3) (v1:=aK v3) (v2:=.int .u8 i3) (k:=b6) (mS (v0:=.int .i64 t2) (v1:=aK v2) (v2:=.int .u8 i2) (k:=b5) Bh.out (by have:=NB.out.1;have:=B20.out.size;omega)) (by have:=NB.out.2.1;have:=B20.out.size;omega);have fk:Bx w.heap.size _ _ _:=(((((X1.out.far (a:=⟨b5,0,none⟩) (show w.heap.size≠b5 by have:=NB.out.1;have:=X20.out;omega) (.int .i64 t2)).far (a:=⟨b5,1,none⟩) (show w.heap.size≠b5 by have:=NB.out.1;have:=X20.out;omega) (aK v2)).far (a:=⟨b5,2,none⟩) (show w.heap.size≠b5 by have:=NB.out.1;have:=X20.out;omega) (.int .u8 i2)).far (a:=⟨b6,0,none⟩) (show w.heap.size≠b6 by have:=NB.out.2.1;have:=X20.out;omega) (.int .i64 t3)).far (a:=⟨b6,1,none⟩) (show w.heap.size≠b6 by have:=NB.out.2.1;have:=X20.out;omega) (aK v3)).far (a:=⟨b6,2,none⟩) (show w.heap.size≠b6 by have:=NB.out.2.1;have:=X20.out;omega) (.int .u8 i3);have dK:Bx (w.heap.size+1) _ _ _:=(((((X2.out.far (a:=⟨b5,0,none⟩) (show w.heap.size+1≠b5 by have:=NB.out.1;have:=X20.out;omega) (.int .i64 t2)).far (a:=⟨b5,1,none⟩) (show w.heap.size+1≠b5 by have:=NB.out.1;have:=X20.out;omega) (aK v2)).far (a:=⟨b5,2,none⟩) (show w.heap.size+1≠b5 by have:=NB.out.1;have:=X20.out;omega) (.int .u8 i2)).far (a:=⟨b6,0,none⟩) (show w.heap.size+1≠b6 by have:=NB.out.2.1;have:=X20.out;omega) (.int .i64 t3)).far (a:=⟨b6,1,none⟩) (show w.heap.size+1≠b6 by have:=NB.out.2.1;have:=X20.out;omega) (aK v3)).far (a:=⟨b6,2,none⟩) (show w.heap.size+1≠b6 by have:=NB.out.2.1;have:=X20.out;omega) (.int .u8 i3);dsimp only[kJ]at yp JY;generalize((((((wh.setCell _ _).setCell _ _).setCell _ _).setCell _ _).setCell _ _).setCell _ _)=wk at *;have X1:=aa fk;have X2:=aa dK;have J5:=aa yp;have J6:=aa JY;have Bk:=aa ad;have z1:=X1.out.cell;have l1:=X1.out.lt;have z5:=J5.out.cell;have l5:=J5.out.lt;have z6:=J6.out.cell;have l6:=J6.out.lt;clear fk dK yp JY ad VK f5 f6 n56 n65 h65;have HXk:=aa (HX.out.later Bk.out);go_wp2_with fail;refine(Ot (H.out.later Bk.out) x.name t2 t3).mono ?_;rintro e wf ⟨rfl,hbf⟩;have HXf:=aa (HXk.out.later hbf);have Bf:=ah Bk hbf;have X1:=aa (X1.out.grow hbf);have X2:=aa (X2.out.grow hbf);have J5:=aa (J5.out.grow hbf);have J6:=aa (J6.out.grow hbf);clear hbf;have z1:=X1.out.cell;have l1:=X1.out.lt;have z5:=J5.out.cell;have l5:=J5.out.lt;have z6:=J6.out.cell;have l6:=J6.out.lt;cases hft:cM T x.name t2 t3
    ·exact OP
    have cH:=aa (show r=(gC T x ⟨t2,v2,i2⟩ ⟨t3,v3,i3⟩ >>= fun _=>if v2=.none∨v3=.none then .ok ⟨3,.none,0⟩else cS T x 3 (bC x.name v2 v3))by have:=bz.out;rw[hft]at this;exact this);clear bz hft;go_wp2_with fail;refine(da HXf.out 252).mono ?_;rintro e wq ⟨rfl,rfl⟩;have HBS:=aa (OK (H.out.later Bf.out) HXf.out HK.out ⟨t2,v2,i2⟩ ⟨t3,v3,i3⟩ vt.out JX.out);have hbs:=HBS.out;clear HBS;cases hbd:gC T x ⟨t2,v2,i2⟩ ⟨t3,v3,i3⟩with
    |error q=>
     exact OQ
    |ok u=>
    have dv:=aa (show r=(if v2=.none∨v3=.none then .ok ⟨3,.none,0⟩else cS T x 3 (bC x.name v2 v3))by have:=cH.out;rw[hbd]at this;exact this);rw[hbd]at hbs;have td:=aa hbs;clear cH hbd hbs;go_wp2_with fail;refine(td.out).mono ?_;rintro e wg ⟨hbg,rfl,_⟩;have Bg:=ah Bf hbg;have X1:=aa (X1.out.grow hbg);have X2:=aa (X2.out.grow hbg);have J5:=aa (J5.out.grow hbg);have J6:=aa (J6.out.grow hbg);clear hbg;have z1:=X1.out.cell;have l1:=X1.out.lt;have z5:=J5.out.cell;have l5:=J5.out.lt;have z6:=J6.out.cell;have l6:=J6.out.lt;have z2:=X2.out.cell;have f2:=X2.out.frozen;have l2:=X2.out.lt;clear td;go_upto_region 31 with(fail);by_cases nna:v2=.none
    ·have HVZ:=aa (show r=.ok ⟨3,.none,0⟩from dv.out.trans (if_pos (.inl nna)));have dna:=decide_eq_true nna;exact OR
    have dna:=decide_eq_false nna;by_cases nnb:v3=.none
    ·have HVZ:=aa (show r=.ok ⟨3,.none,0⟩from dv.out.trans (if_pos (.inr nnb)));have dnb:=decide_eq_true nnb;exact OR
    have dnb:=decide_eq_false nnb;have HVZ:=aa (dv.out.trans (if_neg (by rintro(h|h)<;>contradiction)));have HO:=aa ((HDO.out x.name v2 v3 vt.out JX.out).2);have HOV:=aa ((HDO.out x.name v2 v3 vt.out JX.out).1);obtain⟨Az,cz,k0z,k1z,k2z,k3z,k4z,hkidz⟩:=(HX.out.later Bg.out).cells;have lbz:=aQ k0z;have KIDz:=aa hkidz;clear hkidz;generalize bC x.name v2 v3=ro at *;obtain⟨vo,eo⟩:=ro;go_wp2_with fail;refine(HO.out _).mono ?_;rintro e wd ⟨rfl,hbd⟩;have Bd:=ah Bg hbd;have X1:=aa (X1.out.grow hbd);have X2:=aa (X2.out.grow hbd);clear hbd;have z1:=X1.out.cell;have l1:=X1.out.lt;have z2:=X2.out.cell;have f2:=X2.out.frozen;have l2:=X2.out.lt;have HFD:=aa (fun w' (hb:Below wd.heap.size wd w')=>wM ((H.out.later Bd.out).later hb) ((HX.out.later Bd.out).later hb) (3:Int) vo eo HOV.out);have hfd:=HFD.out;have HVY:=aa (show r=cS T x (3:Int) (vo,eo)from HVZ.out);clear HVZ HFD;cases eL:cS T x (3:Int) (vo,eo)with
    |error q=>
     exact AW
    |ok j3=>
     exact AX
   as_aux_lemma=>
    have bz:=aa (show r=(aI (cM T x.name at_ bt) x 252 >>= fun _=>gC T x ⟨at_,av,ai⟩ ⟨bt,bv,bi⟩ >>= fun _=>
     if av=.none∨bv=.none then .ok ⟨if aP T at_=5 then aP T bt else aP T at_,.none,0⟩else cS T x (if aP T at_=5 then aP T bt else aP T at_) (bC x.name av bv))from bf.out.trans ((if_neg hin).trans (if_neg hrel)))
    clear bf;have dI:(x.name==[73,78])=false:=beq_eq_false_iff_ne.2 hin;have dEq:(x.name==[61])=false:=beq_eq_false_iff_ne.2 (fun h=>hrel (.inl h));have dNe:(x.name==[35])=false:=beq_eq_false_iff_ne.2 (fun h=>hrel (.inr (.inl h)));have dLt:(x.name==[60])=false:=beq_eq_false_iff_ne.2 (fun h=>hrel (.inr (.inr (.inl h))));have dLe:(x.name==[60,61])=false:=beq_eq_false_iff_ne.2 (fun h=>hrel (.inr (.inr (.inr (.inl h)))));have dGt:(x.name==[62])=false:=beq_eq_false_iff_ne.2 (fun h=>hrel (.inr (.inr (.inr (.inr (.inl h))))));have dGe:(x.name==[62,61])=false:=beq_eq_false_iff_ne.2 (fun h=>hrel (.inr (.inr (.inr (.inr (.inr h))))));clear hin hrel;go_upto_region 12 with(fail);clear dI dEq dNe dLt dLe dGt dGe;go_wp2_with fail;refine(Ot (H.out.later Br.out) x.name at_ bt).mono ?_;rintro e wf ⟨rfl,hbf⟩;have Bf:=ah Br hbf;have X1:=aa (X1.out.grow hbf);have X2:=aa (X2.out.grow hbf);have J5:=aa (J5.out.grow hbf);have J6:=aa (J6.out.grow hbf);clear hbf;have z1:=X1.out.cell;have l1:=X1.out.lt;have z5:=J5.out.cell;have l5:=J5.out.lt;have z6:=J6.out.cell;have l6:=J6.out.lt;have HXf:=aa (HX.out.later Bf.out);cases hft:cM T x.name at_ bt
    ·exact OP
    have cH:=aa (show r=(gC T x ⟨at_,av,ai⟩ ⟨bt,bv,bi⟩ >>= fun _=>
     if av=.none∨bv=.none then .ok ⟨if aP T at_=5 then aP T bt else aP T at_,.none,0⟩else cS T x (if aP T at_=5 then aP T bt else aP T at_) (bC x.name av bv))by have:=bz.out;rw[hft]at this;exact this)
    clear bz hft;go_wp2_with fail;refine(da HXf.out 252).mono ?_;rintro e wq ⟨rfl,rfl⟩;have HBS:=aa (OK (H.out.later Bf.out) HXf.out HK.out ⟨at_,av,ai⟩ ⟨bt,bv,bi⟩ VA.out VB.out);have hbs:=HBS.out;clear HBS;cases hbd:gC T x ⟨at_,av,ai⟩ ⟨bt,bv,bi⟩with
    |error q=>
     exact OQ
    |ok u=>
    have dv:=aa (show r=(if av=.none∨bv=.none then .ok ⟨if aP T at_=5 then aP T bt else aP T at_,.none,0⟩else cS T x (if aP T at_=5 then aP T bt else aP T at_) (bC x.name av bv))by have:=cH.out;rw[hbd]at this;exact this);rw[hbd]at hbs;have td:=aa hbs;clear cH hbd hbs;go_wp2_with fail;refine(td.out).mono ?_;rintro e wg ⟨hbg,rfl,_⟩;have Bg:=ah Bf hbg;have X1:=aa (X1.out.grow hbg);have X2:=aa (X2.out.grow hbg);have J5:=aa (J5.out.grow hbg);have J6:=aa (J6.out.grow hbg);clear hbg;have z1:=X1.out.cell;have l1:=X1.out.lt;have z5:=J5.out.cell;have l5:=J5.out.lt;have z6:=J6.out.cell;have l6:=J6.out.lt;clear td;have HBA:=aa (fun w (h:cF w pt T)=>mT h at_);have HBB:=aa (fun w (h:cF w pt T)=>mT h bt);generalize aP T at_=ba at *;generalize aP T bt=bb_ at *;go_wp2_with fail;refine(HBA.out _ (H.out.later Bg.out).tab).mono ?_;rintro e wh ⟨rfl,hbh⟩;have Bh:=ah Bg hbh;have X1:=aa (X1.out.grow hbh);have X2:=aa (X2.out.grow hbh);have J5:=aa (J5.out.grow hbh);have J6:=aa (J6.out.grow hbh);clear hbh;have z1:=X1.out.cell;have l1:=X1.out.lt;have z5:=J5.out.cell;have l5:=J5.out.lt;have z6:=J6.out.cell;have l6:=J6.out.lt;by_cases h5:ba=5
    ·subst h5;have lJ:=aa (show r=(if av=.none∨bv=.none then .ok ⟨bb_,.none,0⟩else cS T x bb_ (bC x.name av bv))by have:=dv.out;rw[if_pos rfl]at this;exact this);clear dv;go_wp2_with fail;refine(HBB.out _ (H.out.later Bh.out).tab).mono ?_;rintro e wi ⟨rfl,hbi⟩;have Bi:=ah Bh hbi;have X1:=aa (X1.out.grow hbi);have X2:=aa (X2.out.grow hbi);have J5:=aa (J5.out.grow hbi);have J6:=aa (J6.out.grow hbi);clear hbi;have z1:=X1.out.cell;have l1:=X1.out.lt;have z5:=J5.out.cell;have l5:=J5.out.lt;have z6:=J6.out.cell;have l6:=J6.out.lt;have z2:=X2.out.cell;have f2:=X2.out.frozen;have l2:=X2.out.lt;clear HBA HBB;go_upto_region 31 with(fail);by_cases nna:av=.none
     ·have HVZ:=aa (show r=.ok ⟨bb_,.none,0⟩from lJ.out.trans (if_pos (.inl nna)));have dna:=decide_eq_true nna;exact OS
     have dna:=decide_eq_false nna;by_cases nnb:bv=.none
     ·have HVZ:=aa (show r=.ok ⟨bb_,.none,0⟩from lJ.out.trans (if_pos (.inr nnb)));have dnb:=decide_eq_true nnb;exact OS
     have dnb:=decide_eq_false nnb;have HVZ:=aa (lJ.out.trans (if_neg (by rintro(h|h)<;>contradiction)));have HO:=aa ((HDO.out x.name av bv VA.out VB.out).2);have HOV:=aa ((HDO.out x.name av bv VA.out VB.out).1);obtain⟨Az,cz,k0z,k1z,k2z,k3z,k4z,hkidz⟩:=(HX.out.later Bi.out).cells;have lbz:=aQ k0z;have KIDz:=aa hkidz;clear hkidz;generalize bC x.name av bv=ro at *;obtain⟨vo,eo⟩:=ro;go_wp2_with fail;refine(HO.out _).mono ?_;rintro e wd ⟨rfl,hbd⟩;have Bd:=ah Bi hbd;have X1:=aa (X1.out.grow hbd);have X2:=aa (X2.out.grow hbd);clear hbd;have z1:=X1.out.cell;have l1:=X1.out.lt;have z2:=X2.out.cell;have f2:=X2.out.frozen;have l2:=X2.out.lt;have HFD:=aa (fun w' (hb:Below wd.heap.size wd w')=>wM ((H.out.later Bd.out).later hb) ((HX.out.later Bd.out).later hb) (bb_) vo eo HOV.out);have hfd:=HFD.out;have HVY:=aa (show r=cS T x (bb_) (vo,eo)from HVZ.out);clear HVZ HFD;cases eL:cS T x (bb_) (vo,eo)with
     |error q=>
      exact AW
     |ok j3=>
      exact AX
    ·have lJ:=aa (show r=(if av=.none∨bv=.none then .ok ⟨ba,.none,0⟩else cS T x ba (bC x.name av bv))by have:=dv.out;rw[if_neg h5]at this;exact this);have d5:=beq_eq_false_iff_ne.2 h5;have z2:=X2.out.cell;have f2:=X2.out.frozen;have l2:=X2.out.lt;clear dv HBA HBB;go_upto_region 31 with(fail);by_cases nna:av=.none
     ·have HVZ:=aa (show r=.ok ⟨ba,.none,0⟩from lJ.out.trans (if_pos (.inl nna)));have dna:=decide_eq_true nna;exact OT
     have dna:=decide_eq_false nna;by_cases nnb:bv=.none
     ·have HVZ:=aa (show r=.ok ⟨ba,.none,0⟩from lJ.out.trans (if_pos (.inr nnb)));have dnb:=decide_eq_true nnb;exact OT
     have dnb:=decide_eq_false nnb;have HVZ:=aa (lJ.out.trans (if_neg (by rintro(h|h)<;>contradiction)));have HO:=aa ((HDO.out x.name av bv VA.out VB.out).2);have HOV:=aa ((HDO.out x.name av bv VA.out VB.out).1);obtain⟨Az,cz,k0z,k1z,k2z,k3z,k4z,hkidz⟩:=(HX.out.later Bh.out).cells;have lbz:=aQ k0z;have KIDz:=aa hkidz;clear hkidz;generalize bC x.name av bv=ro at *;obtain⟨vo,eo⟩:=ro;go_wp2_with fail;refine(HO.out _).mono ?_;rintro e wd ⟨rfl,hbd⟩;have Bd:=ah Bh hbd;have X1:=aa (X1.out.grow hbd);have X2:=aa (X2.out.grow hbd);clear hbd;have z1:=X1.out.cell;have l1:=X1.out.lt;have z2:=X2.out.cell;have f2:=X2.out.frozen;have l2:=X2.out.lt;have HFD:=aa (fun w' (hb:Below wd.heap.size wd w')=>wM ((H.out.later Bd.out).later hb) ((HX.out.later Bd.out).later hb) (ba) vo eo HOV.out);have hfd:=HFD.out;have HVY:=aa (show r=cS T x (ba) (vo,eo)from HVZ.out);clear HVZ HFD;cases eL:cS T x (ba) (vo,eo)with
     |error q=>
      exact AW
     |ok j3=>
      exact AX
end Go.Proofs.YtlpombjidhloiaaGreat
