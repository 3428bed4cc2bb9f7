/- konst. Condition: what each theorem says. -/
import Derived.Test.YtlpombjidhloiaaGreatBau
namespace Go.Proofs.YtlpombjidhloiaaGreat
open Go.RowKit
set_option maxRecDepth 100000
attribute [local go_sem ↓] Go.wp_at_zero Go.wp_at_succ
set_option maxHeartbeats 20000000 in
theorem ZX(op:List UInt8)(a b:aL)(hx:∃x,aT a=.bits x)(ha:Vw a)(hb:Vw b)(w:World):Calls Tryz.prog 111 #[.string ⟨op.toArray⟩,aK a,aK b] w (kM w (bC op a b)):=by
 generalize hrr:bC op a b=r;have HV:=aa hrr.symm;clear hrr;have HX:=aa hx;clear hx;have HA:=aa ha;have HB:=aa hb;clear ha hb;go_enter Tryz.func111,Tryz.ntmps111;go_wp2_with fail;refine(ma _).mono ?_;rintro e w1 ⟨r1,rfl,hk,ae⟩;obtain⟨u1,q1,l1,dL⟩:=me op hk;have bY:=aa dL;have aO:=aa ae;clear dL ae hk;go_wp2_with fail;clear l1;refine(mc _).mono ?_;rintro e w2 ⟨r2,p,q,rfl,hk,cp,cq,af⟩;obtain⟨u2,q2,l2,dF⟩:=mg op hk cp cq;have cO:=aa dF;have aV:=aa (aO.out.trans (af.mono aO.out.size));clear dF af hk cp cq;go_wp2_with fail;clear l2;refine(mb _).mono ?_;rintro e w3 ⟨r3,rfl,hk,ad⟩;obtain⟨u3,q3,l3,dM⟩:=mf op hk;have dw:=aa dM;have bD:=aa (aV.out.trans (ad.mono aV.out.size));have dN:=aa ad;clear dM ad hk;go_upto_region 4 with(fail);go_cut [14] (fun u w'=>u=.bool (decide (op=bQ∨op=bR))∧w'=w3);case first=>
  exact mj
 case rest=>
 obtain⟨rfl,rfl⟩:=hcut;have bK:∃q4,q4=decide (op=bQ∨op=bR):=⟨_,rfl⟩;obtain⟨q4,bK⟩:=bK;rw[←bK];have cD:=aa bK;clear bK l3;go_upto_region 5 with(fail);go_cut [55] (fun u w'=>u=.bool (!q1&& !q2&& !q3&& !q4&& !decide (op=bB))∧w'=wc);case first=>
  exact ml
 case rest=>
 obtain⟨rfl,rfl⟩:=hcut;have aq:=aa (HV.out.trans (mh bY.out.none cO.out.none dw.out.none cD.out a b));generalize(!q1&& !q2&& !q3&& !q4&& !decide (op=bB))=q0 at *;cases q0;case true=>
  exact mn
 have ar:=aa (show r=fg op a b from aq.out);clear aq HV;go_wp2_with fail;refine(fA a HA.out _).mono ?_;rintro e w4 ⟨rfl,aw⟩;have cd:=ah bD aw;have dO:=ah dN aw;cases ia:dm a;case false=>
  exact mq
 have IA:=aa ia;clear ia;go_wp2_with fail;refine(fA b HB.out _).mono ?_;rintro e w5 ⟨rfl,au⟩;have bc:=ah cd au;have dP:=ah dO au;cases ib:dm b;case false=>
  exact mr
 have aA:=aa (show r=(if op=bB then fP (aR a) b else de op (aR a) (aT a) (aT b))by rw[ar.out];unfold fg;rw[IA.out,ib];rfl);clear ar ib IA;go_wp2_with fail;refine(eH a HA.out _).mono ?_;rintro e w6 ⟨rfl,aD⟩;have bT:=ah bc aD;have dQ:=ah dP aD;have HNA:=aa (fu HA.out);have hnl:=mi a;generalize aR a=na at *;have HNL:=aa hnl;clear hnl aw au aD;by_cases h5:op=bB
 ·have aM:=aa (show r=fP na b by rw[aA.out,if_pos h5]);subst h5;dsimp only[bB];clear aA HNL cD bY cO dw;cases b with
  |bits s=>
   cases na with
   |none=>
    exact mw
   |some n=>
    exact my
  |_=>
   exact mz
 have aM:=aa (show r=de op na (aT a) (aT b)by rw[aA.out,if_neg h5]);have d5:¬op=[73,78]:=h5;have d5b:(op==[73,78])=false:=beq_eq_false_iff_ne.2 h5;clear aA h5;have VA:=aa (fC HA.out);have VB:=aa (fC HB.out);go_wp2_with fail;refine(fX a _).mono ?_;rintro e w7 ⟨rfl,rfl⟩;go_wp2_with fail;refine(fX b _).mono ?_;rintro e w7 ⟨rfl,rfl⟩;generalize aT a=A at *;generalize aT b=B at *;obtain rfl:=HNL.out;clear HA HB HNL;go_wp2_with fail;refine(eH B VB.out _).mono ?_;rintro e w7 ⟨rfl,aC⟩;have cA:=ah bT aC;have iz:=ah dQ aC;have HNB:=aa (fu VB.out);clear aC bT bc cd bD aV aO dQ dP dO dN;obtain⟨x,rfl⟩:=HX.out;clear HX;rcases dw.out with⟨rfl,h⟩|⟨rfl,h⟩
 ·have iQ:=h 0 0 (by omega) (by omega);have hal:dz (.bits x) B=false:=by cases B<;>rfl
  have bf:=aa (show r=(.none,100)from aM.out.trans (qP hal (fun _=>iQ)));clear aM;have HAL:=aa (jP (.bits x) B);exact qQ
 ·obtain⟨s0,iQ,_⟩:=h 0 0 (by omega) (by omega);cases hB:(lC B).2;case true=>
   obtain⟨y,rfl⟩:∃y,B=.bits y:=by cases B<;>first|exact⟨_,rfl⟩|exact absurd (show false=true from hB) (by decide)
   obtain⟨sr,hsr,fn,hu,hcf,hca⟩:=h x y VA.out VB.out;have bf:=aa (show r=(sr,0)by rw[aM.out,ZR iQ,hsr];rfl);have HCA:=aa hca;subst hu;clear aM iQ hsr h hca hB dw;unfold cm;go_wp2_with fail;refine(HCA.out _).mono ?_;rintro e w8 ⟨rfl,rfl⟩;go_wp2_with fail;go_ret2;rw[bf.out];exact⟨rfl,cA.out⟩
  case false=>
   have bf:=aa (show r=(.none,100)from aM.out.trans (ZS iQ hB));clear aM iQ h dw;go_wp2_with fail;go_ret2;rw[bf.out];exact⟨rfl,cA.out⟩
set_option maxHeartbeats 20000000 in
theorem aaa(op:List UInt8)(a b:aL)(hx:aT a=.none)(ha:Vw a)(hb:Vw b)(w:World):Calls Tryz.prog 111 #[.string ⟨op.toArray⟩,aK a,aK b] w (kM w (bC op a b)):=by
 generalize hrr:bC op a b=r;have HV:=aa hrr.symm;clear hrr;have HX:=aa hx;clear hx;have HA:=aa ha;have HB:=aa hb;clear ha hb;go_enter Tryz.func111,Tryz.ntmps111;go_wp2_with fail;refine(ma _).mono ?_;rintro e w1 ⟨r1,rfl,hk,ae⟩;obtain⟨u1,q1,l1,dL⟩:=me op hk;have bY:=aa dL;have aO:=aa ae;clear dL ae hk;go_wp2_with fail;clear l1;refine(mc _).mono ?_;rintro e w2 ⟨r2,p,q,rfl,hk,cp,cq,af⟩;obtain⟨u2,q2,l2,dF⟩:=mg op hk cp cq;have cO:=aa dF;have aV:=aa (aO.out.trans (af.mono aO.out.size));clear dF af hk cp cq;go_wp2_with fail;clear l2;refine(mb _).mono ?_;rintro e w3 ⟨r3,rfl,hk,ad⟩;obtain⟨u3,q3,l3,dM⟩:=mf op hk;have dw:=aa dM;have bD:=aa (aV.out.trans (ad.mono aV.out.size));have dN:=aa ad;clear dM ad hk;go_upto_region 4 with(fail);go_cut [14] (fun u w'=>u=.bool (decide (op=bQ∨op=bR))∧w'=w3);case first=>
  exact mj
 case rest=>
 obtain⟨rfl,rfl⟩:=hcut;have bK:∃q4,q4=decide (op=bQ∨op=bR):=⟨_,rfl⟩;obtain⟨q4,bK⟩:=bK;rw[←bK];have cD:=aa bK;clear bK l3;go_upto_region 5 with(fail);go_cut [55] (fun u w'=>u=.bool (!q1&& !q2&& !q3&& !q4&& !decide (op=bB))∧w'=wc);case first=>
  exact ml
 case rest=>
 obtain⟨rfl,rfl⟩:=hcut;have aq:=aa (HV.out.trans (mh bY.out.none cO.out.none dw.out.none cD.out a b));generalize(!q1&& !q2&& !q3&& !q4&& !decide (op=bB))=q0 at *;cases q0;case true=>
  exact mn
 have ar:=aa (show r=fg op a b from aq.out);clear aq HV;go_wp2_with fail;refine(fA a HA.out _).mono ?_;rintro e w4 ⟨rfl,aw⟩;have cd:=ah bD aw;have dO:=ah dN aw;cases ia:dm a;case false=>
  exact mq
 have IA:=aa ia;clear ia;go_wp2_with fail;refine(fA b HB.out _).mono ?_;rintro e w5 ⟨rfl,au⟩;have bc:=ah cd au;have dP:=ah dO au;cases ib:dm b;case false=>
  exact mr
 have aA:=aa (show r=(if op=bB then fP (aR a) b else de op (aR a) (aT a) (aT b))by rw[ar.out];unfold fg;rw[IA.out,ib];rfl);clear ar ib IA;go_wp2_with fail;refine(eH a HA.out _).mono ?_;rintro e w6 ⟨rfl,aD⟩;have bT:=ah bc aD;have dQ:=ah dP aD;have HNA:=aa (fu HA.out);have hnl:=mi a;generalize aR a=na at *;have HNL:=aa hnl;clear hnl aw au aD;by_cases h5:op=bB
 ·have aM:=aa (show r=fP na b by rw[aA.out,if_pos h5]);subst h5;dsimp only[bB];clear aA HNL cD bY cO dw;cases b with
  |bits s=>
   cases na with
   |none=>
    exact mw
   |some n=>
    exact my
  |_=>
   exact mz
 have aM:=aa (show r=de op na (aT a) (aT b)by rw[aA.out,if_neg h5]);have d5:¬op=[73,78]:=h5;have d5b:(op==[73,78])=false:=beq_eq_false_iff_ne.2 h5;clear aA h5;have VA:=aa (fC HA.out);have VB:=aa (fC HB.out);go_wp2_with fail;refine(fX a _).mono ?_;rintro e w7 ⟨rfl,rfl⟩;go_wp2_with fail;refine(fX b _).mono ?_;rintro e w7 ⟨rfl,rfl⟩;generalize aT a=A at *;generalize aT b=B at *;obtain rfl:=HNL.out;clear HA HB HNL;go_wp2_with fail;refine(eH B VB.out _).mono ?_;rintro e w7 ⟨rfl,aC⟩;have cA:=ah bT aC;have iz:=ah dQ aC;have HNB:=aa (fu VB.out);clear aC bT bc cd bD aV aO dQ dP dO dN;obtain rfl:=HX.out;clear HX;have hal:dz .none B=false:=by cases B<;>rfl
 have bf:=aa (show r=(.none,100)from aM.out.trans (qP hal (fun h=>nomatch h)));clear aM;have HAL:=aa (jP .none B);exact qQ
set_option maxHeartbeats 20000000 in
theorem aab(op:List UInt8)(a b:aL)(hx:∃s,aT a=.str s)(ha:Vw a)(hb:Vw b)(w:World):Calls Tryz.prog 111 #[.string ⟨op.toArray⟩,aK a,aK b] w (kM w (bC op a b)):=by
 generalize hrr:bC op a b=r;have HV:=aa hrr.symm;clear hrr;have HX:=aa hx;clear hx;have HA:=aa ha;have HB:=aa hb;clear ha hb;go_enter Tryz.func111,Tryz.ntmps111;go_wp2_with fail;refine(ma _).mono ?_;rintro e w1 ⟨r1,rfl,hk,ae⟩;obtain⟨u1,q1,l1,dL⟩:=me op hk;have bY:=aa dL;have aO:=aa ae;clear dL ae hk;go_wp2_with fail;clear l1;refine(mc _).mono ?_;rintro e w2 ⟨r2,p,q,rfl,hk,cp,cq,af⟩;obtain⟨u2,q2,l2,dF⟩:=mg op hk cp cq;have cO:=aa dF;have aV:=aa (aO.out.trans (af.mono aO.out.size));clear dF af hk cp cq;go_wp2_with fail;clear l2;refine(mb _).mono ?_;rintro e w3 ⟨r3,rfl,hk,ad⟩;obtain⟨u3,q3,l3,dM⟩:=mf op hk;have dw:=aa dM;have bD:=aa (aV.out.trans (ad.mono aV.out.size));have dN:=aa ad;clear dM ad hk;go_upto_region 4 with(fail);go_cut [14] (fun u w'=>u=.bool (decide (op=bQ∨op=bR))∧w'=w3);case first=>
  exact mj
 case rest=>
 obtain⟨rfl,rfl⟩:=hcut;have bK:∃q4,q4=decide (op=bQ∨op=bR):=⟨_,rfl⟩;obtain⟨q4,bK⟩:=bK;rw[←bK];have cD:=aa bK;clear bK l3;go_upto_region 5 with(fail);go_cut [55] (fun u w'=>u=.bool (!q1&& !q2&& !q3&& !q4&& !decide (op=bB))∧w'=wc);case first=>
  exact ml
 case rest=>
 obtain⟨rfl,rfl⟩:=hcut;have aq:=aa (HV.out.trans (mh bY.out.none cO.out.none dw.out.none cD.out a b));generalize(!q1&& !q2&& !q3&& !q4&& !decide (op=bB))=q0 at *;cases q0;case true=>
  exact mn
 have ar:=aa (show r=fg op a b from aq.out);clear aq HV;go_wp2_with fail;refine(fA a HA.out _).mono ?_;rintro e w4 ⟨rfl,aw⟩;have cd:=ah bD aw;have dO:=ah dN aw;cases ia:dm a;case false=>
  exact mq
 have IA:=aa ia;clear ia;go_wp2_with fail;refine(fA b HB.out _).mono ?_;rintro e w5 ⟨rfl,au⟩;have bc:=ah cd au;have dP:=ah dO au;cases ib:dm b;case false=>
  exact mr
 have aA:=aa (show r=(if op=bB then fP (aR a) b else de op (aR a) (aT a) (aT b))by rw[ar.out];unfold fg;rw[IA.out,ib];rfl);clear ar ib IA;go_wp2_with fail;refine(eH a HA.out _).mono ?_;rintro e w6 ⟨rfl,aD⟩;have bT:=ah bc aD;have dQ:=ah dP aD;have HNA:=aa (fu HA.out);have hnl:=mi a;generalize aR a=na at *;have HNL:=aa hnl;clear hnl aw au aD;by_cases h5:op=bB
 ·have aM:=aa (show r=fP na b by rw[aA.out,if_pos h5]);subst h5;dsimp only[bB];clear aA HNL cD bY cO dw;cases b with
  |bits s=>
   cases na with
   |none=>
    exact mw
   |some n=>
    exact my
  |_=>
   exact mz
 have aM:=aa (show r=de op na (aT a) (aT b)by rw[aA.out,if_neg h5]);have d5:¬op=[73,78]:=h5;have d5b:(op==[73,78])=false:=beq_eq_false_iff_ne.2 h5;clear aA h5;have VA:=aa (fC HA.out);have VB:=aa (fC HB.out);go_wp2_with fail;refine(fX a _).mono ?_;rintro e w7 ⟨rfl,rfl⟩;go_wp2_with fail;refine(fX b _).mono ?_;rintro e w7 ⟨rfl,rfl⟩;generalize aT a=A at *;generalize aT b=B at *;obtain rfl:=HNL.out;clear HA HB HNL;go_wp2_with fail;refine(eH B VB.out _).mono ?_;rintro e w7 ⟨rfl,aC⟩;have cA:=ah bT aC;have iz:=ah dQ aC;have HNB:=aa (fu VB.out);clear aC bT bc cd bD aV aO dQ dP dO dN;obtain⟨s,rfl⟩:=HX.out;clear HX;have hal:dz (.str s) B=false:=by cases B<;>rfl
 have bf:=aa (show r=(.none,100)from aM.out.trans (qP hal (fun h=>nomatch h)));clear aM;have HAL:=aa (jP (.str s) B);exact qQ
end Go.Proofs.YtlpombjidhloiaaGreat
