/- konst. Condition: what each theorem says. -/
import Derived.Test.YtlpombjidhloiaaGreatBau
namespace Go.Proofs.YtlpombjidhloiaaGreat
open Go.RowKit
set_option maxRecDepth 100000
attribute [local go_sem ↓] Go.wp_at_zero Go.wp_at_succ
set_option maxHeartbeats 20000000 in
theorem aaj(op:List UInt8)(a b:aL)(hx:aT a=.null)(ha:Vw a)(hb:Vw b)(w:World):Calls Tryz.prog 111 #[.string ⟨op.toArray⟩,aK a,aK b] w (kM w (bC op a b)):=by
 generalize hrr:bC op a b=r;have HV:=aa hrr.symm;clear hrr;have HX:=aa hx;clear hx;have HA:=aa ha;have HB:=aa hb;clear ha hb;go_enter Tryz.func111,Tryz.ntmps111;go_wp2_with fail;refine(ma _).mono ?_;rintro e w1 ⟨r1,rfl,hk,ae⟩;obtain⟨u1,q1,l1,dL⟩:=me op hk;have bY:=aa dL;have aO:=aa ae;clear dL ae hk;go_wp2_with fail;clear l1;refine(mc _).mono ?_;rintro e w2 ⟨r2,p,q,rfl,hk,cp,cq,af⟩;obtain⟨u2,q2,l2,dF⟩:=mg op hk cp cq;have cO:=aa dF;have aV:=aa (aO.out.trans (af.mono aO.out.size));clear dF af hk cp cq;go_wp2_with fail;clear l2;refine(mb _).mono ?_;rintro e w3 ⟨r3,rfl,hk,ad⟩;obtain⟨u3,q3,l3,dM⟩:=mf op hk;have dw:=aa dM;have bD:=aa (aV.out.trans (ad.mono aV.out.size));have dN:=aa ad;clear dM ad hk;go_upto_region 4 with(fail);go_cut [14] (fun u w'=>u=.bool (decide (op=bQ∨op=bR))∧w'=w3);case first=>
  exact mj
 case rest=>
 obtain⟨rfl,rfl⟩:=hcut;have bK:∃q4,q4=decide (op=bQ∨op=bR):=⟨_,rfl⟩;obtain⟨q4,bK⟩:=bK;rw[←bK];have cD:=aa bK;clear bK l3;go_upto_region 5 with(fail);go_cut [55] (fun u w'=>u=.bool (!q1&& !q2&& !q3&& !q4&& !decide (op=bB))∧w'=wc);case first=>
  exact ml
 case rest=>
 obtain⟨rfl,rfl⟩:=hcut;have aq:=aa (HV.out.trans (mh bY.out.none cO.out.none dw.out.none cD.out a b));generalize(!q1&& !q2&& !q3&& !q4&& !decide (op=bB))=q0 at *;cases q0;case true=>
  exact mn
 have ar:=aa (show r=fg op a b from aq.out);clear aq HV;go_wp2_with fail;refine(fA a HA.out _).mono ?_;rintro e w4 ⟨rfl,aw⟩;have cd:=ah bD aw;have dO:=ah dN aw;cases ia:dm a;case false=>
  exact mq
 have IA:=aa ia;clear ia;go_wp2_with fail;refine(fA b HB.out _).mono ?_;rintro e w5 ⟨rfl,au⟩;have bc:=ah cd au;have dP:=ah dO au;cases ib:dm b;case false=>
  exact mr
 have aA:=aa (show r=(if op=bB then fP (aR a) b else de op (aR a) (aT a) (aT b))by rw[ar.out];unfold fg;rw[IA.out,ib];rfl);clear ar ib IA;go_wp2_with fail;refine(eH a HA.out _).mono ?_;rintro e w6 ⟨rfl,aD⟩;have bT:=ah bc aD;have dQ:=ah dP aD;have HNA:=aa (fu HA.out);have hnl:=mi a;generalize aR a=na at *;have HNL:=aa hnl;clear hnl aw au aD;by_cases h5:op=bB
 ·have aM:=aa (show r=fP na b by rw[aA.out,if_pos h5]);subst h5;dsimp only[bB];clear aA HNL cD bY cO dw;cases b with
  |bits s=>
   cases na with
   |none=>
    exact mw
   |some n=>
    exact my
  |_=>
   exact mz
 have aM:=aa (show r=de op na (aT a) (aT b)by rw[aA.out,if_neg h5]);have d5:¬op=[73,78]:=h5;have d5b:(op==[73,78])=false:=beq_eq_false_iff_ne.2 h5;clear aA h5;have VA:=aa (fC HA.out);have VB:=aa (fC HB.out);go_wp2_with fail;refine(fX a _).mono ?_;rintro e w7 ⟨rfl,rfl⟩;go_wp2_with fail;refine(fX b _).mono ?_;rintro e w7 ⟨rfl,rfl⟩;generalize aT a=A at *;generalize aT b=B at *;obtain rfl:=HNL.out;clear HA HB HNL;go_wp2_with fail;refine(eH B VB.out _).mono ?_;rintro e w7 ⟨rfl,aC⟩;have cA:=ah bT aC;have iz:=ah dQ aC;have HNB:=aa (fu VB.out);clear aC bT bc cd bD aV aO dQ dP dO dN;obtain rfl:=HX.out;clear HX;cases hal:dz .null B;case false=>
  have bf:=aa (show r=(.none,100)from aM.out.trans (qP hal (fun h=>nomatch h)));clear aM;have HAL:=aa (jP .null B);exact qQ
 case true=>
  obtain rfl:B=.null:=by cases B<;>first|rfl|exact absurd (show false=true from hal) (by decide)
  have bf:=aa (aM.out.trans (ZW op));rw[show aR .null=none from rfl];dsimp only[Option.getD,Option.isSome];clear aM;have HAL:=aa (jP .null .null);go_wp2_with fail;refine(HAL.out _).mono ?_;rintro e w8 ⟨rfl,aB⟩;have gY:=ah cA aB;have qa:=ah iz aB;clear aB HAL;rw[hal];clear hal;by_cases he:op=dT
  ·subst he;have bz:=aa (show r=(.truth true,0)from bf.out);dsimp only[dT];exact fD
  by_cases hne:op=eI
  ·subst hne;have bz:=aa (show r=(.truth false,0)from bf.out);dsimp only[eI];exact fD
  ·have bz:=aa (show r=(.none,100)by rw[bf.out];simp[he,hne]);have e1:¬op=[61]:=he;have e2:¬op=[35]:=hne;have e3:(op==[61])=false:=beq_eq_false_iff_ne.2 he;have e4:(op==[35])=false:=beq_eq_false_iff_ne.2 hne;clear he hne;exact fD
set_option maxHeartbeats 20000000 in
theorem aad(op:List UInt8)(a b:aL)(VU:dz (aT a) (aT b)=false)(hx:∃p,aT a=.truth p)(ha:Vw a)(hb:Vw b)(w:World):Calls Tryz.prog 111 #[.string ⟨op.toArray⟩,aK a,aK b] w (kM w (bC op a b)):=by
 generalize hrr:bC op a b=r;have HV:=aa hrr.symm;clear hrr;have HX:=aa hx;have HY:=aa VU;clear hx VU;have HA:=aa ha;have HB:=aa hb;clear ha hb;go_enter Tryz.func111,Tryz.ntmps111;go_wp2_with fail;refine(ma _).mono ?_;rintro e w1 ⟨r1,rfl,hk,ae⟩;obtain⟨u1,q1,l1,dL⟩:=me op hk;have bY:=aa dL;have aO:=aa ae;clear dL ae hk;go_wp2_with fail;clear l1;refine(mc _).mono ?_;rintro e w2 ⟨r2,p,q,rfl,hk,cp,cq,af⟩;obtain⟨u2,q2,l2,dF⟩:=mg op hk cp cq;have cO:=aa dF;have aV:=aa (aO.out.trans (af.mono aO.out.size));clear dF af hk cp cq;go_wp2_with fail;clear l2;refine(mb _).mono ?_;rintro e w3 ⟨r3,rfl,hk,ad⟩;obtain⟨u3,q3,l3,dM⟩:=mf op hk;have dw:=aa dM;have bD:=aa (aV.out.trans (ad.mono aV.out.size));have dN:=aa ad;clear dM ad hk;go_upto_region 4 with(fail);go_cut [14] (fun u w'=>u=.bool (decide (op=bQ∨op=bR))∧w'=w3);case first=>
  exact mj
 case rest=>
 obtain⟨rfl,rfl⟩:=hcut;have bK:∃q4,q4=decide (op=bQ∨op=bR):=⟨_,rfl⟩;obtain⟨q4,bK⟩:=bK;rw[←bK];have cD:=aa bK;clear bK l3;go_upto_region 5 with(fail);go_cut [55] (fun u w'=>u=.bool (!q1&& !q2&& !q3&& !q4&& !decide (op=bB))∧w'=wc);case first=>
  exact ml
 case rest=>
 obtain⟨rfl,rfl⟩:=hcut;have aq:=aa (HV.out.trans (mh bY.out.none cO.out.none dw.out.none cD.out a b));generalize(!q1&& !q2&& !q3&& !q4&& !decide (op=bB))=q0 at *;cases q0;case true=>
  exact mn
 have ar:=aa (show r=fg op a b from aq.out);clear aq HV;go_wp2_with fail;refine(fA a HA.out _).mono ?_;rintro e w4 ⟨rfl,aw⟩;have cd:=ah bD aw;have dO:=ah dN aw;cases ia:dm a;case false=>
  exact mq
 have IA:=aa ia;clear ia;go_wp2_with fail;refine(fA b HB.out _).mono ?_;rintro e w5 ⟨rfl,au⟩;have bc:=ah cd au;have dP:=ah dO au;cases ib:dm b;case false=>
  exact mr
 have aA:=aa (show r=(if op=bB then fP (aR a) b else de op (aR a) (aT a) (aT b))by rw[ar.out];unfold fg;rw[IA.out,ib];rfl);clear ar ib IA;go_wp2_with fail;refine(eH a HA.out _).mono ?_;rintro e w6 ⟨rfl,aD⟩;have bT:=ah bc aD;have dQ:=ah dP aD;have HNA:=aa (fu HA.out);have hnl:=mi a;generalize aR a=na at *;have HNL:=aa hnl;clear hnl aw au aD;by_cases h5:op=bB
 ·have aM:=aa (show r=fP na b by rw[aA.out,if_pos h5]);subst h5;dsimp only[bB];clear aA HNL cD bY cO dw;cases b with
  |bits s=>
   cases na with
   |none=>
    exact mw
   |some n=>
    exact my
  |_=>
   exact mz
 have aM:=aa (show r=de op na (aT a) (aT b)by rw[aA.out,if_neg h5]);have d5:¬op=[73,78]:=h5;have d5b:(op==[73,78])=false:=beq_eq_false_iff_ne.2 h5;clear aA h5;have VA:=aa (fC HA.out);have VB:=aa (fC HB.out);go_wp2_with fail;refine(fX a _).mono ?_;rintro e w7 ⟨rfl,rfl⟩;go_wp2_with fail;refine(fX b _).mono ?_;rintro e w7 ⟨rfl,rfl⟩;generalize aT a=A at *;generalize aT b=B at *;obtain rfl:=HNL.out;clear HA HB HNL;go_wp2_with fail;refine(eH B VB.out _).mono ?_;rintro e w7 ⟨rfl,aC⟩;have cA:=ah bT aC;have iz:=ah dQ aC;have HNB:=aa (fu VB.out);clear aC bT bc cd bD aV aO dQ dP dO dN;obtain⟨p,rfl⟩:=HX.out;clear HX;have hal:=HY.out;have bf:=aa (show r=(.none,100)from aM.out.trans (qP hal (fun h=>nomatch h)));clear aM;have HAL:=aa (jP (.truth p) B);exact qQ
end Go.Proofs.YtlpombjidhloiaaGreat
