/- konst. Condition: what each theorem says. -/
import Derived.Test.YtlpombjidhloiaaGreatBau
namespace Go.Proofs.YtlpombjidhloiaaGreat
open Go.RowKit
set_option maxRecDepth 100000
attribute [local go_sem ↓] Go.wp_at_zero Go.wp_at_succ
set_option maxHeartbeats 20000000 in
theorem aai(op:List UInt8)(a b:aL)(hx:∃n,aT a=.whole n)(ha:Vw a)(hb:Vw b)(w:World):Calls Tryz.prog 111 #[.string ⟨op.toArray⟩,aK a,aK b] w (kM w (bC op a b)):=by
 generalize hrr:bC op a b=r;have HV:=aa hrr.symm;clear hrr;have HX:=aa hx;clear hx;have HA:=aa ha;have HB:=aa hb;clear ha hb;go_enter Tryz.func111,Tryz.ntmps111;go_wp2_with fail;refine(ma _).mono ?_;rintro e w1 ⟨r1,rfl,hk,ae⟩;obtain⟨u1,q1,l1,dL⟩:=me op hk;have bY:=aa dL;have aO:=aa ae;clear dL ae hk;go_wp2_with fail;clear l1;refine(mc _).mono ?_;rintro e w2 ⟨r2,p,q,rfl,hk,cp,cq,af⟩;obtain⟨u2,q2,l2,dF⟩:=mg op hk cp cq;have cO:=aa dF;have aV:=aa (aO.out.trans (af.mono aO.out.size));clear dF af hk cp cq;go_wp2_with fail;clear l2;refine(mb _).mono ?_;rintro e w3 ⟨r3,rfl,hk,ad⟩;obtain⟨u3,q3,l3,dM⟩:=mf op hk;have dw:=aa dM;have bD:=aa (aV.out.trans (ad.mono aV.out.size));have dN:=aa ad;clear dM ad hk;go_upto_region 4 with(fail);go_cut [14] (fun u w'=>u=.bool (decide (op=bQ∨op=bR))∧w'=w3);case first=>
  exact mj
 case rest=>
 obtain⟨rfl,rfl⟩:=hcut;have bK:∃q4,q4=decide (op=bQ∨op=bR):=⟨_,rfl⟩;obtain⟨q4,bK⟩:=bK;rw[←bK];have cD:=aa bK;clear bK l3;go_upto_region 5 with(fail);go_cut [55] (fun u w'=>u=.bool (!q1&& !q2&& !q3&& !q4&& !decide (op=bB))∧w'=wc);case first=>
  exact ml
 case rest=>
 obtain⟨rfl,rfl⟩:=hcut;have aq:=aa (HV.out.trans (mh bY.out.none cO.out.none dw.out.none cD.out a b));generalize(!q1&& !q2&& !q3&& !q4&& !decide (op=bB))=q0 at *;cases q0;case true=>
  exact mn
 have ar:=aa (show r=fg op a b from aq.out);clear aq HV;go_wp2_with fail;refine(fA a HA.out _).mono ?_;rintro e w4 ⟨rfl,aw⟩;have cd:=ah bD aw;have dO:=ah dN aw;cases ia:dm a;case false=>
  exact mq
 have IA:=aa ia;clear ia;go_wp2_with fail;refine(fA b HB.out _).mono ?_;rintro e w5 ⟨rfl,au⟩;have bc:=ah cd au;have dP:=ah dO au;cases ib:dm b;case false=>
  exact mr
 have aA:=aa (show r=(if op=bB then fP (aR a) b else de op (aR a) (aT a) (aT b))by rw[ar.out];unfold fg;rw[IA.out,ib];rfl);clear ar ib IA;go_wp2_with fail;refine(eH a HA.out _).mono ?_;rintro e w6 ⟨rfl,aD⟩;have bT:=ah bc aD;have dQ:=ah dP aD;have HNA:=aa (fu HA.out);have hnl:=mi a;generalize aR a=na at *;have HNL:=aa hnl;clear hnl aw au aD;by_cases h5:op=bB
 ·have aM:=aa (show r=fP na b by rw[aA.out,if_pos h5]);subst h5;dsimp only[bB];clear aA HNL cD bY cO dw;cases b with
  |bits s=>
   cases na with
   |none=>
    exact mw
   |some n=>
    exact my
  |_=>
   exact mz
 have aM:=aa (show r=de op na (aT a) (aT b)by rw[aA.out,if_neg h5]);have d5:¬op=[73,78]:=h5;have d5b:(op==[73,78])=false:=beq_eq_false_iff_ne.2 h5;clear aA h5;have VA:=aa (fC HA.out);have VB:=aa (fC HB.out);go_wp2_with fail;refine(fX a _).mono ?_;rintro e w7 ⟨rfl,rfl⟩;go_wp2_with fail;refine(fX b _).mono ?_;rintro e w7 ⟨rfl,rfl⟩;generalize aT a=A at *;generalize aT b=B at *;obtain rfl:=HNL.out;clear HA HB HNL;go_wp2_with fail;refine(eH B VB.out _).mono ?_;rintro e w7 ⟨rfl,aC⟩;have cA:=ah bT aC;have iz:=ah dQ aC;have HNB:=aa (fu VB.out);clear aC bT bc cd bD aV aO dQ dP dO dN;obtain⟨n,rfl⟩:=HX.out;clear HX;cases hal:dz (.whole n) B;case false=>
  have bf:=aa (show r=(.none,100)from aM.out.trans (qP hal (fun h=>nomatch h)));clear aM;have HAL:=aa (jP (.whole n) B);exact qQ
 case true=>
  obtain⟨m,rfl⟩:∃m,B=.whole m:=by cases B<;>first|exact⟨_,rfl⟩|exact absurd (show false=true from hal) (by decide)
  have hn:aR (.whole n)=some n:=if_pos VA.out;have hm:aR (.whole m)=some m:=if_pos VB.out;have bf:=aa (show r=(match fB op n m with|some r=>r|none=>eJ op n m)by rw[aM.out,hn,ZT hm];rfl);have SN:=aa (show kL n from HNA.out n hn);have SM:=aa (show kL m from HNB.out m hm);rw[hn,hm];dsimp only[Option.getD,Option.isSome];clear aM hn hm;have HAL:=aa (jP (.whole n) (.whole m));go_wp2_with fail;refine(HAL.out _).mono ?_;rintro e w8 ⟨rfl,aB⟩;have gY:=ah cA aB;have qa:=ah iz aB;clear aB HAL;rw[hal];clear hal;rcases cO.out with⟨rfl,h⟩|⟨rfl,h⟩
  ·have h0:=h n m SN.out SM.out;have HV6b:=aa (show r=eJ op n m by rw[bf.out,h0]);clear bf h h0 cO;rcases bY.out with⟨rfl,hq⟩|⟨rfl,hq⟩
   ·have bz:=aa (show r=(.none,100)by rw[HV6b.out];unfold eJ;rw[hq]);clear HV6b bY;exact fD
   ·obtain⟨sr,hsr,fn,hu,hcf,hca⟩:=hq n m;have bz:=aa (show r=(.truth sr,0)by rw[HV6b.out];unfold eJ;rw[hsr]);have HCA:=aa hca;subst hu;clear HV6b bY hsr hca hq;unfold cm;go_wp2_with fail;refine(HCA.out _).mono ?_;rintro e w9 ⟨rfl,rfl⟩;exact fD
  ·obtain⟨sr,hsr,fn,cap,hu,hcf,hca⟩:=h n m SN.out SM.out;obtain⟨sv,se⟩:=sr;have bz:=aa (show r=(sv,se)by rw[bf.out,hsr]);have HCA:=aa hca;subst hu;clear bf hsr hca h cO;go_wp2_with fail;refine(HCA.out _ (bb qa.out (cB _ _))).mono ?_;rintro e w9 ⟨rfl,rfl⟩;exact fD
set_option maxHeartbeats 20000000 in
theorem ZZ(op:List UInt8)(a b:aL)(hx:∃c,aT a=.letter c)(ha:Vw a)(hb:Vw b)(w:World):Calls Tryz.prog 111 #[.string ⟨op.toArray⟩,aK a,aK b] w (kM w (bC op a b)):=by
 generalize hrr:bC op a b=r;have HV:=aa hrr.symm;clear hrr;have HX:=aa hx;clear hx;have HA:=aa ha;have HB:=aa hb;clear ha hb;go_enter Tryz.func111,Tryz.ntmps111;go_wp2_with fail;refine(ma _).mono ?_;rintro e w1 ⟨r1,rfl,hk,ae⟩;obtain⟨u1,q1,l1,dL⟩:=me op hk;have bY:=aa dL;have aO:=aa ae;clear dL ae hk;go_wp2_with fail;clear l1;refine(mc _).mono ?_;rintro e w2 ⟨r2,p,q,rfl,hk,cp,cq,af⟩;obtain⟨u2,q2,l2,dF⟩:=mg op hk cp cq;have cO:=aa dF;have aV:=aa (aO.out.trans (af.mono aO.out.size));clear dF af hk cp cq;go_wp2_with fail;clear l2;refine(mb _).mono ?_;rintro e w3 ⟨r3,rfl,hk,ad⟩;obtain⟨u3,q3,l3,dM⟩:=mf op hk;have dw:=aa dM;have bD:=aa (aV.out.trans (ad.mono aV.out.size));have dN:=aa ad;clear dM ad hk;go_upto_region 4 with(fail);go_cut [14] (fun u w'=>u=.bool (decide (op=bQ∨op=bR))∧w'=w3);case first=>
  exact mj
 case rest=>
 obtain⟨rfl,rfl⟩:=hcut;have bK:∃q4,q4=decide (op=bQ∨op=bR):=⟨_,rfl⟩;obtain⟨q4,bK⟩:=bK;rw[←bK];have cD:=aa bK;clear bK l3;go_upto_region 5 with(fail);go_cut [55] (fun u w'=>u=.bool (!q1&& !q2&& !q3&& !q4&& !decide (op=bB))∧w'=wc);case first=>
  exact ml
 case rest=>
 obtain⟨rfl,rfl⟩:=hcut;have aq:=aa (HV.out.trans (mh bY.out.none cO.out.none dw.out.none cD.out a b));generalize(!q1&& !q2&& !q3&& !q4&& !decide (op=bB))=q0 at *;cases q0;case true=>
  exact mn
 have ar:=aa (show r=fg op a b from aq.out);clear aq HV;go_wp2_with fail;refine(fA a HA.out _).mono ?_;rintro e w4 ⟨rfl,aw⟩;have cd:=ah bD aw;have dO:=ah dN aw;cases ia:dm a;case false=>
  exact mq
 have IA:=aa ia;clear ia;go_wp2_with fail;refine(fA b HB.out _).mono ?_;rintro e w5 ⟨rfl,au⟩;have bc:=ah cd au;have dP:=ah dO au;cases ib:dm b;case false=>
  exact mr
 have aA:=aa (show r=(if op=bB then fP (aR a) b else de op (aR a) (aT a) (aT b))by rw[ar.out];unfold fg;rw[IA.out,ib];rfl);clear ar ib IA;go_wp2_with fail;refine(eH a HA.out _).mono ?_;rintro e w6 ⟨rfl,aD⟩;have bT:=ah bc aD;have dQ:=ah dP aD;have HNA:=aa (fu HA.out);have hnl:=mi a;generalize aR a=na at *;have HNL:=aa hnl;clear hnl aw au aD;by_cases h5:op=bB
 ·have aM:=aa (show r=fP na b by rw[aA.out,if_pos h5]);subst h5;dsimp only[bB];clear aA HNL cD bY cO dw;cases b with
  |bits s=>
   cases na with
   |none=>
    exact mw
   |some n=>
    exact my
  |_=>
   exact mz
 have aM:=aa (show r=de op na (aT a) (aT b)by rw[aA.out,if_neg h5]);have d5:¬op=[73,78]:=h5;have d5b:(op==[73,78])=false:=beq_eq_false_iff_ne.2 h5;clear aA h5;have VA:=aa (fC HA.out);have VB:=aa (fC HB.out);go_wp2_with fail;refine(fX a _).mono ?_;rintro e w7 ⟨rfl,rfl⟩;go_wp2_with fail;refine(fX b _).mono ?_;rintro e w7 ⟨rfl,rfl⟩;generalize aT a=A at *;generalize aT b=B at *;obtain rfl:=HNL.out;clear HA HB HNL;go_wp2_with fail;refine(eH B VB.out _).mono ?_;rintro e w7 ⟨rfl,aC⟩;have cA:=ah bT aC;have iz:=ah dQ aC;have HNB:=aa (fu VB.out);clear aC bT bc cd bD aV aO dQ dP dO dN;obtain⟨c,rfl⟩:=HX.out;clear HX;cases hal:dz (.letter c) B;case false=>
  have bf:=aa (show r=(.none,100)from aM.out.trans (qP hal (fun h=>nomatch h)));clear aM;have HAL:=aa (jP (.letter c) B);exact qQ
 case true=>
  obtain⟨d,rfl⟩:∃d,B=.letter d:=by cases B<;>first|exact⟨_,rfl⟩|exact absurd (show false=true from hal) (by decide)
  have bf:=aa (show r=eJ op (c:Int) (d:Int)from aM.out.trans (ZU op c d));have hn:aR (.letter c)=some (c:Int):=rfl;have hm:aR (.letter d)=some (d:Int):=rfl;rw[hn,hm];dsimp only[Option.getD,Option.isSome];clear aM hn hm;have HAL:=aa (jP (.letter c) (.letter d));go_wp2_with fail;refine(HAL.out _).mono ?_;rintro e w8 ⟨rfl,aB⟩;have gY:=ah cA aB;have qa:=ah iz aB;clear aB HAL;rw[hal];clear hal;rcases bY.out with⟨rfl,hq⟩|⟨rfl,hq⟩
  ·have bz:=aa (show r=(.none,100)by rw[bf.out];unfold eJ;rw[hq]);clear bf bY;exact fD
  ·obtain⟨sr,hsr,fn,hu,hcf,hca⟩:=hq (c:Int) (d:Int);have bz:=aa (show r=(.truth sr,0)by rw[bf.out];unfold eJ;rw[hsr]);have HCA:=aa hca;subst hu;clear bf bY hsr hca hq;unfold cm;go_wp2_with fail;refine(HCA.out _).mono ?_;rintro e w9 ⟨rfl,rfl⟩;exact fD
set_option maxHeartbeats 20000000 in
theorem ZY(op:List UInt8)(a b:aL)(hx:∃u n,aT a=.item u n)(ha:Vw a)(hb:Vw b)(w:World):Calls Tryz.prog 111 #[.string ⟨op.toArray⟩,aK a,aK b] w (kM w (bC op a b)):=by
 generalize hrr:bC op a b=r;have HV:=aa hrr.symm;clear hrr;have HX:=aa hx;clear hx;have HA:=aa ha;have HB:=aa hb;clear ha hb;go_enter Tryz.func111,Tryz.ntmps111;go_wp2_with fail;refine(ma _).mono ?_;rintro e w1 ⟨r1,rfl,hk,ae⟩;obtain⟨u1,q1,l1,dL⟩:=me op hk;have bY:=aa dL;have aO:=aa ae;clear dL ae hk;go_wp2_with fail;clear l1;refine(mc _).mono ?_;rintro e w2 ⟨r2,p,q,rfl,hk,cp,cq,af⟩;obtain⟨u2,q2,l2,dF⟩:=mg op hk cp cq;have cO:=aa dF;have aV:=aa (aO.out.trans (af.mono aO.out.size));clear dF af hk cp cq;go_wp2_with fail;clear l2;refine(mb _).mono ?_;rintro e w3 ⟨r3,rfl,hk,ad⟩;obtain⟨u3,q3,l3,dM⟩:=mf op hk;have dw:=aa dM;have bD:=aa (aV.out.trans (ad.mono aV.out.size));have dN:=aa ad;clear dM ad hk;go_upto_region 4 with(fail);go_cut [14] (fun u w'=>u=.bool (decide (op=bQ∨op=bR))∧w'=w3);case first=>
  exact mj
 case rest=>
 obtain⟨rfl,rfl⟩:=hcut;have bK:∃q4,q4=decide (op=bQ∨op=bR):=⟨_,rfl⟩;obtain⟨q4,bK⟩:=bK;rw[←bK];have cD:=aa bK;clear bK l3;go_upto_region 5 with(fail);go_cut [55] (fun u w'=>u=.bool (!q1&& !q2&& !q3&& !q4&& !decide (op=bB))∧w'=wc);case first=>
  exact ml
 case rest=>
 obtain⟨rfl,rfl⟩:=hcut;have aq:=aa (HV.out.trans (mh bY.out.none cO.out.none dw.out.none cD.out a b));generalize(!q1&& !q2&& !q3&& !q4&& !decide (op=bB))=q0 at *;cases q0;case true=>
  exact mn
 have ar:=aa (show r=fg op a b from aq.out);clear aq HV;go_wp2_with fail;refine(fA a HA.out _).mono ?_;rintro e w4 ⟨rfl,aw⟩;have cd:=ah bD aw;have dO:=ah dN aw;cases ia:dm a;case false=>
  exact mq
 have IA:=aa ia;clear ia;go_wp2_with fail;refine(fA b HB.out _).mono ?_;rintro e w5 ⟨rfl,au⟩;have bc:=ah cd au;have dP:=ah dO au;cases ib:dm b;case false=>
  exact mr
 have aA:=aa (show r=(if op=bB then fP (aR a) b else de op (aR a) (aT a) (aT b))by rw[ar.out];unfold fg;rw[IA.out,ib];rfl);clear ar ib IA;go_wp2_with fail;refine(eH a HA.out _).mono ?_;rintro e w6 ⟨rfl,aD⟩;have bT:=ah bc aD;have dQ:=ah dP aD;have HNA:=aa (fu HA.out);have hnl:=mi a;generalize aR a=na at *;have HNL:=aa hnl;clear hnl aw au aD;by_cases h5:op=bB
 ·have aM:=aa (show r=fP na b by rw[aA.out,if_pos h5]);subst h5;dsimp only[bB];clear aA HNL cD bY cO dw;cases b with
  |bits s=>
   cases na with
   |none=>
    exact mw
   |some n=>
    exact my
  |_=>
   exact mz
 have aM:=aa (show r=de op na (aT a) (aT b)by rw[aA.out,if_neg h5]);have d5:¬op=[73,78]:=h5;have d5b:(op==[73,78])=false:=beq_eq_false_iff_ne.2 h5;clear aA h5;have VA:=aa (fC HA.out);have VB:=aa (fC HB.out);go_wp2_with fail;refine(fX a _).mono ?_;rintro e w7 ⟨rfl,rfl⟩;go_wp2_with fail;refine(fX b _).mono ?_;rintro e w7 ⟨rfl,rfl⟩;generalize aT a=A at *;generalize aT b=B at *;obtain rfl:=HNL.out;clear HA HB HNL;go_wp2_with fail;refine(eH B VB.out _).mono ?_;rintro e w7 ⟨rfl,aC⟩;have cA:=ah bT aC;have iz:=ah dQ aC;have HNB:=aa (fu VB.out);clear aC bT bc cd bD aV aO dQ dP dO dN;obtain⟨u,n,rfl⟩:=HX.out;clear HX;cases hal:dz (.item u n) B;case false=>
  have bf:=aa (show r=(.none,100)from aM.out.trans (qP hal (fun h=>nomatch h)));clear aM;have HAL:=aa (jP (.item u n) B);exact qQ
 case true=>
  obtain⟨m,rfl⟩:∃m,B=.item u m:=by cases B<;>first|(rename_i u2 m;exact⟨m,by rw[show u=u2 from of_decide_eq_true hal]⟩)|exact absurd (show false=true from hal) (by decide)
  have bf:=aa (show r=eJ op n m from aM.out.trans (ZV op u n m));have hn:aR (.item u n)=some n:=rfl;have hm:aR (.item u m)=some m:=rfl;rw[hn,hm];dsimp only[Option.getD,Option.isSome];clear aM hn hm;have HAL:=aa (jP (.item u n) (.item u m));go_wp2_with fail;refine(HAL.out _).mono ?_;rintro e w8 ⟨rfl,aB⟩;have gY:=ah cA aB;have qa:=ah iz aB;clear aB HAL;rw[hal];clear hal;rcases bY.out with⟨rfl,hq⟩|⟨rfl,hq⟩
  ·have bz:=aa (show r=(.none,100)by rw[bf.out];unfold eJ;rw[hq]);clear bf bY;exact fD
  ·obtain⟨sr,hsr,fn,hu,hcf,hca⟩:=hq n m;have bz:=aa (show r=(.truth sr,0)by rw[bf.out];unfold eJ;rw[hsr]);have HCA:=aa hca;subst hu;clear bf bY hsr hca hq;unfold cm;go_wp2_with fail;refine(HCA.out _).mono ?_;rintro e w9 ⟨rfl,rfl⟩;exact fD
end Go.Proofs.YtlpombjidhloiaaGreat
