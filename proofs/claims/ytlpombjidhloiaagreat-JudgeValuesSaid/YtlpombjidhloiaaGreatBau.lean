/- The judge's parts upon expressions. konst. Condition: what each theorem says. -/
import Derived.Test.YtlpombjidhloiaaGreatBat
import Derived.Deep.CutBlock
namespace Go.Proofs.YtlpombjidhloiaaGreat
open Go.RowKit
set_option maxRecDepth 100000
attribute [local go_sem ↓] Go.wp_at_zero Go.wp_at_succ
theorem Pf{lo hi:Int}(h:hi<lo)(a:Nat):ik lo hi a=a:=by
 unfold ik;rw[show(hi-lo+1).toNat=0 by omega];rfl
theorem Pg{lo hi:Int}(h:lo≤hi)(a:Nat):ik lo hi a=ik (lo+1) hi (a ||| (1 <<< (lo% 16).toNat)):=by
 unfold ik;rw[show(hi-lo+1).toNat=(hi-(lo+1)+1).toNat+1 by omega,List.range_succ_eq_map,List.foldl_cons,List.foldl_map];simp only[Nat.succ_eq_add_one,Int.natCast_add,Int.natCast_one,Int.natCast_zero,Int.add_zero];congr 1;funext a i;rw[show lo+((i:Int)+1)=lo+1+(i:Int)by omega]
theorem Bj(n:Int):(1 <<< (n% 16).toNat)<65536:=by
 exact Ph
theorem Gw(n:Int):Go.bits .and .i64 n 15=n% 16:=by
 show IntKind.i64.wrap ((BitVec.ofInt 64 n &&& BitVec.ofInt 64 15).toNat:Int)=_;rw[BitVec.toNat_and,show(BitVec.ofInt 64 15).toNat=2^ 4-1 from rfl,Nat.and_two_pow_sub_one_eq_mod,BitVec.toNat_ofInt];have:(((n% (2^ 64:Nat)).toNat% 2^ 4:Nat):Int)=n% 16:=by omega
 rw[this];simp[IntKind.wrap,IntKind.bits,IntKind.signed];omega
theorem Pi(n:Int):IntKind.u16.wrap (2^ (n% 16).toNat)=((1 <<< (n% 16).toNat:Nat):Int):=by
 exact Ph
def Bn(pt pv:Nat)(T:List Ty)(L:List Lv)(f i:Nat)(y:ao):Prop:=if y.kind=9 then y.kids.length=2∧(df pt pv T L (kid y 0)∧8*bq (kid y 0)+2+i≤f)∧(df pt pv T L (kid y 1)∧8*bq (kid y 1)+2+i≤f)else df pt pv T L y∧8*bq y+2+i≤f
def lB(_T:List Ty)(t:Int)(r:Jr (Nat×Bool)):Jr Jd:=r >>= fun q=>.ok ⟨t,if q.2 then .bits q.1 else .none,0⟩
@[go_sem] theorem ahN(a0 a1 a2 a3 a4 a5 a6 a7 a8 a9 a10 a11:Value)(w:World):(Instr.field 47 (.agg #[a0,a1,a2,a3,a4,a5,a6,a7,a8,a9,a10,a11]) 3).run Tryz.prog w=.ok a3 w:=by kernel_rfl
theorem ZB{x:ao}{k:Nat}(h:k+1<x.kids.length):(x.kids.drop 1).drop k=kid x (k+1)::(x.kids.drop 1).drop (k+1):=by
 rw[List.drop_drop,List.drop_drop,Nat.add_comm 1 k,List.drop_eq_getElem_cons h,show 1+(k+1)=k+1+1 by omega];congr 1;unfold kid;simp[List.getD_eq_getElem?_getD,h]
theorem Gx{o:Option Int}(h:∀n,o=some n→ -1000000≤n∧n≤1000000): -1000000≤o.getD 0∧o.getD 0≤1000000:=by
 cases o with
 |none=>exact⟨by decide,by decide⟩
 |some n=>exact h n rfl
set_option maxHeartbeats 8000000 in
theorem ZC{w:World}{pt pv:Nat}{T:List Ty}{L:List Lv}(h:bO w pt pv T L){b:Nat}{x:ao}(hx:bg w b x)(hk:0<x.kids.length)(fQ:(kid x 0).kind=2→0<(kid x 0).kids.length)(hlen:x.kids.length≤1000000)(f:Nat)(hf:x.kids.length≤f)(El:∀(i:Nat) (y:ao),(x.kids.drop 1)[i]? =some y→Bn pt pv T L f i y):Calls Tryz.prog 67 #[qV pt pv,.pointer (some ⟨b,0,none⟩)] w (jN w (setJ (aj T L) (f+1) x)):=by
 have H:=aa h;have HX:=aa hx;have HK:=aa hk;have HLN:=aa hlen;have HEL:=aa El;have Ka:=aa hf;generalize hrr:setJ (aj T L) (f+1) x=r;have HV:=aa (show r=((if(kid x 0).kind=0 then Except.ok 9 else eX (aj T L) (kid x 0) >>= fun e=>aI (decide (e.kind=2)) (kid x 0) 251 >>= fun _=>aI (decide (aJ T e.type=13)) (kid x 0) 252 >>= fun _=>.ok e.type) >>= fun t=>lB T t (ff (aj T L) f (x.kids.drop 1) (aF T t).base 0 true))from hrr.symm.trans (setJ.eq_2 (aj T L) x f));have yx:=aa fQ;clear hrr h hx hk hlen El hf fQ;dsimp only[qV,qC];go_enter Tryz.func67,Tryz.ntmps67;go_upto_region 1 with(fail);generalize az:w.alloc _=w1;obtain⟨ae,x1,aE⟩:=made az;generalize aU:w1.alloc _=w2;obtain⟨af,x2,bu⟩:=made aU;rw[aE]at x2;have B2:=aa (bb ae af);have X1:=aa (x1.grow af);have X2:=aa x2;have z1:=X1.out.cell;have l1:=X1.out.lt;clear az ae aE x1 aU af bu x2;have vw:=X2.out.lt;have VO:=B2.out.size;go_upto_region 2 with(fail);generalize cU:w2.alloc _=w3;obtain⟨ad,x3,iv⟩:=made cU;have J5:=aa x3;have B3:=ah B2 ad;have X1:=aa (X1.out.grow ad);have X2:=aa (X2.out.grow ad);clear ad;have z1:=X1.out.cell;have l1:=X1.out.lt;clear cU x3 iv;obtain⟨Ax,cx,k0x,k1x,k2x,k3x,k4x,hkidx⟩:=(HX.out.later B3.out).cells;have lbx:=aQ k0x;have KIDx:=aa hkidx;clear hkidx;obtain⟨gy,oy,yy,rfl,hcy,hpy,hty⟩:=KIDx.out 0 HK.out;have lgy:=aQ hpy;have HTy:=aa hty;clear hty;rw[Nat.add_zero]at hpy;have h0:(0:Int)<(x.kids.length:Int):=by have:=HK.out;omega
 obtain⟨Ay,cy',k0y,k1y,k2y,k3y,k4y,_⟩:=HTy.out.cells;have lby:=aQ k0y;go_upto_if 30 with(fail)
 go_cut [] (fun w'=>∃t:Int,Below w.heap.size w w'∧Bx w2.heap.size #[.int .i64 t,.nilIface,.int .u8 0] 29 w'∧Bx w.heap.size #[.pointer (some ⟨pt,0,none⟩),.pointer (some ⟨pv,0,none⟩)] 91 w'∧Bx (w.heap.size+1) #[.int .i64 0,.nilIface,.int .u8 0] 29 w'∧r=lB T t (ff (aj T L) f (x.kids.drop 1) (aF T t).base 0 true));case first=>
  by_cases kX:(kid x 0).kind=0
  ·have aq:=aa (show r=lB T 9 (ff (aj T L) f (x.kids.drop 1) (aF T 9).base 0 true)by rw[HV.out,if_pos kX];rfl);rw[kX];go_wp2_with fail;go_meet;exact⟨9,B3.out,J5.out,X1.out,X2.out,aq.out⟩
  ·have d0:=beq_eq_false_iff_ne.2 kX;have HM:=aa (AM (H.out.later B3.out) HTy.out yx.out);have aq:=aa (show r=((eX (aj T L) (kid x 0) >>= fun e=>aI (decide (e.kind=2)) (kid x 0) 251 >>= fun _=>aI (decide (aJ T e.type=13)) (kid x 0) 252 >>= fun _=>.ok e.type) >>= fun t=>lB T t (ff (aj T L) f (x.kids.drop 1) (aF T t).base 0 true))by rw[HV.out,if_neg kX]);generalize eX (aj T L) (kid x 0)=rn at aq HM;clear HV kX;dsimp only[qV,qC]at HM;cases rn with
   |error q=>
    obtain⟨p,c⟩:=q;have ar:=aa (show r=.error (p,c)from aq.out);go_wp2_with fail;refine HM.out.mono ?_;rintro e w4 ⟨aw,rfl⟩;exact bj ar.out (bb B3.out aw) rfl
   |ok en=>
    have ar:=aa (show r=((aI (decide (en.kind=2)) (kid x 0) 251 >>= fun _=>aI (decide (aJ T en.type=13)) (kid x 0) 252 >>= fun _=>.ok en.type) >>= fun t=>lB T t (ff (aj T L) f (x.kids.drop 1) (aF T t).base 0 true))from aq.out);clear aq;go_wp2_with fail;refine HM.out.mono ?_;rintro e w4 ⟨aw,rfl,hvw⟩;have C4:=aa aw;have B4:=ah B3 aw;have X1:=aa (X1.out.grow aw);have X2:=aa (X2.out.grow aw);have J5:=aa (J5.out.grow aw);clear aw;dsimp only[eG];go_upto_region 5 with(fail);generalize dA:w4.alloc _=w5;obtain⟨au,x5,iw⟩:=made dA;have E5:=aa x5;have C5:=ah C4 au;have B5:=ah B4 au;have X1:=aa (X1.out.grow au);have X2:=aa (X2.out.grow au);have J5:=aa (J5.out.grow au);clear au;have Kb:=aa (HTy.out.later C5.out);have z5:=E5.out.cell;have l5:=E5.out.lt;clear dA x5 iw hvw HM;by_cases h2:en.kind=2;case neg=>
     have aA:=aa (show r=.error ((kid x 0).pos,251)by have:=ar.out;rw[decide_eq_false h2]at this;exact this);have d2:=beq_eq_false_iff_ne.2 h2;go_wp2_with fail;refine(eg Kb.out 251).mono ?_;rintro e wq ⟨rfl,rfl⟩;exact bj aA.out B5.out rfl
    have aA:=aa (show r=((aI (decide (aJ T en.type=13)) (kid x 0) 252 >>= fun _=>.ok en.type) >>= fun t=>lB T t (ff (aj T L) f (x.kids.drop 1) (aF T t).base 0 true))by have:=ar.out;rw[decide_eq_true h2]at this;exact this);rw[h2]at z5;clear ar h2;go_wp2_with fail;refine(da Kb.out 251).mono ?_;rintro e wq ⟨rfl,rfl⟩;have z5:=E5.out.cell;have l5:=E5.out.lt;have z1:=X1.out.cell;have l1:=X1.out.lt;have HKD:=aa (fun w (h:bO w pt pv T L)=>nN h en.type);generalize hkk:aJ T en.type=kk at *;clear hkk;go_wp2_with fail;refine(HKD.out _ (H.out.later B5.out)).mono ?_;rintro e w6 ⟨rfl,aD⟩;have VP:=aa (Kb.out.later aD);have B6:=ah B5 aD;have X1:=aa (X1.out.grow aD);have X2:=aa (X2.out.grow aD);have J5:=aa (J5.out.grow aD);have E5:=aa (E5.out.grow aD);clear aD;by_cases h13:kk=13;case neg=>
     have aM:=aa (show r=.error ((kid x 0).pos,252)by have:=aA.out;rw[decide_eq_false h13]at this;exact this);have d13:=beq_eq_false_iff_ne.2 h13;go_wp2_with fail;refine(eg VP.out 252).mono ?_;exact AU
    have aM:=aa (show r=lB T en.type (ff (aj T L) f (x.kids.drop 1) (aF T en.type).base 0 true)by have:=aA.out;rw[decide_eq_true h13]at this;exact this);subst h13;clear aA;go_wp2_with fail;refine(da VP.out 252).mono ?_;rintro e wq ⟨rfl,rfl⟩;have z5:=E5.out.cell;have l5:=E5.out.lt;have z5:=J5.out.cell;have f5:=J5.out.frozen;have l5:=J5.out.lt;go_wp2_with fail;go_meet;exact⟨en.type,B6.out.setCell VO _,J5.out.set 0 _,X1.out.far (Nat.ne_of_lt (Nat.lt_of_succ_lt vw)) _,X2.out.far (Nat.ne_of_lt vw) _,aM.out⟩
 case rest=>
 obtain⟨t,aw,j5,x1,x2,hv⟩:=hcut;have B4:=aa aw;have J5:=aa j5;have X1:=aa x1;have X2:=aa x2;have aq:=aa hv;clear aw j5 x1 x2 hv HV;have HG:=aa (fun w (h:cF w pt T)=>nO h t);generalize aF T t=tt at *;have z1:=X1.out.cell;have l1:=X1.out.lt;have z5:=J5.out.cell;have l5:=J5.out.lt;go_wp2_with fail;refine(HG.out _ (H.out.later B4.out).tab).mono ?_;rintro e w5 ⟨s,rfl,hown,au⟩;have B5:=ah B4 au;have J5:=aa (J5.out.grow au);have X1:=aa (X1.out.grow au);have X2:=aa (X2.out.grow au);clear au;clear hown HG;dsimp only[bX];obtain⟨Au,cu,k0u,k1u,k2u,k3u,k4u,hkidu⟩:=(HX.out.later B5.out).cells;have lbu:=aQ k0u;have KIDu:=aa hkidu;clear hkidu;obtain⟨gu,ou,yu,rfl,hcu,hpu,_⟩:=KIDu.out 0 HK.out;have Kc:(1:Int)≤(x.kids.length:Int):=by have:=HK.out;omega
 have gW:(x.kids.length:Int)≤cu:=by omega
 go_upto_region 9 with(fail);go_cut [59,60,61] (fun u59 u60 u61 w'=>∃o' c':Nat,u59=.slice (some ⟨gu,o',none⟩) (x.kids.length-1) c'∧x.kids.length-1≤c'∧(cu≠1→o'=ou+1)∧u60=.int .i64 ((x.kids.length-1:Nat):Int)∧u61=.int .i64 0∧w'=w5);case first=>
  by_cases Kd:cu=1
  ·subst Kd;go_wp2_with fail;go_meet;exact⟨ou,0,by rw[show x.kids.length-1=0 by omega],by omega,fun h=>absurd rfl h,by rw[show x.kids.length-1=0 by omega];rfl,rfl,rfl⟩
  ·go_wp2_with fail;go_meet;exact⟨ou+1,cu-1,rfl,by omega,fun _=>rfl,rfl,rfl,rfl⟩
 case rest=>
 obtain⟨o',c',rfl,hc',ho',rfl,rfl,rfl⟩:=hcut;have HO:=aa ho';have HCU:=aa hcu;have HC':=aa hc';clear ho' hc' Kc gW;generalize hm:x.kids.length-1=m at *;have HM:=aa (show x.kids.length=m+1 by have:=HK.out;omega);clear hm;go_upto_region 10 with(fail)
 go_loopg [9,10,12,13,14,15,16,17,18,61] m (fun gg s9 s10 _ _ _ _ _ _ _ s61 wr=>∃(kk a:Nat) (k:Bool),kk≤m∧gg=m-kk∧s61=.int .i64 kk∧s9=.int .u16 a∧a<65536∧s10=.bool k∧Below wc.heap.size wc wr∧r=lB T t (ff (aj T L) (f-kk) ((x.kids.drop 1).drop kk) tt.base a k))
 case atStart=>exact⟨0,0,true,Nat.zero_le _,by omega,rfl,rfl,by decide,rfl,Below.refl _ _,aq.out⟩
 case round=>
  obtain⟨kk,a,k,hkk,hgk,rfl,rfl,ha,rfl,hbr,hvr⟩:=hrel;have HVr:=aa hvr;have Cr:=aa hbr;have HA:=aa ha;have Br:=ah B5 hbr;have X1:=aa (X1.out.grow hbr);have X2:=aa (X2.out.grow hbr);have J5:=aa (J5.out.grow hbr);clear hbr;clear hvr ha;by_cases hlt:kk<m
  ·have hltz:(kk:Int)<(m:Int):=by omega
   obtain⟨gy2,oy2,yb,hA,agH,hyp,hyt⟩:=KIDu.out (kk+1) (by have:=HM.out;omega);cases hA;have hoo:o'=ou+1:=HO.out (by have:=HCU.out;have:=HM.out;omega);subst hoo;rw[show ou+(kk+1)=ou+1+kk by omega]at hyp;have hyr:=bo hyp Cr.out;have lyr:=aQ hyr;generalize hy:kid x (kk+1)=y at *;have HD:=aa (show(x.kids.drop 1).drop kk=y::(x.kids.drop 1).drop (kk+1)from(ZB (by have:=HM.out;omega)).trans (by rw[hy]));have HMO:=aa (HEL.out kk y (by
    have h1:kk<(x.kids.drop 1).length:=by rw[List.length_drop];have:=HM.out;omega
    have h2:=HD.out;rw[List.drop_eq_getElem_cons h1]at h2;rw[List.getElem?_eq_getElem h1,(List.cons.inj h2).1]))
   have HY:=aa (hyt.later Cr.out);have HW:=aa (show wrap64 ((kk:Int)+1)=((kk+1:Nat):Int)by rw[Go.IntWalk.wrap64_in _ (by have:=HLN.out;have:=HM.out;omega)];omega);clear hy hyp hyt hlt agH;have lg:=lyr;obtain⟨Ay1,cy1,k0y1,k1y1,k2y1,k3y1,k4y1,VQ⟩:=HY.out.cells;have agI:=aQ k0y1;have KIDy:=aa VQ;clear VQ;by_cases yA:y.kind=9;case neg=>
    have HE:=aa (show df pt pv T L y∧8*bq y+2+kk≤f by have:=HMO.out;unfold Bn at this;rw[if_neg yA]at this;exact this);have aA:=aa (show r=lB T t (elemJ (aj T L) (f-kk-1) y tt.base >>= fun lo=>(ff (aj T L) (f-(kk+1)) (x.kids.drop 1 |>.drop (kk+1)) tt.base (ik (lo.getD 0) (lo.getD 0) a) (k&&lo.isSome)))by
     rw[HVr.out,HD.out,show f-kk=(f-kk-1)+1 by have:=HE.out.2;omega,ff,if_neg yA,show f-kk-1+1-1=f-kk-1 by omega];rfl)
    clear HVr;go_upto_region 13 with(fail);generalize hwb:wr.alloc _=wb;obtain⟨hbb,xb,hsb⟩:=made hwb;have R13:=aa xb;have HYb:=aa (HY.out.later hbb);have DBb:=aa hbb;have Bb:=ah Br hbb;have X1:=aa (X1.out.grow hbb);have X2:=aa (X2.out.grow hbb);have J5:=aa (J5.out.grow hbb);clear hbb;have z1:=X1.out.cell;have l1:=X1.out.lt;have z13:=R13.out.cell;have l13:=R13.out.lt;clear hwb xb hsb;obtain⟨Ay2,cy2,k0y2,_⟩:=HYb.out.cells;have hEa:=fun w' (hb:Below wb.heap.size wb w')=>Gn ((H.out.later Bb.out).later hb) HE.out.1 (f-kk-2) (by have:=HE.out.2;omega) (HYb.out.later hb) tt.base
    rw[show f-kk-2+1=f-kk-1 by have:=HE.out.2;omega]at hEa;dsimp only[qV,qC]at hEa;generalize hrea:elemJ (aj T L) (f-kk-1) y tt.base=rea at *;clear hrea;have HEa:=aa hEa;clear hEa;cases rea with
    |error q=>
     exact Pj
    |ok loa=>
    have HVa:=aa (show r=lB T t (ff (aj T L) (f-(kk+1)) (x.kids.drop 1 |>.drop (kk+1)) tt.base (ik (loa.getD 0) (loa.getD 0) a) (k&&loa.isSome))from aA.out);go_upto_region 15 with(fail);refine bh [9] [] (by kernel_rfl) ?_;refine FQ (Below.refl _ _) [0,1,2,3,4] ?_;refine FC 5 aG (Below.refl _ _) (fun w4 ab=>(HEa.out _ ab).mono ?_);rintro e wa ⟨hba,rfl,hloa⟩;refine⟨hba,?_⟩;have Ca:=aa (bb ab hba);have LOa:=aa (Gx hloa);clear hba ab HEa hloa;refine FS aG Ca.out [6] ?_;refine FQ Ca.out [7,8] ?_;refine cV 9 (by kernel_rfl) (by kernel_rfl) Ca.out (fun wqa hwq=>?_);refine FA ?_;have hba:=bb Ca.out hwq;clear hwq;have DBa:=ah DBb hba;have Ba:=ah Bb hba;have X1:=aa (X1.out.grow hba);have X2:=aa (X2.out.grow hba);have J5:=aa (J5.out.grow hba);clear hba;have LO:=LOa;generalize rC:loa.getD 0=n1 at *;generalize pX:loa.isSome=q1 at *;clear rC pX;go_upto_region 19 with(fail);go_cut [10] (fun u w'=>u=.bool (k&&q1)∧w'=wqa);case first=>
     cases k<;>cases q1
     all_goals
      go_wp2_with fail;go_meet;exact⟨rfl,rfl⟩
    case rest=>
    obtain⟨rfl,rfl⟩:=hcut;go_upto_region 21 with(fail);obtain⟨gO,rfl⟩:∃gO,gO=gk:=⟨_,rfl⟩
    go_loopg [9,18] ((n1-n1+1).toNat) (fun gg s9 s18 wi=>∃(a':Nat) (n:Int),s9=.int .u16 a'∧a'<65536∧s18=.int .i64 n∧ -1000000≤n∧n≤1000001∧gg=(n1-n+1).toNat∧ik n n1 a'=ik n1 n1 a∧wi=wc)
    case atStart=>exact⟨a,n1,rfl,HA.out,rfl,LO.out.1,Int.le_trans LO.out.2 (by decide),rfl,rfl,rfl⟩
    case round=>
     obtain⟨a',n,rfl,ha',rfl,pY,rC,hgn,hrb,rfl⟩:=hrel;have HRB:=aa hrb;have cO:=aa ha';clear hrb ha';by_cases hle:n≤n1
     ·have hand:=Gw n;have hsh:=Pi n;have hor:=Gy a' (1 <<< (n% 16).toNat) cO.out (Bj n);have HST:=aa (Pg hle a');have tf:(a' ||| (1 <<< (n% 16).toNat))<65536:=Nat.or_lt_two_pow (n:=16) cO.out (Bj n);generalize 1 <<< (n% 16).toNat=sb at *;generalize a' ||| sb=a3 at *;have yB:=aa tf;clear tf;go_wp2_with fail
      go_roundg (gk-1)
      case measure=>omega
      exact⟨a3,n+1,rfl,yB.out,rfl,by omega,by have:=LO.out;omega,by omega,HST.out.symm.trans HRB.out,rfl⟩
     ·have Ke:=aa (show a'=ik n1 n1 a from(Pf (by omega) a').symm.trans HRB.out);go_wp2_with fail
      go_roundg (gO-1)
      case measure=>omega
      exact⟨kk+1,a',(k&&q1),by omega,by omega,by rw[HW.out],rfl,cO.out,rfl,bb Cr.out DBa.out,by rw[Ke.out];exact HVa.out⟩
   case pos=>
    have Kf:=aa (show y.kids.length=2∧(df pt pv T L (kid y 0)∧8*bq (kid y 0)+2+kk≤f)∧(df pt pv T L (kid y 1)∧8*bq (kid y 1)+2+kk≤f)by have:=HMO.out;unfold Bn at this;rw[if_pos yA]at this;exact this);have HE:=aa Kf.out.2.1;have jC:=aa Kf.out.2.2;have aA:=aa (show r=lB T t (elemJ (aj T L) (f-kk-1) (kid y 0) tt.base >>= fun lo=>elemJ (aj T L) (f-kk-1) (kid y 1) tt.base >>= fun hi=>(ff (aj T L) (f-(kk+1)) (x.kids.drop 1 |>.drop (kk+1)) tt.base (ik (lo.getD 0) (hi.getD 0) a) (k&&lo.isSome&&hi.isSome)))by
     rw[HVr.out,HD.out,show f-kk=(f-kk-1)+1 by have:=HE.out.2;omega,ff,if_pos yA,show f-kk-1+1-1=f-kk-1 by omega];rfl)
    clear HVr;go_upto_region 13 with(fail);generalize hwb:wr.alloc _=wb;obtain⟨hbb,xb,hsb⟩:=made hwb;have HYb:=aa (HY.out.later hbb);have DBb:=aa hbb;have Bb:=ah Br hbb;have X1:=aa (X1.out.grow hbb);have X2:=aa (X2.out.grow hbb);have J5:=aa (J5.out.grow hbb);clear hbb;have z1:=X1.out.cell;have l1:=X1.out.lt;clear hwb xb hsb k0y1 k1y1 k2y1 k3y1 k4y1 agI KIDy;obtain⟨Ay2,cy2,k0y2,_,_,_,k4y2,fQ⟩:=HYb.out.cells;have ajT:=aQ k0y2;have je:=Kf.out.1;obtain⟨gz,oz,z0,rfl,hcz,yw,jD⟩:=fQ 0 (by omega);obtain⟨gz',oz',z1,JO,_,ga,tc⟩:=fQ 1 (by omega);cases JO;rw[yA]at k0y2;rw[je]at k4y2 hcz;rw[Nat.add_zero]at yw;have th:=aa jD;have Kg:=aa tc;have HZ1:=aa ga;have lz0:=aQ yw;clear jD tc ga fQ je;have hEa:=fun w' (hb:Below wb.heap.size wb w')=>Gn ((H.out.later Bb.out).later hb) HE.out.1 (f-kk-2) (by have:=HE.out.2;omega) (th.out.later hb) tt.base
    rw[show f-kk-2+1=f-kk-1 by have:=HE.out.2;omega]at hEa;dsimp only[qV,qC]at hEa;generalize hrea:elemJ (aj T L) (f-kk-1) (kid y 0) tt.base=rea at *;clear hrea;have HEa:=aa hEa;clear hEa;cases rea with
    |error q=>
     exact Pj
    |ok loa=>
    have HVa:=aa (show r=lB T t (elemJ (aj T L) (f-kk-1) (kid y 1) tt.base >>= fun hi=>(ff (aj T L) (f-(kk+1)) (x.kids.drop 1 |>.drop (kk+1)) tt.base (ik (loa.getD 0) (hi.getD 0) a) (k&&loa.isSome&&hi.isSome)))from aA.out);go_upto_region 15 with(fail);refine bh [9] [] (by kernel_rfl) ?_;refine FQ (Below.refl _ _) [0,1,2,3,4] ?_;refine FC 5 aG (Below.refl _ _) (fun w4 ab=>(HEa.out _ ab).mono ?_);rintro e wa ⟨hba,rfl,hloa⟩;refine⟨hba,?_⟩;have Ca:=aa (bb ab hba);have LOa:=aa (Gx hloa);clear hba ab HEa hloa;refine FS aG Ca.out [6] ?_;refine FQ Ca.out [7,8] ?_;refine cV 9 (by kernel_rfl) (by kernel_rfl) Ca.out (fun wqa hwq=>?_);refine FA ?_;have hba:=bb Ca.out hwq;clear hwq;have HT1a:=aa (Kg.out.later hba);have ga:=bo HZ1.out hba;have lz1:=aQ ga;have DBa:=ah DBb hba;have Ba:=ah Bb hba;have X1:=aa (X1.out.grow hba);have X2:=aa (X2.out.grow hba);have J5:=aa (J5.out.grow hba);clear hba;have z1:=X1.out.cell;have l1:=X1.out.lt;have hEd:=fun w' (hb:Below wqa.heap.size wqa w')=>Gn ((H.out.later Ba.out).later hb) jC.out.1 (f-kk-2) (by have:=jC.out.2;omega) (HT1a.out.later hb) tt.base
    rw[show f-kk-2+1=f-kk-1 by have:=jC.out.2;omega]at hEd;dsimp only[qV,qC]at hEd;generalize hred:elemJ (aj T L) (f-kk-1) (kid y 1) tt.base=red at *;clear hred;have HEd:=aa hEd;clear hEd;cases red with
    |error q=>
     obtain⟨p9,c9⟩:=q;have aM:=aa (show r=.error (p9,c9)from by rw[HVa.out];rfl);go_upto_region 18 with(fail);refine bh [] [] (by kernel_rfl) ?_;refine FQ (Below.refl _ _) [0,1,2,3,4] ?_;refine FC 5 aG (Below.refl _ _) (fun w4 ab=>(HEd.out _ ab).mono ?_);rintro e wa ⟨hba,rfl⟩;exact bj (fn:=Tryz.f67) aM.out (bb (bb Ba.out ab) hba) rfl
    |ok lod=>
    have HVd:=aa (show r=lB T t (ff (aj T L) (f-(kk+1)) (x.kids.drop 1 |>.drop (kk+1)) tt.base (ik (loa.getD 0) (lod.getD 0) a) (k&&loa.isSome&&lod.isSome))from HVa.out);go_upto_region 18 with(fail);refine bh [9] [] (by kernel_rfl) ?_;refine FQ (Below.refl _ _) [0,1,2,3,4] ?_;refine FC 5 aG (Below.refl _ _) (fun w4 ab=>(HEd.out _ ab).mono ?_);rintro e wd ⟨hba,rfl,hlod⟩;refine⟨hba,?_⟩;have Cd:=aa (bb ab hba);have LOd:=aa (Gx hlod);clear hba ab HEd hlod;refine FS aG Cd.out [6] ?_;refine FQ Cd.out [7,8] ?_;refine cV 9 (by kernel_rfl) (by kernel_rfl) Cd.out (fun wqd hwq=>?_);refine FA ?_;have hbd:=bb Cd.out hwq;clear hwq;have DBd:=ah DBa hbd;have Bd:=ah Ba hbd;have X1:=aa (X1.out.grow hbd);have X2:=aa (X2.out.grow hbd);have J5:=aa (J5.out.grow hbd);clear hbd;have LO:=LOa;have LO2:=LOd;generalize rC:loa.getD 0=n1 at *;generalize pX:loa.isSome=q1 at *;generalize yC:lod.getD 0=n2 at *;generalize jd:lod.isSome=q2 at *;clear rC pX yC jd;go_upto_region 19 with(fail);go_cut [10] (fun u w'=>u=.bool (k&&q1&&q2)∧w'=wqd);case first=>
     cases k<;>cases q1<;>cases q2
     all_goals
      go_wp2_with fail;go_meet;exact⟨rfl,rfl⟩
    case rest=>
    obtain⟨rfl,rfl⟩:=hcut;go_upto_region 21 with(fail);obtain⟨gO,rfl⟩:∃gO,gO=gk:=⟨_,rfl⟩
    go_loopg [9,18] ((n2-n1+1).toNat) (fun gg s9 s18 wi=>∃(a':Nat) (n:Int),s9=.int .u16 a'∧a'<65536∧s18=.int .i64 n∧ -1000000≤n∧n≤1000001∧gg=(n2-n+1).toNat∧ik n n2 a'=ik n1 n2 a∧wi=wc)
    case atStart=>exact⟨a,n1,rfl,HA.out,rfl,LO.out.1,Int.le_trans LO.out.2 (by decide),rfl,rfl,rfl⟩
    case round=>
     obtain⟨a',n,rfl,ha',rfl,pY,rC,hgn,hrb,rfl⟩:=hrel;have HRB:=aa hrb;have cO:=aa ha';clear hrb ha';by_cases hle:n≤n2
     ·have hand:=Gw n;have hsh:=Pi n;have hor:=Gy a' (1 <<< (n% 16).toNat) cO.out (Bj n);have HST:=aa (Pg hle a');have tf:(a' ||| (1 <<< (n% 16).toNat))<65536:=Nat.or_lt_two_pow (n:=16) cO.out (Bj n);generalize 1 <<< (n% 16).toNat=sb at *;generalize a' ||| sb=a3 at *;have yB:=aa tf;clear tf;go_wp2_with fail
      go_roundg (gk-1)
      case measure=>omega
      exact⟨a3,n+1,rfl,yB.out,rfl,by omega,by have:=LO2.out;omega,by omega,HST.out.symm.trans HRB.out,rfl⟩
     ·have Ke:=aa (show a'=ik n1 n2 a from(Pf (by omega) a').symm.trans HRB.out);go_wp2_with fail
      go_roundg (gO-1)
      case measure=>omega
      exact⟨kk+1,a',(k&&q1&&q2),by omega,by omega,by rw[HW.out],rfl,cO.out,rfl,bb Cr.out DBd.out,by rw[Ke.out];exact HVd.out⟩
  ·obtain rfl:kk=m:=by omega
   have dv:=aa (show r=.ok ⟨t,if k then .bits a else .none,0⟩by
    rw[HVr.out,List.drop_eq_nil_of_le (by rw[List.length_drop];have:=HM.out;omega),show f-kk=(f-kk-1)+1 by have:=Ka.out;have:=HM.out;omega,ff];rfl)
   have z5:=J5.out.cell;have f5:=J5.out.frozen;have l5:=J5.out.lt;have z2:=X2.out.cell;have f2:=X2.out.frozen;have l2:=X2.out.lt;have NXr:=X2.out.lt;cases k
   ·go_wp2_with fail;exact ef rfl ⟨t,.none,0⟩ X2.out Br.out (by omega) rfl rfl dv.out trivial
   ·go_wp2_with fail;exact ef rfl ⟨t,.bits a,0⟩ (X2.out.far (Nat.ne_of_lt vw) _) (Br.out.setCell VO _) (by omega) rfl rfl dv.out HA.out
def GK(op:List UInt8)(u:Value)(q:Bool):Prop:=(q=false∧∀a b,gE op a b=none)∨(q=true∧∀a b,∃r,gE op a b=some r∧Bw u #[.int .i64 a,.int .i64 b] (.bool r))
theorem me(op:List UInt8){w:World}{r:Nat}(h:KM eV w r sx):∃u q,(Instr.lookup 226 (.map (some r)) (.string ⟨op.toArray⟩) true).run Tryz.prog w=.ok (.tuple #[u,.bool q]) w∧GK op u q:=by
 cases hf:bm sx op with
 |none=>
  refine⟨.nilFunc,false,(lY (z:=.nilFunc) Tryz.underlying226 (lD Tryz.underlying9) (fun w=>by kernel_rfl) h op hf).1,.inl ⟨rfl,fun a b=>?_⟩⟩;rcases Pu op a b with⟨_,h2⟩|⟨v,r,h2,_⟩
  ·exact h2
  ·rw[hf]at h2;cases h2
 |some v=>
  refine⟨v,true,(ej Tryz.underlying226 (lD Tryz.underlying9) h op hf).1,.inr ⟨rfl,fun a b=>?_⟩⟩;rcases Pu op a b with⟨h2,_⟩|⟨v',r,h2,h3,h4⟩
  ·rw[hf]at h2;cases h2
  ·exact GL
def GM(op:List UInt8)(u:Value)(q:Bool):Prop:=(q=false∧∀a b,a<65536→b<65536→eY op a b=none)∨(q=true∧∀a b,a<65536→b<65536→∃r,eY op a b=some r∧Bw u #[.int .u16 (a:Nat),.int .u16 (b:Nat)] (aK r))
theorem mf(op:List UInt8){w:World}{r:Nat}(h:KM eV w r sy):∃u q,(Instr.lookup 234 (.map (some r)) (.string ⟨op.toArray⟩) true).run Tryz.prog w=.ok (.tuple #[u,.bool q]) w∧GM op u q:=by
 cases hf:bm sy op with
 |none=>
  refine⟨.nilFunc,false,(lY (z:=.nilFunc) Tryz.underlying234 (lD Tryz.underlying9) (fun w=>by kernel_rfl) h op hf).1,.inl ⟨rfl,fun a b ha hb=>?_⟩⟩;rcases Pw op a b ha hb with⟨_,h2⟩|⟨v,r,h2,_⟩
  ·exact h2
  ·rw[hf]at h2;cases h2
 |some v=>
  refine⟨v,true,(ej Tryz.underlying234 (lD Tryz.underlying9) h op hf).1,.inr ⟨rfl,fun a b ha hb=>?_⟩⟩;rcases Pw op a b ha hb with⟨h2,_⟩|⟨v',r,h2,h3,h4⟩
  ·rw[hf]at h2;cases h2
  ·exact GL
def GN(w0:World)(op:List UInt8)(u:Value)(q:Bool):Prop:=(q=false∧∀a b,kL a→kL b→fB op a b=none)∨(q=true∧∀a b,kL a→kL b→∃r,fB op a b=some r∧Pz w0 u #[.int .i64 a,.int .i64 b] (.tuple #[aK r.1,.int .i64 r.2]))
theorem mg(op:List UInt8){w:World}{r p q:Nat}(h:KM eV w r (uG p q))(cp:w.cell? ⟨p,0,none⟩=some (cm 170))(cq:w.cell? ⟨q,0,none⟩=some (cm 171)):
 ∃u q,(Instr.lookup 230 (.map (some r)) (.string ⟨op.toArray⟩) true).run Tryz.prog w=.ok (.tuple #[u,.bool q]) w∧GN w op u q:=by
 cases hf:bm (uG p q) op with
 |none=>
  refine⟨.nilFunc,false,(lY (z:=.nilFunc) Tryz.underlying230 (lD Tryz.underlying9) (fun w=>by kernel_rfl) h op hf).1,.inl ⟨rfl,fun a b ha hb=>?_⟩⟩;rcases PC op a b ha hb w p q cp cq with⟨_,h2⟩|⟨v,r,h2,_⟩
  ·exact h2
  ·rw[hf]at h2;cases h2
 |some v=>
  refine⟨v,true,(ej Tryz.underlying230 (lD Tryz.underlying9) h op hf).1,.inr ⟨rfl,fun a b ha hb=>?_⟩⟩;rcases PC op a b ha hb w p q cp cq with⟨h2,_⟩|⟨v',r,h2,h3,h4⟩
  ·rw[hf]at h2;cases h2
  ·exact GL
def kM(w:World)(r:aL×Int):Ending→World→Prop:=Pv w (.tuple #[aK r.1,.int .i64 r.2])
@[go_sem] theorem ai4(a b:List UInt8):((⟨a.toArray⟩:ByteArray)==⟨b.toArray⟩)=decide (a=b):=qM a b
def fP(na:Option Int)(b:aL):aL×Int:=match na,b with
 |some n,.bits s=>(.truth (decide (0≤n)&&decide (n<16)&&s.testBit n.toNat),0)
 |_,_=>(.none,100)
def de(op:Op)(na:Option Int)(a' b':aL):aL×Int:=
    match a',eY op 0 0 with
    |.bits x,some _=>(match b' with
     |.bits y=>((eY op x y).getD .none,0)
     |_=>(.none,100))
    |_,_=>
     if !dz a' b' then(.none,100)
     else if a'=.null∧(op=dT∨op=eI)then(.truth (decide (op=dT)),0)
     else match na,aR b' with
      |some n,some m=>
       (match a',fB op n m with
       |.whole _,some r=>r
       |_,_=>
        match a' with
        |.truth _=>if op=bQ∨op=bR then(.truth ((decide (op=bQ)&&decide (n+m=2))||(decide (op=bR)&&decide (0<n+m))),0)
         else match gE op n m with
          |some r=>(.truth r,0)
          |Option.none=>(.none,100)
        |_=>match gE op n m with
         |some r=>(.truth r,0)
         |Option.none=>(.none,100))
      |_,_=>(.none,100)
def fg(op:Op)(a b:aL):aL×Int:=
 if !dm a|| !dm b then(.none,100)else if op=bB then fP (aR a) b else de op (aR a) (aT a) (aT b)
theorem mh{op:Op}{q1 q2 q3 q4:Bool}(h1:(gE op 0 0).isNone= !q1)(h2:(fB op 0 1).isNone= !q2)(h3:(eY op 0 0).isNone= !q3)(h4:q4=decide (op=bQ∨op=bR))(a b:aL):bC op a b=if(!q1&& !q2&& !q3&& !q4&& !decide (op=bB))=true then(.none,103)else fg op a b:=by
 rw[←h1,←h2,←h3,h4];rfl
theorem mi(v:aL):aR (aT v)=aR v:=by
 cases v with
 |str s=>
  match s with
  |[]=>rfl
  |[c]=>rfl
  |_::_::_=>rfl
 |_=>rfl
theorem fC{v:aL}(h:Vw v):Vw (aT v):=by
 cases v with
 |str s=>
  match s with
  |[]=>trivial
  |[c]=>exact c.toNat_lt
  |_::_::_=>trivial
 |_=>exact h
theorem ZQ{s:Nat}(h:s<65536)(k:Nat):(Go.bits .and .u16 ((s:Int)/2^ k) 1==1)=s.testBit k:=by
 have e:((s:Int)/2^ k)=((s/2^ k:Nat):Int):=by simp
 have h2:s/2^ k<65536:=Nat.lt_of_le_of_lt (Nat.div_le_self _ _) h;rw[e,show(1:Int)=((1:Nat):Int)from rfl,Pt _ _ h2 (by omega),Nat.and_one_is_mod,Nat.testBit_eq_decide_div_mod_eq];rw[Bool.eq_iff_iff];simp;omega
theorem GK.none{op:List UInt8}{u:Value}{q:Bool}(h:GK op u q):(gE op 0 0).isNone= !q:=by
 rcases h with⟨rfl,h⟩|⟨rfl,h⟩
 ·rw[h];rfl
 ·obtain⟨r,h,_⟩:=h 0 0;rw[h];rfl
theorem GM.none{op:List UInt8}{u:Value}{q:Bool}(h:GM op u q):(eY op 0 0).isNone= !q:=by
 rcases h with⟨rfl,h⟩|⟨rfl,h⟩
 ·rw[h 0 0 (by omega) (by omega)];rfl
 ·obtain⟨r,h,_⟩:=h 0 0 (by omega) (by omega);rw[h];rfl
theorem GN.none{w:World}{op:List UInt8}{u:Value}{q:Bool}(h:GN w op u q):(fB op 0 1).isNone= !q:=by
 have s0:kL 0:=⟨by decide,by decide⟩;have s1:kL 1:=⟨by decide,by decide⟩;rcases h with⟨rfl,h⟩|⟨rfl,h⟩
 ·rw[h 0 1 s0 s1];rfl
 ·obtain⟨r,h,_⟩:=h 0 1 s0 s1;rw[h];rfl
def eJ(op:Op)(n m:Int):aL×Int:=match gE op n m with
 |some r=>(.truth r,0)
 |none=>(.none,100)
theorem qP{op:Op}{na:Option Int}{A B:aL}(h:dz A B=false)(h2:(lC A).2=true→eY op 0 0=none):de op na A B=(.none,100):=by
 cases A with
 |bits x=>have:=h2 rfl;unfold de;rw[this];simp only[h];rfl
 |_=>unfold de;simp only[h];rfl
theorem ZR{op:Op}{na:Option Int}{x y:Nat}{s:aL}(h:eY op 0 0=some s):de op na (.bits x) (.bits y)=((eY op x y).getD .none,0):=by
 unfold de;rw[h]
theorem ZS{op:Op}{na:Option Int}{x:Nat}{B s:aL}(h:eY op 0 0=some s)(hB:(lC B).2=false):de op na (.bits x) B=(.none,100):=by
 unfold de;rw[h];cases B with
 |bits y=>exact nomatch hB
 |_=>rfl
theorem ZT{op:Op}{n k m l:Int}(hm:aR (.whole l)=some m):de op (some n) (.whole k) (.whole l)=match fB op n m with|some r=>r|none=>eJ op n m:=by
 unfold de eJ;simp only[hm,dz];cases fB op n m<;>simp
theorem ZU(op:Op)(c d:Nat):de op (aR (.letter c)) (.letter c) (.letter d)=eJ op c d:=by
 unfold de eJ;simp[dz,aR]
theorem ZV(op:Op)(u n m:Int):de op (aR (.item u n)) (.item u n) (.item u m)=eJ op n m:=by
 unfold de eJ;simp[dz,aR]
theorem ZW(op:Op):de op (aR .null) .null .null=if op=dT∨op=eI then(.truth (decide (op=dT)),0)else(.none,100):=by
 unfold de;simp[dz,aR]
theorem BE(op:Op)(p q:Bool):de op (aR (.truth p)) (.truth p) (.truth q)=if op=bQ∨op=bR then(.truth ((decide (op=bQ)&&decide ((if p then 1 else 0)+(if q then 1 else 0)=(2:Int)))||(decide (op=bR)&&decide ((0:Int)<(if p then 1 else 0)+(if q then 1 else 0)))),0)else eJ op (if p then 1 else 0) (if q then 1 else 0):=by
 unfold de eJ;simp[dz,aR]
end Go.Proofs.YtlpombjidhloiaaGreat
