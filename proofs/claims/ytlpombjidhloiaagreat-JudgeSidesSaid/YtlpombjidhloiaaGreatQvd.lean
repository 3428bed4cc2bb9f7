/- JudgeSides, walked. Condition: what each theorem says. -/
import Derived.Test.YtlpombjidhloiaaGreatQvb
import Derived.Test.YtlpombjidhloiaaGreatQwa
namespace Go.Proofs.YtlpombjidhloiaaGreat
open Go.RowKit
set_option maxRecDepth 100000
attribute [local go_sem ↓] Go.wp_at_zero Go.wp_at_succ
@[go_sem high] theorem ajt(l:Lk)(w:World):(binOp .eql 40 (.agg (fa l)) (.agg (fa l))).run Tryz.prog w=.ok (.bool true) w:=by
 unfold fa;rw[run_eql_struct];go_simp
@[go_sem] theorem aju(l m:Lk)(x y:Operand)(w:World):(eqGuard .eql 40 x y (.agg (fa l)) (.agg (fa m))).run Tryz.prog w=.ok () w:=run_eqGuard_agg w _ _ _ _ _ _ (by kernel_rfl)
theorem adA{r1 r2:Jr Jd}(h:jQ r1=jQ r2)(h1:∀q,r1=.error q→q.2≠0)(h2:∀q,r2=.error q→q.2≠0):(xc r1==0)=(xc r2==0)∧(xj r1).type=(xj r2).type∧(xj r1).val=(xj r2).val:=by
 cases r1 with
 |ok a=>cases r2 with
  |ok b=>exact⟨rfl,congrArg Prod.fst (Option.some.inj h),congrArg Prod.snd (Option.some.inj h)⟩
  |error q=>cases h
 |error q=>cases r2 with
  |ok b=>cases h
  |error q'=>exact⟨by rw[show(xc (.error q)==0)=false from beq_eq_false_iff_ne.2 (h1 _ rfl),show(xc (.error q')==0)=false from beq_eq_false_iff_ne.2 (h2 _ rfl)],rfl,rfl⟩
theorem adB(x y:ao)(u:List UInt8)(p:cJ):bq (.mk 11 p u 0 [x,y])=bq (.mk 11 p u 0 [y,x]):=by
 simp[bq,lr];omega
set_option maxHeartbeats 4000000 in
theorem adC(a b:List UInt8)(op:Nat)(hop:op<256)(hs:a.length+b.length≤9223372036854775807)(w:World)(B:Ak w):Calls Tryz.prog 5 #[.string ⟨a.toArray⟩,.string ⟨b.toArray⟩,.int .u8 op] w (Iu w):=by
 have HM:=aa B.made;have HW:=aa B.works;have hcat:=SP a b hs;clear hs;clear B;go_enter Tryz.func5,Tryz.ntmps5;go_wp2_with fail;refine(Is (a++b) _).mono ?_;rintro e wq ⟨rfl,rfl⟩;by_cases hh:1024<(a++b).length
 ·exact Iz
 rw[decide_eq_false hh];have hla:a.length≤16384:=by simp at hh;omega
 have hlb:b.length≤16384:=by simp at hh;omega
 clear hcat hh;go_wp2_with fail;refine(HM.out _ (Below.refl _ _)).mono ?_;rintro e w2 ⟨af,wb,pt,pv,L,rfl,fJ,rI,hJ,hn⟩;have B2:=aa af;go_wp2_with fail;refine(xD a hla _).mono ?_;intro e w3 rJ;obtain⟨ad,ax,rfl,hx⟩:=xE rJ;have B3:=ah B2 ad;go_wp2_with fail;refine(xD b hlb _).mono ?_;intro e w4 rk;obtain⟨aw,ay,rfl,hy⟩:=xE rk;have B4:=ah B3 aw;have oM:=bb ad aw;have J4:=aa (hJ.later oM);have c0:=bo fJ oM;have c1:=bo rI oM;have HNm:=aa hn;clear hJ fJ rI rJ rk hn;rcases hx with rfl|⟨xb,x,rfl,fk,dK,gZ⟩
 ·exact CM
 rcases hy with rfl|⟨yb,y,rfl,yM,oI,yN⟩
 ·exact CM
 have HX:=aa (fk.later aw);have HY:=aa yM;have jf:=aa dK;have jE:=aa gZ;have tD:=aa oI;have yO:=aa yN;clear fk dK gZ yM oI yN af ad aw oM B2 B3;have hlen:sideOps.length=7:=rfl;have hk7:op% 7<7:=Nat.mod_lt _ (by decide);obtain⟨u,hu⟩:∃u,sideOps[op% 7]? =some u:=⟨sideOps[op% 7]'(by rw[hlen];exact hk7),List.getElem?_eq_getElem _⟩;have hmem:=aa (List.mem_of_getElem? hu);clear hlen;go_upto_region 10 with(fail);generalize dA:w4.alloc _=w5;obtain⟨au,x5,iw⟩:=made dA;have co:w5.cell? ⟨w4.heap.size,op% 7,none⟩=some (.string ⟨u.toArray⟩):=by
  rw[x5.cell];show((sideOps.map fm).toArray)[op% 7]? =_;simp[hu,fm]
 have lo:=x5.lt;have C5:=aa au;clear hu dA au x5;go_upto_region 11 with(fail);go_upto_region 12 with(fail);generalize aH:w5.alloc _=w6;obtain⟨aD,x6,pV⟩:=made aH;generalize fI:w6.alloc _=w7;obtain⟨aC,x7,mG⟩:=made fI;have DW:=bb aD aC;simp only[pV,iw]at x6 x7;have Z1:=aa (Iy (x6.grow aC) x7 ((HX.out.later C5.out).later DW) ((HY.out.later C5.out).later DW));have C7:=ah C5 DW;clear aD aC DW x6 x7 aH fI co lo;go_upto_region 13 with(fail);generalize fZ:w7.alloc _=w8;obtain⟨aB,x8,mF⟩:=made fZ;generalize nw:w8.alloc _=w9;obtain⟨br,x9,oJ⟩:=made nw;have iA:=bb aB br;simp only[mF,mG,pV,iw]at x8 x9;have Z2:=aa (Iy (x8.grow br) x9 ((HY.out.later C7.out).later iA) ((HX.out.later C7.out).later iA));have Z1:=aa (Z1.out.later iA);have C9:=ah C7 iA;have B6:=aa (bb B4.out C9.out);have J6:=aa (J4.out.later C9.out);have d0:=bo c0 C9.out;have d1:=bo c1 C9.out;clear c0 c1 aB br iA x8 x9 fZ nw C5 C7 C9 B4 J4 HX HY iw pV mG mF oJ;have eM:=aQ d0;refine bh [15,16,17] [⟨14,14,ei,29⟩] (by kernel_rfl) ?_;refine FQ (Below.refl _ _) [0,1,2,3,4,5,6,7,8] ?_;refine FC 9 (cr bN) (Below.refl _ _) (fun wy hwy=>(sK (J6.out.later hwy) HNm.out (Z1.out.later hwy) (CL u jf.out tD.out) (Ix u jE.out yO.out) (8*bq (.mk 11 (900,900) u 0 [x,y])+1) (Nat.le_succ _)).mono ?_);rintro e wz ⟨hbz,rfl,hv⟩;refine⟨hbz,?_⟩;have BZ:=aa (bb hwy hbz);have yU:=aa hv;generalize fG:exprJ (aj worldT (dS ee)) (8*bq (.mk 11 (900,900) u 0 [x,y])+1) (.mk 11 (900,900) u 0 [x,y])=r1 at *;have jF:=aa fG;have Wp:=aa (fun q (hq:r1=.error q)=>sF _ _ _ q (fG.trans hq));clear hbz hwy hv fG;generalize yV:xj r1=j1 at *;obtain⟨t1,v1,i1⟩:=j1;dsimp only[bU];refine FS (cr bN) BZ.out [10,11,12,13] ?_;refine fU 15 (by kernel_rfl) bN (by kernel_rfl) BZ.out rfl rfl rfl rfl (fun _=>rfl) (fun _=>rfl) info29 rfl (ig ⟨t1,v1,i1⟩) (fun b1 Wh yP tE gJ _=>?_);refine FA ?_;have B7:=ah B6 gJ;have J7:=aa (J6.out.later gJ);have yQ:=aa (Z2.out.later gJ);have eU:=aa tE;have e0:=bo d0 gJ;have e1:=bo d1 gJ;clear d0 d1 gJ J6 Z1 Z2 B6 BZ tE yP eM;have eM:=aQ e0;go_upto_region 14 with(fail);refine bh [15,16,17] [⟨14,17,ei,29⟩] (by kernel_rfl) ?_;refine FQ (Below.refl _ _) [0,1,2,3,4,5,6,7,8] ?_;refine FC 9 (cr bN) (Below.refl _ _) (fun wy hwy=>(sK (J7.out.later hwy) HNm.out (yQ.out.later hwy) (CL u tD.out jf.out) (Ix u yO.out jE.out) (8*bq (.mk 11 (900,900) u 0 [x,y])+1) (by rw[adB];exact Nat.le_succ _)).mono ?_);rintro e wz ⟨hbz,rfl,hv⟩;refine⟨hbz,?_⟩;have BZ:=aa (bb hwy hbz);generalize eL:exprJ (aj worldT (dS ee)) (8*bq (.mk 11 (900,900) u 0 [x,y])+1) (.mk 11 (900,900) u 0 [y,x])=r2 at *;have eB:=aa eL;have DR:=aa (fun q (hq:r2=.error q)=>sF _ _ _ q (eL.trans hq));clear hbz hwy hv eL;have HS:=adA (by have:=aaF (aj worldT (dS ee)) rfl (8*bq (.mk 11 (900,900) u 0 [x,y])) (900,900) u hmem.out x y;rwa [jF.out,eB.out]at this) Wp.out DR.out;rw[yV]at HS;clear yV;generalize xj r2=j2 at *;obtain⟨t2,v2,i2⟩:=j2;obtain⟨hc,ht,hv⟩:=HS;subst ht hv;generalize xc r1=c1 at *;generalize xc r2=c2 at *;generalize xp r1=p1 at *;generalize xp r2=p2 at *;clear Wp DR jF eB r1 r2;dsimp only[bU];refine FS (cr bN) BZ.out [10,11,12,13] ?_;refine fU 15 (by kernel_rfl) bN (by kernel_rfl) BZ.out rfl rfl rfl rfl (fun _=>rfl) (fun _=>rfl) info29 rfl (ig ⟨t1,v1,i2⟩) (fun b2 Wi yR tF iR _=>?_);refine FA ?_;have B8:=ah B7 iR;have eU:=aa (eU.out.grow iR);have tG:=aa tF;clear e0 e1 iR J7 yQ B7 BZ tF yR eM;have y1:=eU.out.cell;have y2:=tG.out.cell;have kY:=eU.out.lt;have Wq:=tG.out.lt;have hcc:(c1=0∧c2=0)∨((c1==0)=false∧(c2==0)=false):=by
  by_cases h1:c1=0
  ·rw[h1]at hc;exact .inl ⟨h1,beq_iff_eq.1 hc.symm⟩
  ·rw[beq_eq_false_iff_ne.2 h1]at hc;exact .inr ⟨beq_eq_false_iff_ne.2 h1,hc.symm⟩
 clear hc;have HLk:=aa (fun w=>SS v1 yU.out w);clear yU eU tG;rcases hcc with⟨rfl,rfl⟩|⟨g1,g2⟩<;>(
  go_upto_region 15 with(fail);refine bh [24] [] (by kernel_rfl) ?_;refine FQ (Below.refl _ _) [0,1,2,3,4,5,6,7,8,9,10,11,12,13,14,16,17] ?_;refine FC 15 aG (Below.refl _ _) (fun wy hwy=>(HLk.out _).mono ?_);rintro e wz ⟨rfl,hbz⟩;refine⟨hbz,?_⟩;have C1:=aa (bb hwy hbz);clear hbz hwy;refine FC 18 aG C1.out (fun wy hwy=>(HLk.out _).mono ?_);rintro e wz2 ⟨rfl,hbz⟩;refine⟨hbz,?_⟩;have C2:=aa (bb C1.out (bb hwy hbz));clear hbz hwy;refine FS aG C2.out [19,20,21] ?_;refine FC 22 aG C2.out (fun wy hwy=>(HW.out _ (bb B8.out (bb C2.out hwy))).mono ?_);rintro e Wr ⟨rfl,hbz⟩;refine⟨hbz,?_⟩;have C3:=aa (bb C2.out (bb hwy hbz));clear hbz hwy;refine FS aG C3.out [23] ?_;refine cV 24 (by kernel_rfl) (by kernel_rfl) C3.out (fun wr hwr=>?_);refine FA ?_;have B9:=aa (bb B8.out (bb C3.out hwr));go_wp2_with fail;go_ret;exact⟨rfl,B9.out⟩)
end Go.Proofs.YtlpombjidhloiaaGreat
