/- JudgeParts, walked. Condition: what each theorem says. -/
import Derived.Test.YtlpombjidhloiaaGreatBba
namespace Go.Proofs.YtlpombjidhloiaaGreat
open Go.RowKit
set_option maxRecDepth 100000
attribute [local go_sem ↓] Go.wp_at_zero Go.wp_at_succ
theorem adu(a b:List UInt8):(⟨a.toArray⟩:ByteArray)++⟨b.toArray⟩=⟨(a++b).toArray⟩:=by
 apply ByteArray.ext;simp[ByteArray.data_append]
theorem SP(a b:List UInt8)(h:a.length+b.length≤9223372036854775807):∀w:World,(Op.stringOp .add ⟨a.toArray⟩ ⟨b.toArray⟩).run Tryz.prog w=.ok (.string ⟨(a++b).toArray⟩) w:=fun w=>by
 rw[run_string_add_sum w _ _ (by simpa[ByteArray.size]using h),adu]
def Iu(w:World)(e:Ending)(w':World):Prop:=e=.returned (.bool true)∧Below w.heap.size w w'
def opsP:List (List UInt8):=[[43],[45],[42],[47],[68,73,86],[77,79,68],[65,78,68],[79,82],[61],[35],[60],[60,61],[62],[62,61],[73,78]]
theorem xE{w:World}{e:Ending}{w':World}(h:SO w e w'):Below w.heap.size w w'∧∃a:Option Addr,e=.returned (.pointer a)∧(a=none∨∃b x,a=some ⟨b,0,none⟩∧bg w' b x∧Tk x∧ez 1000000 x):=by
 obtain⟨h1,rfl|⟨b,x,rfl,h2⟩⟩:=h
 ·exact⟨h1,none,rfl,.inl rfl⟩
 ·exact⟨h1,_,rfl,.inr ⟨b,x,rfl,h2⟩⟩
theorem Iv{x:ao}(hx:Tk x){N:Nat}{p:cJ}{c:Int}(h:exprJ (aj worldT (dS ee)) N x=.error (p,c)):ep p:=by
 have:=Qw (tys:=ee) (by decide) N x hx;rw[h]at this;exact this
def uV(a b c d:Nat):Bool:=(FloatKind.f64.format.order (fb a) (fb c)==some Ordering.eq)&&(FloatKind.f64.format.order (fb b) (fb d)==some Ordering.eq)
@[go_sem high] theorem ajs(a b c d:Nat)(t:TypeId)(w:World):(binOp .eql t (.complex .f64 (fb a) (fb b)) (.complex .f64 (fb c) (fb d))).run Tryz.prog w=.ok (.bool (uV a b c d)) w:=run_eql_complex w t _ _ _ _ _
theorem Iw{p:cJ}(h:ep p):uV p.1 p.2 p.1 p.2=true:=by
 unfold uV;rw[CJ h.2.1,CJ h.2.2];rfl
theorem adv:fb 900=4651127699538968576:=by decide +kernel
theorem adw(x y:ao)(u:List UInt8):8*bq x≤8*bq (.mk 11 (900,900) u 0 [x,y]):=by
 exact SQ
theorem adx(x y:ao)(u:List UInt8):8*bq y≤8*bq (.mk 11 (900,900) u 0 [x,y]):=by
 exact SQ
theorem CL{x y:ao}(u:List UInt8)(hx:Tk x)(hy:Tk y):Tk (.mk 11 (900,900) u 0 [x,y]):=Qx (by decide) (by decide) hx hy
theorem Ix{x y:ao}(u:List UInt8)(hx:ez 1000000 x)(hy:ez 1000000 y):ez 1000000 (.mk 11 (900,900) u 0 [x,y]):=.mk _ (by show 2≤_;omega) (fun t ht=>by
 rcases List.mem_cons.1 ht with rfl|ht
 ·exact hx
 ·rw[List.mem_singleton.1 ht];exact hy)
theorem Iy{w6:World}{g k xb yb:Nat}{x y:ao}{u:List UInt8}(x5:Bx g #[.pointer (some ⟨xb,0,none⟩),.pointer (some ⟨yb,0,none⟩)] 26 w6)(x6:Bx k #[.int .u8 11,.complex .f64 4651127699538968576 4651127699538968576,.string ⟨u.toArray⟩,.int .i64 0,.slice (some ⟨g,0,none⟩) 2 2] 55 w6)(hx:bg w6 xb x)(hy:bg w6 yb y):bg w6 k (.mk 11 (900,900) u 0 [x,y]):=by
 refine .mk _ _ (some ⟨g,0,none⟩) 2 [xb,yb] (fun i v hi=>?_) (.inr ⟨_,0,2,rfl,Nat.le_refl _,x5.lt,fun j v hj=>?_⟩) rfl (fun i a t ha ht=>?_)
 ·rw[x6.cell i,←hi];unfold AC jM;show _=#[_,Value.complex .f64 (fb 900) (fb 900),_,_,_][i]?;rw[adv];rfl
 ·rw[Nat.zero_add,x5.cell]
  match j,hj with
  |0,hj=>exact hj
  |1,hj=>exact hj
  |j+2,hj=>simp at hj
 ·match i,ha,ht with
  |0,ha,ht=>cases ha;cases ht;exact hx
  |1,ha,ht=>cases ha;cases ht;exact hy
  |i+2,ha,ht=>simp at ha
set_option maxHeartbeats 4000000 in
theorem ady(a b:List UInt8)(op:Nat)(hop:op<256)(hs:a.length+b.length≤9223372036854775807)(w:World)(B:Ak w):Calls Tryz.prog 4 #[.string ⟨a.toArray⟩,.string ⟨b.toArray⟩,.int .u8 op] w (Iu w):=by
 have HM:=aa B.made;have HW:=aa B.works;have hcat:=SP a b hs;clear hs;clear B;go_enter Tryz.func4,Tryz.ntmps4;go_wp2_with fail;refine(Is (a++b) _).mono ?_;rintro e wq ⟨rfl,rfl⟩;by_cases hh:1024<(a++b).length
 ·exact Iz
 rw[decide_eq_false hh];have hla:a.length≤16384:=by simp at hh;omega
 have hlb:b.length≤16384:=by simp at hh;omega
 clear hcat hh;go_upto_region 4 with(fail);generalize az:w.alloc _=w1;obtain⟨ae,x1,aE⟩:=made az;have B1:=aa ae;have XO:=aa x1;clear az aE ae x1;go_wp2_with fail;refine(HM.out _ B1.out).mono ?_;rintro e w2 ⟨af,wb,pt,pv,L,rfl,fJ,rI,hJ,hn⟩;have B2:=ah B1 af;have XO:=aa (XO.out.grow af);go_wp2_with fail;refine(xD a hla _).mono ?_;intro e w3 rJ;obtain⟨ad,ax,rfl,hx⟩:=xE rJ;have B3:=ah B2 ad;go_wp2_with fail;refine(xD b hlb _).mono ?_;intro e w4 rk;obtain⟨aw,ay,rfl,hy⟩:=xE rk;have B4:=ah B3 aw;have oM:=bb ad aw;have XO:=aa (XO.out.grow oM);have J4:=aa (hJ.later oM);have c0:=bo fJ oM;have c1:=bo rI oM;have HNm:=aa hn;clear hJ fJ rI rJ rk hn;rcases hx with rfl|⟨xb,x,rfl,fk,dK,gZ⟩
 ·exact CM
 rcases hy with rfl|⟨yb,y,rfl,yM,oI,yN⟩
 ·exact CM
 have HX:=aa (fk.later aw);have HY:=aa yM;have jf:=aa dK;have jE:=aa gZ;have tD:=aa oI;have yO:=aa yN;clear fk dK gZ yM oI yN af ad aw oM B1 B2 B3;obtain⟨u,hu⟩:∃u,opsP[op% 15]? =some u:=⟨opsP[op% 15]'(by have:=Nat.mod_lt op (by decide:0<15);simpa[opsP]using this),List.getElem?_eq_getElem _⟩;have aj4:op% 15<15:=Nat.mod_lt _ (by decide);have co:w4.cell? ⟨w.heap.size,op% 15,none⟩=some (.string ⟨u.toArray⟩):=by
  rw[XO.out.cell];show((opsP.map fm).toArray)[op% 15]? =_;simp[hu,fm]
 have lo:=XO.out.lt;clear hu;go_wp2_with fail;generalize dA:w4.alloc _=w5;obtain⟨au,x5,iw⟩:=made dA;generalize aH:w5.alloc _=w6;obtain⟨aD,x6,pV⟩:=made aH;have hG:=bb au aD;have HZ:=aa (Iy (x5.grow aD) x6 (HX.out.later hG) (HY.out.later hG));rw[iw]at HZ;have B6:=ah B4 hG;have J6:=aa (J4.out.later hG);have dV:=aa (HX.out.later hG);have Wg:=aa (HY.out.later hG);have d0:=bo c0 hG;have d1:=bo c1 hG;clear c0 c1 co lo dA au x5 iw aH aD x6 pV hG XO J4 B4 HX HY;have eM:=aQ d0;refine bh [15,16,17] [⟨14,12,ei,29⟩] (by kernel_rfl) ?_;refine FQ (Below.refl _ _) [0,1,2,3,4,5,6,7,8] ?_;refine FC 9 (cr bN) (Below.refl _ _) (fun wy hwy=>(sK (J6.out.later hwy) HNm.out (dV.out.later hwy) jf.out jE.out (8*bq (.mk 11 (900,900) u 0 [x,y])) (adw x y u)).mono ?_);rintro e wz ⟨hbz,rfl,hv⟩;refine⟨hbz,?_⟩;have BZ:=aa (bb hwy hbz);generalize fG:exprJ (aj worldT (dS ee)) (8*bq (.mk 11 (900,900) u 0 [x,y])) x=r1;have jF:=aa fG;generalize xj r1=j1 at *;obtain⟨t1,v1,i1⟩:=j1;clear hbz hwy hv fG;dsimp only[bU];refine FS (cr bN) BZ.out [10,11,12,13] ?_;refine fU 15 (by kernel_rfl) bN (by kernel_rfl) BZ.out rfl rfl rfl rfl (fun _=>rfl) (fun _=>rfl) info29 rfl (ig ⟨t1,v1,i1⟩) (fun b1 Wh yP tE gJ _=>?_);refine FA ?_;have B7:=ah B6 gJ;have J7:=aa (J6.out.later gJ);have iy:=aa (dV.out.later gJ);have Ks:=aa (Wg.out.later gJ);have yQ:=aa (HZ.later gJ);have e0:=bo d0 gJ;have e1:=bo d1 gJ;clear d0 d1 gJ J6 dV Wg HZ B6 BZ tE yP eM;have eM:=aQ e0;go_upto_region 12 with(fail);refine bh [15,16,17] [⟨14,15,ei,29⟩] (by kernel_rfl) ?_;refine FQ (Below.refl _ _) [0,1,2,3,4,5,6,7,8] ?_;refine FC 9 (cr bN) (Below.refl _ _) (fun wy hwy=>(sK (J7.out.later hwy) HNm.out (Ks.out.later hwy) tD.out yO.out (8*bq (.mk 11 (900,900) u 0 [x,y])) (adx x y u)).mono ?_);rintro e wz ⟨hbz,rfl,hv⟩;refine⟨hbz,?_⟩;have BZ:=aa (bb hwy hbz);generalize eL:exprJ (aj worldT (dS ee)) (8*bq (.mk 11 (900,900) u 0 [x,y])) y=r2;have eB:=aa eL;generalize xj r2=j2 at *;obtain⟨t2,v2,i2⟩:=j2;clear hbz hwy hv eL;dsimp only[bU];refine FS (cr bN) BZ.out [10,11,12,13] ?_;refine fU 15 (by kernel_rfl) bN (by kernel_rfl) BZ.out rfl rfl rfl rfl (fun _=>rfl) (fun _=>rfl) info29 rfl (ig ⟨t2,v2,i2⟩) (fun b2 Wi yR tF iR _=>?_);refine FA ?_;have B8:=ah B7 iR;have J8:=aa (J7.out.later iR);have fY:=aa (iy.out.later iR);have Wj:=aa (Ks.out.later iR);have Kt:=aa (yQ.out.later iR);have d0:=bo e0 iR;have d1:=bo e1 iR;clear e0 e1 iR J7 iy Ks yQ B7 BZ tF yR eM;have eM:=aQ d0;go_upto_region 13 with(fail);refine bh [15,16,17] [⟨14,18,ei,29⟩] (by kernel_rfl) ?_;refine FQ (Below.refl _ _) [0,1,2,3,4,5,6,7,8] ?_;refine FC 9 (cr bN) (Below.refl _ _) (fun wy hwy=>(sK (J8.out.later hwy) HNm.out (Kt.out.later hwy) (CL u jf.out tD.out) (Ix u jE.out yO.out) (8*bq (.mk 11 (900,900) u 0 [x,y])+1) (Nat.le_succ _)).mono ?_);rintro e wz ⟨hbz,rfl,hv⟩;refine⟨hbz,?_⟩;have BZ:=aa (bb hwy hbz);generalize Wl:exprJ (aj worldT (dS ee)) (8*bq (.mk 11 (900,900) u 0 [x,y])+1) (.mk 11 (900,900) u 0 [x,y])=r3;have dH:=aa Wl;generalize xj r3=j3 at *;obtain⟨t3,v3,i3⟩:=j3;clear hbz hwy hv Wl;dsimp only[bU];refine FS (cr bN) BZ.out [10,11,12,13] ?_;refine fU 15 (by kernel_rfl) bN (by kernel_rfl) BZ.out rfl rfl rfl rfl (fun _=>rfl) (fun _=>rfl) info29 rfl (ig ⟨t3,v3,i3⟩) (fun b3 yS ahf xj3 yT _=>?_);refine FA ?_;have B9:=ah B8 yT;have gH:=aa (fY.out.later yT);have Wm:=aa (Wj.out.later yT);have Wn:=aa (Kt.out.later yT);clear d0 d1 yT J8 fY Wj Kt B8 BZ xj3 ahf eM;obtain⟨P1,P2,P3⟩:=aay (aj worldT (dS ee)) (8*bq (.mk 11 (900,900) u 0 [x,y])) (900,900) u x y;rw[jF.out,eB.out,dH.out]at P3;rw[jF.out,dH.out]at P1;rw[jF.out,eB.out,dH.out]at P2;have Ku:=aa P1;have vu:=aa P2;have Kv:=aa P3;clear P1 P2 P3;have fz:FloatKind.f64.format.order 0 0=some Ordering.eq:=by decide +kernel
 cases r1 with
 |error q1=>
  obtain⟨p1,c1⟩:=q1;have hne:c1≠0:=sF _ _ _ _ jF.out;obtain rfl:=Ku.out _ rfl;have hpk:=Iv jf.out jF.out;have f1:=Iw hpk;generalize xc r2=k2;generalize xp r2=g2;dsimp only[xc,xp];have hcb:(c1 != 0)=true:=bne_iff_ne.2 hne;exact IB
 |ok j1=>
  cases r2 with
  |error q2=>
   obtain⟨p2,c2⟩:=q2;have hne:c2≠0:=sF _ _ _ _ eB.out;obtain rfl:=vu.out _ _ rfl rfl;have hpk:=Iv tD.out eB.out;have f1:=Iw hpk;dsimp only[xc,xp];have hcb:(c2 != 0)=true:=bne_iff_ne.2 hne;exact IB
  |ok j2=>
   cases r3 with
   |ok j3=>
    dsimp only[xc,xp];exact IB
   |error q3=>
    obtain⟨p3,c3⟩:=q3;have hPE:=Kv.out _ _ rfl rfl;have hne:c3≠0:=sF _ _ _ _ dH.out;have hpk:=Iv (CL u jf.out tD.out) dH.out;have f1:=Iw hpk;obtain⟨Az,cz,_,z1,_⟩:=Wn.out.cells;obtain⟨Ax,cx,_,x1,_⟩:=gH.out.cells;obtain⟨Ay,cy,_,y1,_⟩:=Wm.out.cells;have lz:=aQ z1;have lx:=aQ x1;have ly:=aQ y1
    replace z1:yS.cell? ⟨w4.heap.size+1,1,none⟩=some (.complex .f64 (fb 900) (fb 900)):=z1
    replace x1:yS.cell? ⟨xb,1,none⟩=some (.complex .f64 (fb x.pos.1) (fb x.pos.2)):=x1
    replace y1:yS.cell? ⟨yb,1,none⟩=some (.complex .f64 (fb y.pos.1) (fb y.pos.2)):=y1
    have Wo:=hPE.1;have DV:=hPE.2;dsimp only at Wo DV f1;dsimp only[xc,xp];have hcb:(c3==0)=false:=beq_eq_false_iff_ne.2 hne;clear jF eB dH Ku vu Kv gH Wm Wn hPE hpk;have hEnd:∀wf,Below yS.heap.size yS wf→Below w.heap.size w wf:=fun wf h=>bb B9.out h
    rcases Wo with rfl|rfl|rfl
    ·rcases DV with rfl|rfl<;>(
      go_wp2_with fail;refine(HW.out _ B9.out).mono ?_;rintro e wf ⟨rfl,hbf⟩;go_wp2_with fail;go_ret;exact⟨rfl,hEnd _ hbf⟩)
    ·cases hz:(uV x.pos.1 x.pos.2 900 900)<;>rcases DV with rfl|rfl<;>(
      go_wp2_with fail;refine(HW.out _ B9.out).mono ?_;rintro e wf ⟨rfl,hbf⟩;go_wp2_with fail;go_ret;exact⟨rfl,hEnd _ hbf⟩)
    ·cases hz:(uV y.pos.1 y.pos.2 900 900)<;>cases hx:(uV y.pos.1 y.pos.2 x.pos.1 x.pos.2)<;>rcases DV with rfl|rfl<;>(
      go_wp2_with fail;refine(HW.out _ B9.out).mono ?_;rintro e wf ⟨rfl,hbf⟩;go_wp2_with fail;go_ret;exact⟨rfl,hEnd _ hbf⟩)
end Go.Proofs.YtlpombjidhloiaaGreat
