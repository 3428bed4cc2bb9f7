/- JudgeValues, walked. Condition: what each theorem says. -/
import Derived.Test.YtlpombjidhloiaaGreatQvb
import Derived.Test.YtlpombjidhloiaaGreatQvf
import Derived.Test.YtlpombjidhloiaaGreatQwa
namespace Go.Proofs.YtlpombjidhloiaaGreat
open Go.RowKit
set_option maxRecDepth 100000
attribute [local go_sem ↓] Go.wp_at_zero Go.wp_at_succ
@[go_sem high] theorem ajv(l:Lk)(w:World):(binOp .neq 40 (.agg (fa l)) (.agg (fa l))).run Tryz.prog w=.ok (.bool false) w:=by
 unfold fa;rw[run_neq_struct];go_simp
@[go_sem] theorem ajw(l m:Lk)(x y:Operand)(w:World):(eqGuard .neq 40 x y (.agg (fa l)) (.agg (fa m))).run Tryz.prog w=.ok () w:=run_eqGuard_agg w _ _ _ _ _ _ (by kernel_rfl)
theorem SU:FloatKind.f64.format.order 0 0=some Ordering.eq:=by decide +kernel
theorem adD{r:Jr Jd}(h:RR eb r):FloatKind.f64.format.order (xp r).1 (xp r).1=some Ordering.eq∧FloatKind.f64.format.order (xp r).2 (xp r).2=some Ordering.eq:=by
 cases r with
 |ok j=>exact⟨SU,SU⟩
 |error q=>exact⟨CJ h.2.1,CJ h.2.2⟩
theorem adE{r:Jr Jd}(h:RR eb r)(hc:xc r≠0):((FloatKind.f64.format.order (xp r).1 0==some Ordering.eq)&&(FloatKind.f64.format.order (xp r).2 0==some Ordering.eq))=false:=by
 cases r with
 |ok j=>exact absurd rfl hc
 |error q=>
  obtain⟨h0,h1,h2⟩:=h;obtain⟨⟨a,b⟩,c⟩:=q;dsimp only at h0 h1 h2;show((FloatKind.f64.format.order (fb a) 0==some Ordering.eq)&&(FloatKind.f64.format.order (fb b) 0==some Ordering.eq))=false;by_cases ha:a=0
  ·have hb:1≤b:=by
    rcases Nat.eq_zero_or_pos b with hb|hb
    ·subst ha hb;exact absurd rfl h0
    ·exact hb
   rw[SV hb h2,Bool.and_false]
  ·rw[SV (by omega) h1,Bool.false_and]
theorem adF{V:ea}:∀{N:Nat} {x:ao} {j:Jd} (_:exprJ V N x=.ok j),aJ V.T j.type≠0
 |0,x,j,h=>by rw[exprJ]at h;cases h
 |N+1,x,j,h=>by
  rw[exprJ]at h;generalize hq:(if x.kind=5 then Except.ok ⟨5,.whole x.n,0⟩else _:Jr Jd)=q at h;cases q with
  |error e=>cases h
  |ok j'=>
   have h:(aI (decide (aJ V.T j'.type≠0)) x 252 >>= fun _=>(Except.ok j':Jr Jd))=.ok j:=h;unfold aI at h;split at h
   ·rename_i hk;cases h;exact of_decide_eq_true hk
   ·cases h
theorem adG{T:List Ty}{t:Int}(h:(rangeT T t).2.2=true):bH T t=true:=by
 unfold rangeT at h;split at h
 ·cases h
 ·rename_i h1;simpa using h1
theorem adH{v:aL}(hv:Vw v){n:Int}(h:aR v=some n):uW (pO v)=true∧ID (pO v)=n:=by
 cases v with
 |none=>cases h
 |null=>cases h
 |bits b=>cases h
 |whole m=>
  have h:(if -32768≤m∧m≤65535 then some m else none)=some n:=h;split at h
  ·rename_i hm;cases h;have hl:pO (.whole n)=⟨1,n,[],0⟩:=by
    show(if n< -32768∨65535<n then xF else _)=_;rw[if_neg (by omega)]
   rw[hl];exact⟨rfl,rfl⟩
  ·cases h
 |letter c=>cases h;exact⟨rfl,rfl⟩
 |truth b=>cases h;exact⟨rfl,rfl⟩
 |item u m=>cases h;exact⟨rfl,rfl⟩
 |str s=>
  match s,h with
  |[c],h=>cases h;exact⟨rfl,rfl⟩
  |[],h=>cases h
  |a::b::s,h=>cases h
@[go_sem] theorem ajx(v:aL)(w:World)(x y:Operand):(eqGuard .neq 20 x y (aK v) .nilIface).run Tryz.prog w=.ok () w:=by cases v<;>cases x<;>cases y<;>rfl
def rU(v:aL):Bool:=match v with|.none=>true|_=>false
theorem adI(v:aL)(w:World):(binOp .neq 20 (aK v) .nilIface).run Tryz.prog w=.ok (.bool !(rU v)) w:=by cases v<;>kernel_rfl
theorem adJ(v:aL)(w:World):(binOp .eql 20 (aK v) .nilIface).run Tryz.prog w=.ok (.bool (rU v)) w:=by cases v<;>kernel_rfl
@[go_sem high] theorem ajy(w:World):(binOp .neq 20 (aK .none) .nilIface).run Tryz.prog w=.ok (.bool false) w:=by kernel_rfl
@[go_sem high] theorem ajz(w:World):(binOp .neq 20 .nilIface .nilIface).run Tryz.prog w=.ok (.bool false) w:=by kernel_rfl
@[go_sem high] theorem ajA(x y:Operand)(w:World):(eqGuard .neq 20 x y .nilIface .nilIface).run Tryz.prog w=.ok () w:=by cases x<;>cases y<;>rfl
@[go_sem high] theorem ajB(w:World):(binOp .eql 20 (aK .none) .nilIface).run Tryz.prog w=.ok (.bool true) w:=by kernel_rfl
@[go_sem high] theorem ajC(w:World):(binOp .eql 20 .nilIface .nilIface).run Tryz.prog w=.ok (.bool true) w:=by kernel_rfl
@[go_sem high] theorem ajD(x y:Operand)(w:World):(eqGuard .eql 20 x y .nilIface .nilIface).run Tryz.prog w=.ok () w:=by cases x<;>cases y<;>rfl
@[go_sem] theorem ajE(v:aL)(w:World)(x y:Operand):(eqGuard .eql 20 x y (aK v) .nilIface).run Tryz.prog w=.ok () w:=by cases v<;>cases x<;>cases y<;>rfl
theorem SW{v:aL}(h:v≠.none):rU v=false:=by cases v<;>first|rfl|exact absurd rfl h
set_option maxHeartbeats 4000000 in
theorem adK(s:List UInt8)(w:World)(B:Ak w):Calls Tryz.prog 3 #[.string ⟨s.toArray⟩] w (Iu w):=by
 have HM:=aa B.made;have HW:=aa B.works;clear B;go_enter Tryz.func3,Tryz.ntmps3;go_wp2_with fail;refine(Is s _).mono ?_;rintro e wq ⟨rfl,rfl⟩;by_cases hh:1024<s.length
 ·exact Iz
 rw[decide_eq_false hh];have hl:s.length≤16384:=by omega
 clear hh;go_wp2_with fail;refine(HM.out _ (Below.refl _ _)).mono ?_;rintro e w2 ⟨af,wb,pt,pv,L,rfl,fJ,rI,hJ,hn⟩;have B2:=aa af;go_wp2_with fail;refine(xD s hl _).mono ?_;intro e w3 rJ;obtain⟨ad,ax,rfl,hx⟩:=xE rJ;have B3:=ah B2 ad;have J3:=aa (hJ.later ad);have d0:=bo fJ ad;have d1:=bo rI ad;have HNm:=aa hn;clear hJ fJ rI rJ hn af ad B2;rcases hx with rfl|⟨xb,x,rfl,fk,dK,gZ⟩
 ·go_wp2_with fail;refine(HW.out _ B3.out).mono ?_;rintro e w5 ⟨rfl,au⟩;go_wp2_with fail;go_ret;exact⟨rfl,bb B3.out au⟩
 have HX:=aa fk;have jf:=aa dK;have jE:=aa gZ;clear fk dK gZ;have eM:=aQ d0;go_wp2_with fail;refine bh [15,16,17] [⟨14,5,ei,29⟩] (by kernel_rfl) ?_;refine FQ (Below.refl _ _) [0,1,2,3,4,5,6,7,8] ?_;refine FC 9 (cr bN) (Below.refl _ _) (fun wy hwy=>(sK (J3.out.later hwy) HNm.out (HX.out.later hwy) jf.out jE.out (8*bq x) (Nat.le_refl _)).mono ?_);rintro e wz ⟨hbz,rfl,hv⟩;refine⟨hbz,?_⟩;have BZ:=aa (bb hwy hbz);have yU:=aa hv;clear hbz hwy hv;generalize fG:exprJ (aj worldT (dS ee)) (8*bq x) x=r1 at *;have jF:=aa fG;have HRR:=aa (show RR eb r1 by rw[←fG];exact Qw (tys:=ee) (by decide) _ _ jf.out);have yW:=aa (rfl:xj r1=xj r1);have HS:=aa (adD HRR.out);have FN:=aa (adE HRR.out);clear fG yW;generalize yV:xj r1=j1 at *;have yW:=aa yV;clear yV;obtain⟨t,v,i⟩:=j1;dsimp only[bU];refine FS (cr bN) BZ.out [10,11,12,13] ?_;refine fU 15 (by kernel_rfl) bN (by kernel_rfl) BZ.out rfl rfl rfl rfl (fun _=>rfl) (fun _=>rfl) info29 rfl (ig ⟨t,v,i⟩) (fun b1 Wh yP tE gJ _=>?_);refine FA ?_;have B4:=ah B3 gJ;have J4:=aa (J3.out.later gJ);have iP:=aa (HX.out.later gJ);have eU:=aa tE;have e0:=bo d0 gJ;have e1:=bo d1 gJ;clear d0 d1 gJ J3 HX B3 BZ tE yP eM;have eM:=aQ e0;go_upto_region 10 with(fail);refine bh [15,16,17] [⟨14,8,ei,29⟩] (by kernel_rfl) ?_;refine FQ (Below.refl _ _) [0,1,2,3,4,5,6,7,8] ?_;refine FC 9 (cr bN) (Below.refl _ _) (fun wy hwy=>(sK (J4.out.later hwy) HNm.out (iP.out.later hwy) jf.out jE.out (8*bq x) (Nat.le_refl _)).mono ?_);rw[jF.out];rintro e wz ⟨hbz,rfl,hv⟩;refine⟨hbz,?_⟩;have BZ:=aa (bb hwy hbz);clear hbz hwy hv;rw[yW.out];dsimp only[bU];refine FS (cr bN) BZ.out [10,11,12,13] ?_;refine fU 15 (by kernel_rfl) bN (by kernel_rfl) BZ.out rfl rfl rfl rfl (fun _=>rfl) (fun _=>rfl) info29 rfl (ig ⟨t,v,i⟩) (fun b2 Wi yR tF iR _=>?_);refine FA ?_;have B5:=ah B4 iR;have J5:=aa (J4.out.later iR);have eU:=aa (eU.out.grow iR);have tG:=aa tF;have d0:=bo e0 iR;have d1:=bo e1 iR;clear e0 e1 iR J4 iP B4 BZ tF yR eM;have eM:=aQ d0;have HG:Hid (xc r1=0→eb ⟨t,v,i⟩∧aJ worldT t≠0∧(v≠.none→(bH worldT t=true→∃n,aR v=some n∧(rangeT worldT t).1≤n∧n≤(rangeT worldT t).2.1)∧(aJ worldT t=13→∃b,v=.bits b))):=aa (fun h0=>by
  have hrr:=HRR.out;have hjj:=yW.out;cases r1 with
  |error q=>exact absurd h0 (sF _ _ _ _ jF.out)
  |ok j=>
   cases hjj;exact⟨hrr,adF jF.out,fun hv=>aaI hrr.1 hv⟩)
 clear HRR yW jF;generalize xc r1=c at *;generalize(xp r1).1=p1 at *;generalize(xp r1).2=p2 at *;clear r1;have f1:=HS.out.1;have f2:=HS.out.2;have y1:=eU.out.cell;have y2:=tG.out.cell;have kY:=eU.out.lt;have Wq:=tG.out.lt;have HLk:=aa (fun w=>SS v yU.out w);go_upto_region 11 with(fail);refine bh [] [] (by kernel_rfl) ?_;refine FQ (Below.refl _ _) [0,1,2,3,4,5,6,7,8,9,10,11,12,13,14,15,16,17,18,19,20,21,22,23,24,26,27] ?_;refine FC 25 aG (Below.refl _ _) (fun wy hwy=>(HLk.out _).mono ?_);rintro e wz ⟨rfl,hbz⟩;refine⟨hbz,?_⟩;have C1:=aa (bb hwy hbz);clear hbz hwy;refine FC 28 aG C1.out (fun wy hwy=>(HLk.out _).mono ?_);rintro e wz2 ⟨rfl,hbz⟩;refine⟨hbz,?_⟩;have C2:=aa (bb C1.out (bb hwy hbz));clear hbz hwy;refine FS aG C2.out [29,30] ?_;refine cV 31 (by kernel_rfl) (by kernel_rfl) C2.out (fun wr hwr=>?_);refine FA ?_;have aD:=bb C2.out hwr;have B6:=ah B5 aD;have J6:=aa (J5.out.later aD);have eU:=aa (eU.out.grow aD);have e0:=bo d0 aD;have e1:=bo d1 aD;clear d0 d1 y1 y2 kY Wq aD hwr C1 C2 B5 J5 tG eM f1 f2;have eM:=aQ e0;have y1:=eU.out.cell;have kY:=eU.out.lt;by_cases hc:c=0;case neg=>
  have fn:=FN.out hc;have hcb:(c != 0)=true:=bne_iff_ne.2 hc;clear HG HS;go_wp2_with fail;refine(HW.out _ B6.out).mono ?_;rintro e wf ⟨rfl,hbf⟩;go_wp2_with fail;go_ret;exact⟨rfl,bb B6.out hbf⟩
 obtain⟨hg,kX,hask⟩:=HG.out hc;subst hc;have HA:=aa hask;have HGd:=aa hg;have hkb:(aJ worldT t==0)=false:=beq_eq_false_iff_ne.2 kX;clear HG HS FN hg hask kX;go_upto_region 15 with(fail);go_cut [111] (fun u w'=>u=.bool false∧Below wr.heap.size wr w');case first=>
  have hk:((aF worldT t).kind==0)=false:=hkb;have HJ:=aa (fun wy (h:Below wr.heap.size wr wy)=>nO (J6.out.later h).tab t);clear hkb;by_cases hi:i=0
  ·subst hi;exact SX
  ·have hv:=HGd.out.2 hi;dsimp only at hv;subst hv;have hib:(i != 0)=true:=bne_iff_ne.2 hi;exact SX
 case rest=>
 obtain⟨rfl,hbc⟩:=hcut;have B7:=ah B6 hbc;have J7:=aa (J6.out.later hbc);have eU:=aa (eU.out.grow hbc);have d0:=bo e0 hbc;have d1:=bo e1 hbc;clear e0 e1 hbc y1 kY B6 J6 eM;have eM:=aQ d0;have y1:=eU.out.cell;have kY:=eU.out.lt;go_wp2_with fail;refine(HLk.out _).mono ?_;rintro e w8 ⟨rfl,aB⟩;obtain⟨l,hl⟩:∃l,pO v=l:=⟨_,rfl⟩;rw[hl];have HL:=aa hl;clear hl;obtain⟨so,n,st,tt⟩:=l;dsimp only[fa];go_upto_region 18 with(fail);generalize nw:w8.alloc _=w9;obtain⟨br,x9,oJ⟩:=made nw;have iA:=bb aB br;have B9:=ah B7 iA;have J9:=aa (J7.out.later iA);have eU:=aa (eU.out.grow iA);have X9:=aa x9;have e0:=bo d0 iA;have e1:=bo d1 iA;clear d0 d1 aB br iA nw oJ x9 y1 kY B7 J7 eM;have eM:=aQ e0;have y1:=eU.out.cell;have kY:=eU.out.lt;have z9:=X9.out.cell;have qg:=X9.out.lt;obtain⟨⟨lo,hi,od⟩,hr⟩:∃r,rangeT worldT t=r:=⟨_,rfl⟩;have HR:=aa hr;have HRA:=aa (fun wy (h:Below w9.heap.size w9 wy)=>uA (J9.out.later h).tab t);rw[hr]at HRA;clear hr;refine bh [11,12,13] [] (by kernel_rfl) ?_;refine FQ (Below.refl _ _) [0,1,2,3,4,5] ?_;refine FC 6 aG (Below.refl _ _) (fun wy hwy=>(HRA.out _ hwy).mono ?_);rintro e wz ⟨rfl,hbz⟩;refine⟨hbz,?_⟩;have C1:=aa (bb hwy hbz);clear hbz hwy HRA;refine FS aG C1.out [7,8,9,10] ?_;refine cV 11 (by kernel_rfl) (by kernel_rfl) C1.out (fun wt hwt=>?_);refine FA ?_;have hbt:=bb C1.out hwt;have BT:=ah B9 hbt;have JT:=aa (J9.out.later hbt);have eU:=aa (eU.out.grow hbt);have X9:=aa (X9.out.grow hbt);have d0:=bo e0 hbt;have d1:=bo e1 hbt;clear e0 e1 hbt hwt C1 y1 kY z9 qg B9 J9 eM;have eM:=aQ d0;have y1:=eU.out.cell;have kY:=eU.out.lt;have z9:=X9.out.cell;have qg:=X9.out.lt;have HG:=aa (fun wy (h:Below wt.heap.size wt wy)=>nO (JT.out.later h).tab t);by_cases hv:v=.none
 ·subst hv;by_cases hk:(aF worldT t).kind=13
  ·have h13:((aF worldT t).kind != 13)=false:=bne_eq_false_iff_eq.2 hk;exact SY
  ·have h13:((aF worldT t).kind != 13)=true:=bne_iff_ne.2 hk;have h13b:((aF worldT t).kind==13)=false:=beq_eq_false_iff_ne.2 hk;exact SY
 have hnv:∀w,(binOp .neq 20 (aK v) .nilIface).run Tryz.prog w=.ok (.bool true) w:=fun w=>by rw[adI,SW hv];rfl
 have hev:∀w,(binOp .eql 20 (aK v) .nilIface).run Tryz.prog w=.ok (.bool false) w:=fun w=>by rw[adJ,SW hv]
 obtain⟨HO,HB⟩:=HA.out hv;cases od;case false=>
  by_cases hk:(aF worldT t).kind=13
  ·have h13:((aF worldT t).kind != 13)=false:=bne_eq_false_iff_eq.2 hk;obtain⟨b,rfl⟩:=HB hk;have hl:=HL.out;have hso:so=4:=by
    have:(pO (.bits b)).sort=so:=by rw[hl]
    exact this.symm
   subst hso;clear hk HO HB hl;exact Ta
  ·have h13:((aF worldT t).kind != 13)=true:=bne_iff_ne.2 hk;have h13b:((aF worldT t).kind==13)=false:=beq_eq_false_iff_ne.2 hk;clear hk HO HB;exact Ta
 case true=>
  have hor:bH worldT t=true:=adG (by rw[HR.out]);obtain⟨n0,pY,hlo,hhi⟩:=HO hor;rw[HR.out]at hlo hhi;dsimp only at hlo hhi;have hnl:=adH yU.out pY;rw[HL.out]at hnl;obtain⟨hha,hnu⟩:=hnl;have HN:=aa (fun w=>adL ⟨so,n,st,tt⟩ w);have HH:=aa (fun w=>Tc ⟨so,n,st,tt⟩ w);rw[hnu]at HN;rw[hha]at HH;dsimp only[fa]at HN HH;clear HO HB pY hor hha hnu HL HR HA;go_wp2_with fail;refine(HN.out _).mono ?_;rintro e w10 ⟨rfl,cN⟩;have B10:=ah BT cN;have X9:=aa (X9.out.grow cN);clear cN z9 qg y1 kY eU BT JT;have z9:=X9.out.cell;have qg:=X9.out.lt;go_wp2_with fail;refine(HH.out _).mono ?_;rintro e w11 ⟨rfl,fj⟩;have B11:=ah B10 fj;clear fj z9 qg X9;go_wp2_with fail;refine(HW.out _ B11.out).mono ?_;rintro e w12 ⟨rfl,fH⟩;go_wp2_with fail;go_ret;exact⟨rfl,bb B11.out fH⟩
end Go.Proofs.YtlpombjidhloiaaGreat
