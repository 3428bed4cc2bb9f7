/- Rows of proofs that stand in several places. Condition: what each theorem says. -/
import Derived.Test.YtlpombjidhloiaaGreatRows
import Derived.WalkKit
import Derived.WalkSpells
import Derived.WalkLawsBesides
import Derived.Deep.QuietTactic
import Derived.BigQuiet
import Derived.Lib.Hide
import Derived.Deep.Cut
namespace Go.Proofs
variable {A:Prop}
theorem my(h:A:=by
 have bf:=aa (show r=(.truth (decide (0≤n)&&decide (n<16)&&s.testBit n.toNat),0)from aM.out);dsimp only[Option.getD,Option.isSome];by_cases pY:0≤n;case neg=>
  have bz:=aa (show r=(.truth false,0)by rw[bf.out,decide_eq_false pY];rfl);go_wp2_with fail;go_ret2;rw[bz.out];exact⟨rfl,bT.out⟩
 by_cases rC:n<16;case neg=>
  have bz:=aa (show r=(.truth false,0)by rw[bf.out,decide_eq_false rC,Bool.and_false];rfl);go_wp2_with fail;go_ret2;rw[bz.out];exact⟨rfl,bT.out⟩
 have bz:=aa (show r=(.truth (s.testBit n.toNat),0)by rw[bf.out,decide_eq_true pY,decide_eq_true rC];rfl);have hand:=Gw n;rw[show n% 16=n by omega]at hand;go_wp2_with fail;go_ret2;rw[bz.out,ZQ HB.out];exact⟨rfl,bT.out⟩):A:=h
theorem ml(h:A:=by
 clear cD bY cO dw;cases q1;case true=>
  go_wp2_with fail;go_meet;exact⟨rfl,rfl⟩
 cases q2;case true=>
  go_wp2_with fail;go_meet;exact⟨rfl,rfl⟩
 cases q3;case true=>
  go_wp2_with fail;go_meet;exact⟨rfl,rfl⟩
 cases q4;case true=>
  go_wp2_with fail;go_meet;exact⟨rfl,rfl⟩
 by_cases h5:op=bB
 ·subst h5;dsimp only[bB];go_wp2_with fail;go_meet;exact⟨rfl,rfl⟩
 ·have HD:=aa (show decide (op=bB)=false from decide_eq_false h5);have d7:¬op=[73,78]:=h5;clear h5;go_wp2_with fail;go_meet;exact⟨by rw[HD.out];first|rfl|simp[d7],rfl⟩):A:=h
theorem mj(h:A:=by
 clear l3;by_cases h1:op=bQ
 ·subst h1;dsimp only[bQ];go_wp2_with fail;go_meet;exact⟨rfl,rfl⟩
 by_cases h2:op=bR
 ·subst h2;dsimp only[bR];go_wp2_with fail;go_meet;exact⟨rfl,rfl⟩
 ·have HD:=aa (show decide (op=bQ∨op=bR)=false from decide_eq_false (by simp[h1,h2]));have d1:¬op=[65,78,68]:=h1;have d2:¬op=[79,82]:=h2;clear h1 h2;go_wp2_with fail;go_meet;exact⟨by rw[HD.out];simp[d1,d2],rfl⟩):A:=h
theorem py(h:A:=by
 go_wp2_with fail;go_meet;exact⟨rfl,rfl⟩):A:=h
theorem GG(h:A:=by
 have HG:=aa (show Below w.heap.size w ((w.alloc (.cells #[.int .i64 0,.int .i64 0] 105)).alloc (.cells #[.func (.func 180) #[] #[],.func (.func 181) #[] #[],.func (.func 182) #[] #[],.func (.func 183) #[] #[]] 222))from(cB w _).trans ((cB _ _).mono (cB w _).size));go_enter Tryz.func143,Tryz.ntmps143;go_wp2_with fail;refine wp_loop_rounds 6 ?_;rw[rounds_succ];go_wp2_with fail;refine(uE _ _).mono ?_;rintro e w0 ⟨rfl,rfl⟩;go_wp2_with fail;rw[rounds_succ];go_wp2_with fail;refine(wS _ _).mono ?_;rintro e w1 ⟨rfl,rfl⟩;go_wp2_with fail;rw[rounds_succ];go_wp2_with fail;refine(Bu _ _).mono ?_;rintro e w2 ⟨rfl,rfl⟩;go_wp2_with fail;rw[rounds_succ];go_wp2_with fail;refine(GE _ _).mono ?_;rintro e w4 ⟨rfl,aw⟩;have cd:=aa (HG.out.trans (aw.mono HG.out.size));clear aw;go_wp2_with fail;rw[rounds_succ];go_wp2_with fail;go_ret;exact⟨by rw[HE.out];rfl,cd.out⟩):A:=h
theorem mr(h:A:=by
 have aA:=aa (show r=(.none,100)by rw[ar.out];unfold fg;rw[IA.out,ib];rfl);clear ar ib;go_wp2_with fail;go_ret2;rw[aA.out];exact⟨rfl,bc.out⟩):A:=h
theorem fD(h:A:=by
 go_wp2_with fail;go_ret2;rw[bz.out];exact⟨rfl,(bb gY.out (cB _ _))⟩):A:=h
theorem mq(h:A:=by
 have aA:=aa (show r=(.none,100)by rw[ar.out];unfold fg;rw[ia];rfl);clear ar ia;go_wp2_with fail;go_ret2;rw[aA.out];exact⟨rfl,cd.out⟩):A:=h
theorem mw(h:A:=by
 have bf:=aa (show r=(.none,100)from aM.out);dsimp only[Option.getD,Option.isSome];go_wp2_with fail;go_ret2;rw[bf.out];exact⟨rfl,bT.out⟩):A:=h
theorem AX(h:A:=by
 obtain⟨t3,v3,i3⟩:=j3;rw[eL]at hfd;have HFE:=aa hfd;have HVX:=aa (HVY.out.trans eL);clear hfd eL HVY;go_wp2_with fail;refine(HFE.out _ (Below.refl _ _)).mono ?_;rintro e we ⟨hbe,rfl,hvw⟩;have JU:=aa (show Vw v3 from hvw);have Be:=ah Bd hbe;have X2:=aa (X2.out.grow hbe);clear hbe;have z2:=X2.out.cell;have f2:=X2.out.frozen;have l2:=X2.out.lt;clear hvw;dsimp only[bU];go_wp2_with fail;exact ef rfl ⟨t3,v3,i3⟩ X2.out Be.out (by omega) rfl rfl HVX.out JU.out):A:=h
theorem xk(h:A:=by
 simp only[List.nil_append,Nat.zero_add]at cf;obtain⟨A,c9,rfl⟩:=jG cf.own;have HR:=aa cf.own;have HB:=aa (cf.below (cB w _) (by simp) ⟨rfl,.inr ⟨w.heap.size,0,#[],rfl,Nat.le_refl _,heap_alloc_new _ _,Nat.le_refl _,Nat.zero_le _,rfl,rfl⟩⟩ (Nat.le_refl _));clear cf;go_wp2_with fail;go_ret;exact⟨A,c9,rfl,HR.out,HB.out⟩):A:=h
theorem qQ(h:A:=by
 go_wp2_with fail;refine(HAL.out _).mono ?_;rintro e w8 ⟨rfl,aB⟩;have gY:=ah cA aB;have qa:=ah iz aB;clear aB HAL;rw[hal];clear hal;go_wp2_with fail;go_ret2;rw[bf.out];exact⟨rfl,gY.out⟩):A:=h
theorem mz(h:A:=by
 have bf:=aa (show r=(.none,100)by rw[aM.out];cases na<;>rfl);go_wp2_with fail;go_ret2;rw[bf.out];exact⟨rfl,bT.out⟩):A:=h
theorem Hs(h:A:=by
 have gI:kk≤s.length:=hkk;have X2:=aa (HX.out.grow af);have B2:=aa (HB.out.trans (af.mono HB.out.size));have HQ:=aa hq;have z2:=X2.out.cell;have f2:=X2.out.frozen;have l2:=X2.out.lt;clear af hq hk hne;cases q
 ·go_wp2_with fail;exact nf (k:=0) (t:=[]) (n:=0) (m:=0) (c:=41) rfl ((ng X2.out 0 [] 0).grow (dq _ _)) (Cq (nh B2.out (Nat.le_refl _))) rfl rfl rfl rfl (fun h=>absurd h (by decide))
 ·go_wp2_with fail;exact nf (k:=k) (t:=[]) (n:=n) (m:=kk) (c:=0) rfl ((ng X2.out k [] n).grow (dq _ _)) (Cq (nh B2.out (Nat.le_refl _))) rfl rfl rfl rfl (fun _=>⟨qd,gI,HQ.out trivial⟩)):A:=h
theorem Ov(h:A:=by
 refine FQ C8.out [9] ?_;refine FC 13 aG C8.out (fun w4 ab=>(HNa.out _ ((H.out.later B6.out).later (bb C8.out ab)).tab).mono ?_);rintro e w9 ⟨rfl,br⟩;refine⟨br,?_⟩;have C9:=aa (bb C8.out (bb ab br));have Y1:=aa (X6.out.grow C9.out);have z1:=Y1.out.cell;have l1:=Y1.out.lt;clear br ab C8;cases na;case true=>
  refine FS aG C9.out [14,17,15,16] ?_;refine FC 18 aG C9.out (fun w4 ab=>(HNb.out _ ((H.out.later B6.out).later (bb C9.out ab)).tab).mono ?_);rintro e w10 ⟨rfl,cN⟩;refine⟨cN,?_⟩;have C10:=aa (bb C9.out (bb ab cN));clear cN ab C9;refine FQ C10.out [19,22,23,24,25] ?_;refine FS aG C10.out [26,27] ?_;refine cV 28 (by kernel_rfl) (by kernel_rfl) C10.out (fun wq hwq=>?_);refine FA ?_;go_wp2_with fail;go_meet;exact⟨by rw[←HOO.out];rfl,by rw[←HNN.out];rfl,by rw[←HSS.out];simp[h13],bb C10.out hwq⟩
 case false=>
  refine FS aG C9.out [14,17,15,16] ?_;refine FN 18 aG C9.out ?_;refine FQ C9.out [19,22,23,24,25] ?_;refine FS aG C9.out [26,27] ?_;refine cV 28 (by kernel_rfl) (by kernel_rfl) C9.out (fun wq hwq=>?_);refine FA ?_;go_wp2_with fail;go_meet;exact⟨by rw[←HOO.out];rfl,by rw[←HNN.out];rfl,by rw[←HSS.out];simp[h13],bb C9.out hwq⟩):A:=h
theorem Ou(h:A:=by
 refine FQ C8.out [9] ?_;refine FC 13 aG C8.out (fun w4 ab=>(HNa.out _ ((H.out.later B6.out).later (bb C8.out ab)).tab).mono ?_);rintro e w9 ⟨rfl,br⟩;refine⟨br,?_⟩;have C9:=aa (bb C8.out (bb ab br));have Y1:=aa (X6.out.grow C9.out);have z1:=Y1.out.cell;have l1:=Y1.out.lt;clear br ab C8;cases na;case true=>
  refine FS aG C9.out [14,17,15,16] ?_;refine FC 18 aG C9.out (fun w4 ab=>(HNb.out _ ((H.out.later B6.out).later (bb C9.out ab)).tab).mono ?_);rintro e w10 ⟨rfl,cN⟩;refine⟨cN,?_⟩;have C10:=aa (bb C9.out (bb ab cN));clear cN ab C9;refine FQ C10.out [19,22,23,24,25] ?_;refine FS aG C10.out [26,27] ?_;refine cV 28 (by kernel_rfl) (by kernel_rfl) C10.out (fun wq hwq=>?_);refine FA ?_;go_wp2_with fail;go_meet;exact⟨by rw[←HOO.out];rfl,by rw[←HNN.out];rfl,by rw[←HSS.out];rfl,bb C10.out hwq⟩
 case false=>
  refine FS aG C9.out [14,17,15,16] ?_;refine FN 18 aG C9.out ?_;refine FQ C9.out [19,22,23,24,25] ?_;refine FS aG C9.out [26,27] ?_;refine cV 28 (by kernel_rfl) (by kernel_rfl) C9.out (fun wq hwq=>?_);refine FA ?_;go_wp2_with fail;go_meet;exact⟨by rw[←HOO.out];rfl,by rw[←HNN.out];rfl,by rw[←HSS.out];rfl,bb C9.out hwq⟩):A:=h
theorem mn(h:A:=by
 have ar:=aa (show r=(.none,103)from aq.out);go_wp2_with fail;go_ret2;rw[ar.out];exact⟨rfl,bD.out⟩):A:=h
theorem RJ(h:A:=by
 obtain⟨kk,hkk,hgk,rfl,hb⟩:=hrel;have HE:=aa (fun x=>aV.out.trans ((hb.trans ((lO wr x).mono hb.size)).mono aV.out.size));have yD:=aa (aV.out.trans (hb.mono aV.out.size));have HF:=aa (fun x=>hb.trans ((lO wr x).mono hb.size));by_cases hlt:kk<ops.length
 ·have hltz:(kk:Int)<(ops.length:Int):=by omega
  obtain⟨u,hu⟩:∃u,ops[kk]? =some u:=⟨ops[kk],by simp⟩;obtain⟨b,o,c',hA,hc,hbl,hcell⟩:=(R2.out.later hb).at_ (k:=kk) (u:=fm u) (by simp[hu]);cases hA;have X3:=aa (X2.out.grow hb);have y3:=X3.out.cell;have l3:=X3.out.lt;clear hb hu;go_wp2_with fail;refine mQ (by kernel_rfl) (by kernel_rfl) ?_;repeat go_big_quiet_step (fail)
  refine wpQuiet_nil ?_;rintro wz ⟨x9,rfl⟩;go_wp2_with fail
  ·go_ret;exact⟨⟨_,rfl,fun _=>⟨rfl,HK.out⟩⟩,HE.out _⟩
  ·go_roundg (gk-1)
   case measure=>omega
   exact⟨kk+1,by omega,by omega,rfl,HF.out _⟩
 ·go_wp2_with fail;go_ret;exact⟨⟨_,rfl,fun h=>by cases h⟩,yD.out⟩):A:=h
theorem SY(h:A:=by
 clear hk;cases od<;>(
  go_upto_region 22 with(fail);refine bh [22] [] (by kernel_rfl) ?_;refine FQ (Below.refl _ _) [0,1,2,3,4,5] ?_;refine FC 6 aG (Below.refl _ _) (fun wy hwy=>(HG.out _ hwy).mono ?_);rintro e wz ⟨s4,rfl,_,hbz⟩;refine⟨hbz,?_⟩;dsimp only[bX];have C1:=aa (bb hwy hbz);clear hbz hwy y1 kY z9 qg;have XQ:=aa (eU.out.grow C1.out);have y1:=XQ.out.cell;have kY:=XQ.out.lt;have XR:=aa (X9.out.grow C1.out);have z9:=XR.out.cell;have qg:=XR.out.lt;refine FS aG C1.out [7,8,9,10,11,12,13,14,15,16,17,18,19] ?_;refine FC 20 aG C1.out (fun wy hwy=>(HW.out _ (bb BT.out (bb C1.out hwy))).mono ?_);rintro e Wr ⟨rfl,hbz⟩;refine⟨hbz,?_⟩;have C3:=aa (bb C1.out (bb hwy hbz));clear hbz hwy;refine FS aG C3.out [21] ?_;refine cV 22 (by kernel_rfl) (by kernel_rfl) C3.out (fun wr3 hwr=>?_);refine FA ?_;have B12:=aa (bb BT.out (bb C3.out hwr));go_wp2_with fail;go_ret;exact⟨rfl,B12.out⟩)):A:=h
theorem pD(h:A:=by
 go_wp2_with fail;refine bJ.out.mono ?_;rintro e w8 ⟨aB,rfl,_⟩;go_wp2_with fail;go_ret;exact⟨bb B6.out aB,rfl,trivial⟩):A:=h
theorem pC(h:A:=by
 obtain⟨p,cc⟩:=q;go_wp2_with fail;refine bJ.out.mono ?_;rintro e w8 ⟨aB,rfl⟩;exact bj rfl (bb B6.out aB) rfl):A:=h
theorem Ta(h:A:=by
 go_upto_region 22 with(fail);refine bh [22] [] (by kernel_rfl) ?_;refine FQ (Below.refl _ _) [0,1,2,3,4,5] ?_;refine FC 6 aG (Below.refl _ _) (fun wy hwy=>(HG.out _ hwy).mono ?_);rintro e wz ⟨s4,rfl,_,hbz⟩;refine⟨hbz,?_⟩;dsimp only[bX];have C1:=aa (bb hwy hbz);clear hbz hwy y1 kY z9 qg;have XQ:=aa (eU.out.grow C1.out);have y1:=XQ.out.cell;have kY:=XQ.out.lt;have XR:=aa (X9.out.grow C1.out);have z9:=XR.out.cell;have qg:=XR.out.lt;refine FS aG C1.out [7,8,9,10,11,12,13,14,15,16,17,18,19] ?_;refine FC 20 aG C1.out (fun wy hwy=>(HW.out _ (bb BT.out (bb C1.out hwy))).mono ?_);rintro e Wr ⟨rfl,hbz⟩;refine⟨hbz,?_⟩;have C3:=aa (bb C1.out (bb hwy hbz));clear hbz hwy;refine FS aG C3.out [21] ?_;refine cV 22 (by kernel_rfl) (by kernel_rfl) C3.out (fun wr3 hwr=>?_);refine FA ?_;have B12:=aa (bb BT.out (bb C3.out hwr));go_wp2_with fail;go_ret;exact⟨rfl,B12.out⟩):A:=h
theorem kj(h:A:=by
 clear aq;go_wp2_with fail;go_ret;exact⟨by rw[ar.out];rfl,Bc.out⟩):A:=h
theorem BY(h:A:=by
 have HB:=aa (fun cs=>cB w (.cells cs 47));clear h3 h2;go_enter Tryz.func39,Tryz.ntmps39;go_wp2_with fail;refine bodyPost_ret (results_cell_row rfl _ _ w.heap.size _ _ (0,0) _ rfl (heap_alloc_new _ _) Tryz.underlying47 rfl ?_) rfl ?_
 ·exact info47
 rw[HE.out];exact⟨QC,rfl,abB _,HB.out _⟩):A:=h
theorem RN(h:A:=by
 refine⟨by simp[h.len],fun i u y hu hy=>?_,fun y hy=>?_,fun y hy=>?_⟩
 ·rcases Nat.lt_or_ge i bs.length with hi|hi
  ·rw[List.getElem?_append_left hi]at hu;rw[List.getElem?_append_left (by rw[←h.len];exact hi)]at hy;exact h.at_ i u y hu hy
  ·rw[List.getElem?_append_right hi]at hu;rw[List.getElem?_append_right (by rw[←h.len];exact hi),←h.len]at hy;have h0:i-bs.length=0:=by
    rcases Nat.eq_zero_or_pos (i-bs.length)with e|e
    ·exact e
    ·rw[List.getElem?_eq_none (by simp;omega)]at hu;cases hu
   rw[h0]at hu hy;cases hu;cases hy;exact h1
 ·rcases List.mem_append.1 hy with hy|hy
  ·exact h.tk y hy
  ·rw[List.mem_singleton.1 hy];exact h2
 ·rcases List.mem_append.1 hy with hy|hy
  ·exact h.few y hy
  ·rw[List.mem_singleton.1 hy];exact h3):A:=h
theorem RH(h:A:=by
 go_wp2_with fail;refine HN.out.mono ?_;rintro e w1 ⟨⟨q,rfl,hq⟩,ae⟩;have H1:=aa (H.out.only ae);have aO:=aa ae;have hlt:=H1.out.box.lt;clear ae;cases q
 ·go_wp2_with fail;go_ret;exact .inl ⟨rfl,H1.out,.of aO.out⟩
 ·obtain⟨rfl,hk⟩:=hq rfl;have HK:=aa hk;have hi:=(ni HP.out hk).1;have hf:=HP.out.few;have z1:=H1.out.box.cell 1;have f1:=H1.out.box.frozen 1;have HW:=aa (show wrap64 ((i:Int)+1)=((i+1:Nat):Int)by rw[Go.IntWalk.wrap64_in _ (by omega)];omega);clear hk;go_wp2_with fail;go_ret;exact .inr ⟨rfl,⟨H1.out.below.setCell (Nat.le_refl _) _,H1.out.box.set 1 _,hi⟩,rfl,HK.out,(aX.of aO.out).set (p:=⟨w0.heap.size,1,none⟩) (.inl rfl) _⟩):A:=h
theorem AW(h:A:=by
 obtain⟨p,c⟩:=q;rw[eL]at hfd;have HFE:=aa hfd;have HVX:=aa (HVY.out.trans eL);clear hfd eL HVY;go_wp2_with fail;refine(HFE.out _ (Below.refl _ _)).mono ?_;rintro e we ⟨hbe,rfl⟩;exact bj HVX.out (bb Bd.out hbe) rfl):A:=h
theorem RF(h:A:=by
 go_wp2_with fail;refine HN.out.mono ?_;rintro e w1 ⟨⟨x,y,rfl⟩,ae⟩;have aO:=aa ae;have X1:=aa (X0.out.grow ae);have z2:=X1.out.cell 2;have hlt:=X1.out.lt;clear ae;generalize ht:bL L i=t;obtain⟨tk,tp,tt,tn⟩:=t;have HT:=aa ht;clear ht;cases bad
 ·go_wp2_with fail
  ·go_ret;exact⟨⟨_,rfl,fun _=>⟨rfl,by rw[HT.out];show tk≠0;omega⟩⟩,aO.out.trans ((dq _ _).mono aO.out.size)⟩
  ·go_ret;exact⟨⟨_,rfl,fun h=>by cases h⟩,aO.out.trans ((dq _ _).mono aO.out.size)⟩
 ·go_wp2_with fail;go_ret;exact⟨⟨_,rfl,fun h=>by cases h⟩,aO.out.trans ((dq _ _).mono aO.out.size)⟩):A:=h
theorem xn(h:A:=by
 exact nf (k:=0) (t:=[]) (n:=0) (m:=0) (c:=42) rfl (ng HX.out 0 [] 0) (nh HB.out (Nat.le_refl _)) rfl rfl rfl rfl (fun h=>absurd h (by decide))):A:=h
theorem iW(h:A:=by
 go_wp2_with fail;go_ret;exact⟨rfl,rfl⟩):A:=h
theorem OF(h:A:=by
 have hv:=HV.out;simp only[hr,dc]at hv;rw[hr]at hC;have bJ:=aa hC;have aq:=aa hv;clear hr HV hv hC HC;go_upto_region 1 with(fail);refine bh [] [] (by kernel_rfl) ?_;refine FQ (Below.refl _ _) [0,1,2,3] ?_;refine FC 4 aG (Below.refl _ _) (fun w4 ab=>(bJ.out _ (bb B1.out ab)).mono ?_);rintro e w3 ⟨ad,rfl,hvw⟩;refine⟨ad,?_⟩;have C3:=aa (bb ab ad);clear ad ab;refine cV 5 (by kernel_rfl) (by kernel_rfl) C3.out (fun wr hwr=>?_);refine FA ?_;go_wp2_with fail;go_ret;rw[aq.out];exact⟨bb (bb B1.out C3.out) hwr,rfl,trivial⟩):A:=h
theorem CS(h:A:=by
 go_wp2_with (go_at_call 216;refine(ad4 _).mono ?_;rintro e w6 ⟨rfl,rfl⟩);go_ret2;exact⟨rfl,H5.out,eA.of B5.out,by show(0:Int)≤1;decide,by show(1:Int)≤32767;decide⟩):A:=h
theorem Ct(h:A:=by
 exact nf (k:=4) (t:=_) (n:=0) (m:=kk+1) (c:=0) rfl (ng HX.out 4 _ 0) (nh HB.out (Nat.le_refl _)) rfl rfl rfl rfl (fun _=>⟨by omega,hlt,fun h=>absurd h (by decide)⟩)):A:=h
theorem RA(h:A:=by
 have z2:=X2.out.cell;have f2:=X2.out.frozen;have l2:=X2.out.lt;clear af;cases q
 ·go_wp2_with fail;exact nf (k:=1) (t:=s.take kk) (n:=0) (m:=kk) (c:=0) rfl (ng X2.out 1 (s.take kk) 0) (nh B2.out (Nat.le_refl _)) rfl rfl rfl rfl (fun _=>⟨mE,hkk,fun h=>absurd h (by decide)⟩)
 ·go_wp2_with fail;exact nf (k:=6) (t:=s.take kk) (n:=0) (m:=kk) (c:=0) rfl (ng X2.out 6 (s.take kk) 0) (nh B2.out (Nat.le_refl _)) rfl rfl rfl rfl (fun _=>⟨mE,hkk,fun h=>absurd h (by decide)⟩)):A:=h
theorem SX(h:A:=by
 refine bh [] [] (by kernel_rfl) ?_;refine FQ (Below.refl _ _) [0,1,2,3,4,5,6,7,8,9,10,11,12,13,14] ?_;refine FC 15 aG (Below.refl _ _) (fun wy hwy=>(HJ.out _ hwy).mono ?_);rintro e wz ⟨s,rfl,_,hbz⟩;refine⟨hbz,?_⟩;dsimp only[bX];have C1:=aa (bb hwy hbz);clear hbz hwy;refine FS aG C1.out [16,17,18] ?_;refine cV 19 (by kernel_rfl) (by kernel_rfl) C1.out (fun wq hwq=>?_);refine FA ?_;have C2:=ah C1 hwq;go_wp2_with fail;go_meet;exact⟨rfl,C2.out⟩):A:=h
theorem zU(h:A:=by
 have:=MG (ops:=ops) (md:=md) (i:=i) (j:=j) (listed:=listed) (fun oj' h'=>by rw[hoj]at h';cases h';exact⟨e,he,hb,heq⟩) hr;exact this hj):A:=h
theorem RI(h:A:=by
 go_ret;exact⟨⟨_,rfl,fun h=>by cases h⟩,aO.out.trans ((dq _ _).mono aO.out.size)⟩):A:=h
theorem Cu(h:A:=by
 rcases HE.out with h|⟨h,h2⟩
 ·exact h
 ·have h3:=HDD.out;rw[List.getElem?_eq_getElem h]at h3;rw[Option.some.inj h3,Kl]at h2;cases h2):A:=h
theorem uF(h:A:=by
 go_enter Tryz.func114,Tryz.ntmps114;go_wp2_with fail;go_ret;exact⟨by rw[HR.out];rfl,rfl⟩):A:=h
theorem Pe(h:A:=by
 have aq:=aa (show r=.error (x.pos,255)by
  rw[HV.out];rcases wQ HS.out.1 HS.out.2 with h|h|h|h|h|h|h|h|h|h|h|h|h|h|h|h|h|h|h|h|h|h|h<;>subst h
  all_goals first|exact absurd (by decide) HP.out|exact absurd rfl HN.out|(rw[stdCallJ.eq_2];rfl))
 go_wp2_with fail;refine(eg dV.out 255).mono ?_;rintro e wq ⟨rfl,rfl⟩;exact bj aq.out B6.out rfl):A:=h
theorem px(h:A:=by
 go_wp2_with fail;go_ret;exact⟨by rw[HV.out];rfl,rfl⟩):A:=h
theorem Rd(h:A:=by
 obtain⟨t,v,i⟩:=j;have aq:=aa (show r=(aI (decide (aJ T t≠0)) x 252 >>= fun _=>.ok ⟨t,v,i⟩)from HV.out);go_wp2_with fail;refine(HCA.out _ (Below.refl _ _)).mono ?_;rintro e w5 ⟨au,rfl,hvw⟩;have B5:=aa au;have VW:=aa hvw;clear au hvw;dsimp only[bU,kJ];go_wp2_with fail;go_meet;exact⟨t,v,i,w5.heap.size,rfl,bb B5.out (cB _ _),Bx.new _ _ _,VW.out,aq.out⟩):A:=h
theorem Gv(h:A:=by
 have aq:=aa (show r=.error (x.pos,255)by
  rw[HV.out]
  (rw[stdCallJ.eq_2];rfl))
 go_wp2_with fail;refine(eg pT.out 255).mono ?_;rintro e wq ⟨rfl,rfl⟩;exact bj aq.out B5.out rfl):A:=h
theorem OY(h:A:=by
 refine FS aG C8.out [2,3,4,5,6,7,8,9] ?_;refine FC 13 aG C8.out (fun w4 ab=>(jm rfl (T7.out.later (bb C8.out ab)) 252).mono ?_);rintro e w9 ⟨rfl,rfl⟩;refine⟨Below.refl _ _,?_⟩;refine cV 14 (by kernel_rfl) (by kernel_rfl) (bb C8.out ab) (fun wr hwr=>?_);refine FA ?_;go_wp2_with fail;go_ret;rw[ar.out];exact⟨bb (bb (bb B7.out C8.out) ab) hwr,rfl,trivial⟩):A:=h
theorem Pj(h:A:=by
 obtain⟨p9,c9⟩:=q;have aM:=aa (show r=.error (p9,c9)from by rw[aA.out];rfl);go_upto_region 15 with(fail);refine bh [] [] (by kernel_rfl) ?_;refine FQ (Below.refl _ _) [0,1,2,3,4] ?_;refine FC 5 aG (Below.refl _ _) (fun w4 ab=>(HEa.out _ ab).mono ?_);rintro e wa ⟨hba,rfl⟩;exact bj (fn:=Tryz.f67) aM.out (bb (bb Bb.out ab) hba) rfl):A:=h
theorem Mq(h:A:=by
 have hjm:∃m∈ms,m.idx=j:=by
  have h3:=List.all_eq_true.1 hrf.2 j hj;rw[beq_eq_false_iff_ne.2 hji,Bool.false_or]at h3;obtain⟨m,h4,h5⟩:=List.any_eq_true.1 h3;exact⟨m,h4,by simpa using h5⟩
 exact Mm hf hal hm (hw.trans (hwr.mono hw.size)) hN hj hjm fun fl' hm' wr' hwr' hN' hlt=>ih fl' hm' wr' (hwr.trans (hwr'.mono hwr.size)) hN' (by omega)):A:=h
theorem Ph(h:A:=by
 have h:(n% 16).toNat<16:=by omega
 generalize(n% 16).toNat=k at *;have:k=0∨k=1∨k=2∨k=3∨k=4∨k=5∨k=6∨k=7∨k=8∨k=9∨k=10∨k=11∨k=12∨k=13∨k=14∨k=15:=by omega
 rcases this with rfl|rfl|rfl|rfl|rfl|rfl|rfl|rfl|rfl|rfl|rfl|rfl|rfl|rfl|rfl|rfl<;>decide):A:=h
theorem CM(h:A:=by
 go_wp2_with fail;refine(HW.out _ B4.out).mono ?_;rintro e w5 ⟨rfl,au⟩;go_wp2_with fail;go_ret;exact⟨rfl,bb B4.out au⟩):A:=h
theorem Ib(h:A:=by
 go_wp2_with fail;refine bodyPost_ret (results_cell_row rfl _ _ w.heap.size _ _ (0,0) _ rfl (heap_alloc_new _ _) Tryz.underlying177 rfl ?_) rfl ?_
 ·exact infoTok
 exact⟨rfl,HB.out _⟩):A:=h
theorem xi(h:A:=by
 go_wp2_with fail;go_ret;exact⟨none,0,rfl,World.ownsRow_nil _ _ _ _,Below.refl _ _⟩):A:=h
theorem BW(h:A:=by
 obtain⟨o,h1,h2,h3,h4⟩:=h;exact⟨o,h1,h2,h3,fun ρ w=>by unfold execOp;rw[h4];go_simp;rfl⟩):A:=h
theorem AR(h:A:=by
 go_wp2_with fail;refine(eg gH.out 252).mono ?_;rintro e wq ⟨rfl,rfl⟩;exact bj ar.out B9.out rfl):A:=h
theorem AS(h:A:=by
 go_wp2_with fail;refine(eg fY.out 252).mono ?_;rintro e wq ⟨rfl,rfl⟩;exact bj ar.out B8.out rfl):A:=h
theorem IB(h:A:=by
 clear jF eB dH Ku vu Kv;go_wp2_with fail;refine(HW.out _ B9.out).mono ?_;rintro e wf ⟨rfl,hbf⟩;go_wp2_with fail;go_ret;exact⟨rfl,bb B9.out hbf⟩):A:=h
theorem Sj(h:A:=by
 exact⟨_,i2,eS,rfl,.inr ⟨nb,rfl⟩,h7.only aB,(O6.out.trans gw).then aB,fun e=>absurd (HB.out e) (by decide),fun e=>⟨by have:=(fK e).1;omega,uQ T6.out ((gw.then aB).kf HRT.out) ((fK e).2.mono X6.out.lt) (kT aB) N X7.lt (by decide) HT.out⟩,rfl,_,_,_,X8⟩):A:=h
theorem Iz(h:A:=by
 rw[decide_eq_true hh];go_wp2_with fail;refine(HW.out _ (Below.refl _ _)).mono ?_;rintro e w1 ⟨rfl,ae⟩;go_wp2_with fail;go_ret;exact⟨rfl,ae⟩):A:=h
theorem sL(h:A:=by
 exact CO rfl (heap_alloc_new _ _) (cB _ _) rfl rfl):A:=h
theorem BC(h:A:=by
 refine(GB _ _).mono ?_;rintro e w2 ⟨rfl,rfl⟩;go_wp2_with fail;go_ret2;exact⟨rfl,rfl⟩):A:=h
theorem uM(h:A:=by
 rw[List.getElem?_eq_getElem hlt]at h2;exact Option.some.inj h2):A:=h
theorem Om(h:A:=by
 obtain⟨p,c⟩:=q;have hv:=aA.out;simp only[fG,fV]at hv;have aM:=aa hv;rw[fG]at jc;have sY:=aa jc;clear fG aA hv jc jS;go_wp2_with fail;refine(sY.out _ (Below.refl _ _)).mono ?_;rintro e w10 ⟨cN,rfl⟩;exact bj aM.out (bb B9.out cN) rfl):A:=h
theorem uD(h:A:=by
 go_wp2_with fail;go_ret;exact⟨by rw[HR.out];rfl,HB.out⟩):A:=h
theorem SC(h:A:=by
 cases v<;>simp only[jo,Bool.and_false,Bool.false_and,Bool.false_eq_true,if_false,Bool.and_true]
 rename_i s;generalize(decide (aJ T fr=6)&&decide (aJ T dst=10)&&decide (bP T (aF T dst).base=4))=q;cases q<;>simp<;>exact decide_eq_decide.2 Iff.rfl):A:=h
theorem OQ(h:A:=by
 obtain⟨p,c⟩:=q;have dv:=aa (show r=.error (p,c)by have:=cH.out;rw[hbd]at this;exact this);rw[hbd]at hbs;have td:=aa hbs;clear cH hbd hbs;go_wp2_with fail;refine(td.out).mono ?_;rintro e wg ⟨hbg,rfl⟩;exact bj dv.out (bb Bf.out hbg) rfl):A:=h
theorem Ip(h:A:=by
 go_wp2_with fail;go_ret;have:=HV.out;rw[Option.some.injEq,Prod.mk.injEq]at this;obtain⟨rfl,rfl⟩:=this;exact⟨rfl,H9.out⟩):A:=h
theorem zV(h:A:=by
 by_cases hjk:j=k
 ·subst hjk;exact hjun
 ·rw[getD_set_ne true hjk]at hun;exact hun):A:=h
theorem OH(h:A:=by
 rintro e w8 ⟨rfl,rfl⟩;refine⟨Below.refl _ _,?_⟩;refine cV 9 (by kernel_rfl) (by kernel_rfl) (bb C7.out ab) (fun wr hwr=>?_);refine FA ?_;go_wp2_with fail;go_ret;rw[ar.out];exact⟨bb (bb (bb B6.out C7.out) ab) hwr,rfl,trivial⟩):A:=h
theorem Bv(h:A:=by
 go_enter Tryz.func106,Tryz.ntmps106;go_wp2_with fail;go_ret2;exact⟨rfl,Below.refl _ _⟩):A:=h
theorem Mn(h:A:=by
 have hrf:=rX (f:=fun L=>(Region.ready .any ops L).contains i&&(Region.ready .any ops L).all fun j=>j==i||ms.any fun m=>m.idx==j) hall fl hm;simp only[Bool.and_eq_true]at hrf;obtain⟨k,hk,_⟩:=qx hrf.1 0 hn;omega):A:=h
theorem wN(h:A:=by
 rintro e w3 ⟨ad,rfl⟩;exact bj aq.out (bb B2.out ad) rfl):A:=h
theorem CP(h:A:=by
 go_wp2_with fail;go_ret;exact⟨by rw[HV.out];rfl,IL B2.out (Nat.le_refl _)⟩):A:=h
theorem RQ(h:A:=by
 go_wp2_with fail;go_ret;exact⟨_,i,true,rfl,.inl rfl,⟨H2.out.below.setCell (Nat.le_refl _) _,H2.out.box.set 2 _,H2.out.le⟩,O2.out.set (p:=⟨w0.heap.size,2,none⟩) (.inl rfl) _,fun _=>rfl,fun h=>by cases h⟩):A:=h
theorem Bt(h:A:=by
 go_enter Tryz.func99,Tryz.ntmps99;go_wp2_with fail;go_ret2;exact⟨rfl,cB w _⟩):A:=h
theorem zP(h:A:=by
 exact .inl ⟨h1,fun w' hw'=>Fx hpo (h2 w' (zQ hw'))⟩):A:=h
theorem GJ(h:A:=by
 go_wp2_with fail;go_ret2;exact⟨rfl,rfl⟩):A:=h
theorem OL(h:A:=by
 have aM:=aa (HVn.out gX.out);refine FC 25 aG CC.out (fun w4 ab=>(lq rfl (HTy.out.later (bb CC.out ab)) 254).mono ?_);rintro e wn ⟨rfl,rfl⟩;exact bj (fn:=Tryz.f110) aM.out (bb B9.out (bb CC.out ab)) rfl):A:=h
theorem ON(h:A:=by
 have aM:=aa (HVn.out gX.out);refine FC 21 aG CB.out (fun w4 ab=>(lq rfl (HTv.out.later (bb CB.out ab)) 252).mono ?_);rintro e wn ⟨rfl,rfl⟩;exact bj (fn:=Tryz.f69) aM.out (bb B9.out (bb CB.out ab)) rfl):A:=h
theorem OP(h:A:=by
 have cH:=aa (show r=.error (x.pos,252)by have:=bz.out;rw[hft]at this;exact this);clear bz hft;go_wp2_with fail;refine(eg HXf.out 252).mono ?_;rintro e wq ⟨rfl,rfl⟩;exact bj cH.out Bf.out rfl):A:=h
theorem Gp(h:A:=by
 go_wp2_with fail;refine(eg iy.out 252).mono ?_;rintro e wq ⟨rfl,rfl⟩;exact bj aA.out B7.out rfl):A:=h
theorem wR(h:A:=by
 go_wp2_with fail;go_ret2;exact⟨by rw[HE.out];rfl,rfl⟩):A:=h
theorem Rb(h:A:=by
 obtain⟨p,c⟩:=q;have aq:=aa (show r=.error (p,c)from HV.out);go_wp2_with fail;refine(HCA.out _ (Below.refl _ _)).mono ?_;rintro e w5 ⟨au,rfl⟩;exact bj aq.out (bb B3.out au) rfl):A:=h
theorem IJ(h:A:=by
 go_enter Tryz.func11,Tryz.ntmps11;go_wp2_with fail;exact CO rfl (adP _ _ _) (IG _ _ _) rfl rfl):A:=h
theorem On(h:A:=by
 subst h3;have bf:=aa (show r=.error ((kid x 1).pos,252)from aM.out);clear aM;go_wp2_with fail;refine(eg rm.out 252).mono ?_;rintro e wq ⟨rfl,rfl⟩;exact bj bf.out B11.out rfl):A:=h
theorem xC(h:A:=by
 go_wp2_with fail;go_meet;exact⟨rfl,Below.refl _ _⟩):A:=h
theorem Ml(h:A:=by
 obtain⟨m2,h1,h2⟩:=Mj (fl:=fl) h ⟨m',by
  rcases List.mem_cons.1 hm with h3|h3
  ·subst h3;exact absurd hj he
  ·exact h3,hj⟩
 exact⟨m2,List.mem_cons_of_mem _ h1,h2⟩):A:=h
theorem Pl(h:A:=by
 have aA:=aa (show r=.ok ⟨t,.none,0⟩by rw[ar.out];exact if_pos (by simp));go_wp2_with fail;exact ef rfl ⟨t,.none,0⟩ X2.out Ba.out (by omega) rfl rfl aA.out trivial):A:=h
theorem Ol(h:A:=by
 have aA:=aa (show r=.error (x.pos,251)from ar.out);clear ar;go_wp2_with fail;refine(eg gH.out 251).mono ?_;rintro e wq ⟨rfl,rfl⟩;exact bj aA.out B9.out rfl):A:=h
theorem Rr(h:A:=by
 clear hq;go_wp2_with fail;refine Co (e:=bI) rfl (Nat.le_succ _) X2.out aV.out ?_ rfl rfl rfl (.inl ⟨rfl,HK.out,rfl⟩);exact(Below.refl _ _).alloc (Nat.le_refl _) _):A:=h
theorem AK(h:A:=by
 go_wp2_with fail;go_ret;exact⟨by rw[aq.out];rfl,B6.out⟩):A:=h
theorem AG(h:A:=by
 go_wp2_with fail;go_ret;exact⟨by rw[aq.out];rfl,B1.out⟩):A:=h
theorem CH(h:A:=by
 go_wp2_with fail;go_ret;exact⟨by rw[HV.out];rfl,cA.out⟩):A:=h
theorem GF(h:A:=by
 rintro e w5 ⟨rfl,rfl⟩;go_wp2_with fail;go_ret;exact⟨by rw[HE.out];rfl,HG.out⟩):A:=h
theorem Rz(h:A:=by
 exact nf (k:=0) (t:=[]) (n:=0) (m:=0) (c:=5) rfl (ng HX.out 0 [] 0) (nh HB.out (Nat.le_refl _)) rfl rfl rfl rfl (fun h=>absurd h (by decide))):A:=h
theorem AN(h:A:=by
 go_wp2_with fail;go_ret;exact⟨by rw[aq.out];rfl,rfl⟩):A:=h
theorem Ow(h:A:=by
 go_wp2_with fail;refine(qK (H.out.later Bd.out) b).mono ?_;rintro e we ⟨rfl,hbe⟩;go_wp2_with fail;go_ret;exact⟨by rw[aA.out];rfl,bb Bd.out hbe⟩):A:=h
theorem AU(h:A:=by
 rintro e wq ⟨rfl,rfl⟩;exact bj aM.out B6.out rfl):A:=h
theorem Hq(h:A:=by
 exact(Below.refl _ _).alloc (Nat.le_refl _) _):A:=h
theorem QI(h:A:=by
 rw[Bool.eq_iff_iff,MapKept.bytes_beq,decide_eq_true_eq];constructor
 ·intro h;simpa using congrArg (fun x:ByteArray=>x.data.toList) h
 ·intro h;rw[h]):A:=h
theorem RK(h:A:=by
 obtain⟨h1,h2⟩:=h;refine⟨h1,h2.imp id ?_⟩;rintro⟨g,cap,cur,rfl,hg,hc,h3⟩;exact⟨g,cap,cur,rfl,hg,(hk g rfl).trans hc,h3⟩):A:=h
theorem IK(h:A:=by
 exact CO (k:=w.heap.size+1) rfl (Te _ _ _) (IG _ _ _) rfl rfl):A:=h
theorem CG(h:A:=by
 obtain⟨rfl,rfl⟩:=this;exact⟨rfl,H8.out⟩):A:=h
theorem zT(h:A:=by
 have:=ready_mono hj hji;rw[H.1]at this;cases this):A:=h
theorem Pr(h:A:=by
 go_enter Tryz.func143,Tryz.ntmps143;go_wp2_with fail;go_ret;exact⟨by rw[HE.out];rfl,(cB w _).trans ((cB _ _).mono (cB w _).size)⟩):A:=h
theorem Si(h:A:=by
 go_wp2_with fail;go_ret;exact⟨_,i1,dW,rfl,HPP.out,H3.out,O3.out,HB.out,fun e=>⟨I1.out e,(T3.out e).mono (by omega)⟩⟩):A:=h
theorem Fz(h:A:=by
 subst hji;exact hy.wpOp hi hS ⟨oH,by rw[hil];exact⟨hS,H⟩⟩):A:=h
theorem Tl(h:A:=by
 go_wp2_with fail;go_ret2;exact⟨rfl,H5.out,(eA.of aO.out).trans K5.out,Int.le_refl 0,by show(0:Int)≤32767;decide⟩):A:=h
theorem zW(h:A:=by
 rw[Array.setIfInBounds_comm _ _ hji];exact h4.2):A:=h
theorem Oj(h:A:=by
 clear aA ho;go_wp2_with fail;refine(eg fY.out 252).mono ?_;rintro e wq ⟨rfl,rfl⟩;exact bj aM.out B8.out rfl):A:=h
theorem BF(h:A:=by
 split
 ·exact uI _ _
 ·exact pF _):A:=h
theorem Ht(h:A:=by
 rcases HE.out with h|⟨h,h2⟩
 ·exact h
 ·exact absurd h hlt):A:=h
theorem RT(h:A:=by
 go_wp2_with fail;go_ret;exact⟨_,i1,dW,rfl,HPP.out,H3.out,O3.out,HB.out,fun e=>⟨I1.out e,T3.out e⟩⟩):A:=h
theorem Gj(h:A:=by
 go_wp2_with fail;go_ret;exact⟨by rw[HV.out];rfl,B1.out⟩):A:=h
theorem NZ(h:A:=by
 go_wp2_with fail;exact ef rfl ⟨en.type,.none,1⟩ (HK.out _ _) (HB.out _ _) (by omega) rfl rfl aA.out trivial):A:=h
theorem NY(h:A:=by
 go_wp2_with fail;exact ef rfl ⟨en.type,.none,1⟩ (HK.out _ _) (HB.out _ _) (by omega) rfl rfl ar.out trivial):A:=h
theorem OU(h:A:=by
 obtain⟨hlt,he⟩:=Array.getElem?_eq_some_iff.1 ho;rw[List.drop_eq_getElem_cons (by simpa using hlt)];simp[he]):A:=h
theorem Tp(h:A:=by
 go_wp2_with fail;go_ret2;exact⟨rfl,H5.out,eA.of B5.out,Int.le_refl 0,by show(0:Int)≤32767;decide⟩):A:=h
theorem Pq(h:A:=by
 dsimp only[Option.getD_none,Option.isSome_none];go_wp2_with fail;go_ret;exact⟨by rw[HR.out];rfl,HB.out _⟩):A:=h
theorem Oq(h:A:=by
 go_wp2_with fail;refine(eg iy.out 252).mono ?_;rintro e wq ⟨rfl,rfl⟩;exact bj ar.out B7.out rfl):A:=h
theorem SG(h:A:=by
 go_wp2_with fail;go_meet;exact⟨by rw[HD.out,HE.out];by_cases e:ty.base=tt.base<;>simp[e],rfl⟩):A:=h
theorem RM(h:A:=by
 rcases h.2 with⟨rfl,_⟩|⟨b,cap,cur,rfl,_,hc,_⟩
 ·cases hg
 ·cases hg;exact ld hc):A:=h
theorem Nu(h:A:=by
 intro l h;obtain⟨l1,a1,b1⟩:=i1 h;obtain⟨l2,a2,b2⟩:=i2 b1;exact⟨l2,a1.trans a2,b2⟩):A:=h
theorem Th(h:A:=by
 clear HR;go_enter Tryz.func225,Tryz.ntmps225;go_wp2_with fail;go_ret2;exact⟨by rw[HV.out];rfl,rfl⟩):A:=h
theorem OS(h:A:=by
 go_wp2_with fail;exact ef rfl ⟨bb_,.none,0⟩ X2.out Bi.out (by omega) rfl rfl HVZ.out trivial):A:=h
theorem OT(h:A:=by
 go_wp2_with fail;exact ef rfl ⟨ba,.none,0⟩ X2.out Bh.out (by omega) rfl rfl HVZ.out trivial):A:=h
theorem zK(h:A:=by
 exact absurd h (by simp[runtimePanic])):A:=h
theorem Mo(h:A:=by
 rw[lN _ _ _ (by rw[hm];exact hix),tY _ _ _ _ (by rw[hm];exact hd)]at h2;exact h2):A:=h
theorem Ox(h:A:=by
 have d3:=beq_eq_false_iff_ne.2 h3;go_wp2_with fail;go_ret;exact⟨by rw[aA.out];rfl,Bd.out⟩):A:=h
theorem OO(h:A:=by
 go_wp2_with fail;exact ef rfl ⟨3,.none,0⟩ X2.out Bm.out (by omega) rfl rfl HVZ.out trivial):A:=h
theorem OR(h:A:=by
 go_wp2_with fail;exact ef rfl ⟨3,.none,0⟩ X2.out Bg.out (by omega) rfl rfl HVZ.out trivial):A:=h
theorem SQ(h:A:=by
 have:bq (.mk 11 (900,900) u 0 [x,y])=bq x+bq y+1:=by simp[bq,lr]
 omega):A:=h
theorem Ro(h:A:=by
 simp only[List.setIfInBounds_toArray,List.set_cons_zero,List.set_cons_succ]at this;exact this):A:=h
theorem Oe(h:A:=by
 clear ar;go_wp2_with fail;go_ret;exact⟨by rw[aA.out];rfl,AO B6.out (by omega) _⟩):A:=h
theorem Oc(h:A:=by
 clear aq;go_wp2_with fail;go_ret;exact⟨by rw[ar.out];rfl,AO B6.out (by omega) _⟩):A:=h
theorem OZ(h:A:=by
 rintro e w9 ⟨rfl,rfl⟩;exact bj (fn:=Tryz.f198) ar.out (bb B7.out (bb C8.out ab)) rfl):A:=h
theorem Pm(h:A:=by
 rintro e w3 ⟨ad,rfl⟩;exact bj (fn:=Tryz.f70) cH.out (bb (bb Ba.out ab) ad) rfl):A:=h
theorem Od(h:A:=by
 have hE:=HE.out (w.heap.size+1) (by omega);unfold mU at hE;rw[h8]at hE;exact hE):A:=h
theorem Ij(h:A:=by
 go_ret;exact⟨by rw[HV.out];rfl,aV.out⟩):A:=h
theorem NV(h:A:=by
 unfold jn at hu;simp only[Bool.and_eq_true,decide_eq_true_eq]at hu;exact hu.1.1):A:=h
theorem GL(h:A:=by
 rw[hf]at h2;cases h2;exact⟨r,h3,h4⟩):A:=h
theorem Px(h:A:=by
 go_ret;exact⟨nG (congrArg (fun b=>aK (.truth b)) (GI _ 0)),rfl⟩):A:=h
theorem MB(h:A:=by
 simp only[Bool.and_eq_true,beq_iff_eq]at hb;exact⟨e,he,hb.1,hb.2⟩):A:=h
theorem NL(h:A:=by
 go_wp2_with fail;go_ret;exact⟨by rw[aq.out];simp[h1,h2],B4.out⟩):A:=h
theorem Oo(h:A:=by
 rintro e w3 ⟨ad,rfl⟩;exact bj ar.out (bb B2.out ad) rfl):A:=h
end Go.Proofs
