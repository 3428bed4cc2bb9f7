/- ref06. ref04. Condition: what each theorem says. -/
import Derived.Test.YtlpombjidhloiaaGreatBap
import Derived.Lib.Strings
namespace Go.Proofs.YtlpombjidhloiaaGreat
open Go.RowKit
set_option maxRecDepth 100000
attribute [local go_sem ↓] Go.wp_at_zero Go.wp_at_succ
attribute [local go_sem] dD om cw
theorem acK{P:Program}{t e:TypeId}{size bytes:Nat}(E:ET P t e size bytes){w:World}{B:Nat}{v:Value}{n:Nat}{xs:List Value}(h:w.ownsRow B e size v n xs)(h1:∀u∈xs,u.oneCell'=true):Src P size t v n xs w:=by
 have h':=h;rcases h.2 with⟨rfl,rfl⟩|⟨g,cap,cur,rfl,_⟩
 ·have hx:xs=[]:=List.eq_nil_of_length_eq_zero (by simpa using h.1);subst hx;exact Src.ofNil w E.und 0
 ·exact Src.ofSlice w E.und _ n cap xs h.1 (h'.cells rfl) h1
theorem Ic{B:Nat}{k:Int}{x y:Nat}{s:List UInt8}{n:Int}{ps:List Value}{nb:Nat}{sl:Value}{w1 w9:World}(h:eZ B k x y s n ps nb sl w1){v9:Value}{qs:List Value}{m:Nat}(hA:iB w1 w9 B 26 1 sl v9 m qs)(hq:qs.length=m):
 Bx nb (om k x y s n sl) 55 w9∧Below B w1 (w9.setCell ⟨nb,4,none⟩ v9)∧eZ B k x y s n qs nb v9 (w9.setCell ⟨nb,4,none⟩ v9):=by
 have hnb:=h.box.lt;have hx:Bx nb (om k x y s n sl) 55 w9:=(hA.grown.block nb hnb (fun e=>h.off e.symm)).trans h.box;have hB:B≤w1.heap.size:=by have:=h.old;omega
 have hbel:Below B w1 w9:=iB.below hA (Below.refl _ _) hB h.own (Nat.le_refl _);have hoff:v9.ownBlock≠some nb:=by
  rcases hA.place with e|e
  ·rw[e];exact h.off
  ·rw[e];intro e2;have:=Option.some.inj e2;omega
 refine⟨hx,hbel.setCell h.old _,h.old,hx.set 4 _,?_,hoff⟩;rw[hq];exact jy hA.own (fun g hg=>Below.heap_setCell w9 _ _ g (fun e=>hoff (by rw[hg,e])))
theorem acL{B0 BN sA:Nat}{p:cJ}{nb xb:Nat}{x:ao}{sl v v9:Value}{w5 w9:World}{k:Nat}{qs:List Value}{bs:List Nat}{l:List ao}(N:eZ BN 10 (fb p.1) (fb p.2) [] 0 [cw xb] nb sl w5)(hBN:B0≤BN)(KX:bg (gF B0 (nb::ob sl) w5) xb x)(hxt:Tk x)(hxf:ez 1000000 x)(hnb:nb<sA)(hob:∀g∈ob sl,g<sA)(hBA:B0≤sA)(KV:gU (gF sA (ob v) w5) bs l)(hA:iB w5 w9 BN 26 1 sl v9 k qs)(hk:k=1+bs.length)(hq:qs=[cw xb]++bs.map cw)(hl:bs.length≤30000)(hp:ep p):du B0 (w9.setCell ⟨nb,4,none⟩ v9) (cw nb):=by
 subst hk hq;obtain⟨hx9,b9,N9⟩:=Ic N hA (by simp;omega);have hkeep:∀k,k∉nb::ob sl→k<w5.heap.size→k∉nb::ob v9∧(w9.setCell ⟨nb,4,none⟩ v9).heap[k]? =w5.heap[k]? :=by
  intro k h4 h5;have h0:k≠nb:=fun e=>h4 (by rw[e];simp)
  have h6:some k≠sl.ownBlock:=fun e=>h4 (List.mem_cons_of_mem _ (by unfold ob;rw[←e];simp))
  refine⟨fun h7=>?_,(Below.heap_setCell w9 _ _ k h0).trans (hA.grown.block k h5 h6)⟩;rcases List.mem_cons.1 h7 with h7|h7
  ·exact h0 h7
  ·unfold ob at h7;rw[Option.mem_toList]at h7;rcases hA.place with e|e
   ·exact h6 (by rw[←e];exact h7.symm)
   ·rw[e]at h7;have:=Option.some.inj h7;omega
 have oJ:w5.heap.size≤(w9.setCell ⟨nb,4,none⟩ v9).heap.size:=by rw[sG];exact hA.grown.size
 have KX9:=uR ((kU (Nat.le_refl _) oJ fun k _ h5 h6=>hkeep k h5 h6).trans (Ie _)) KX;have DM:=KV.sub ((kU (av':=nb::ob v9) hBA oJ fun k h4 _ h6=>hkeep k (fun h7=>by
  rcases List.mem_cons.1 h7 with h7|h7
  ·omega
  ·have:=hob k h7;omega) h6).trans (Ie _))
 have hll:=DM.len;have NN:eZ BN 10 (fb p.1) (fb p.2) [] ((0:Nat):Int) ((xb::bs).map cw) nb v9 (w9.setCell ⟨nb,4,none⟩ v9):=N9;refine⟨nb,.mk 10 p [] 0 (x::l),rfl,RW (l:=x::l) NN hBN (by simp[hll]) (fun j a y ha hy=>?_),BU (by decide) (by decide) hp (by omega) (by omega) (by omega) (fun _=>by simp) (fun y hy=>?_),uP (by simp;omega) (fun y hy=>?_)⟩
 ·cases j with
  |zero=>simp at ha hy;subst ha hy;exact KX9
  |succ j=>simp at ha hy;exact DM.at_ j a y ha hy
 ·rcases List.mem_cons.1 hy with rfl|hy
  ·exact hxt
  ·exact DM.tk y hy
 ·rcases List.mem_cons.1 hy with rfl|hy
  ·exact hxf
  ·exact DM.few y hy
theorem RX{B:Nat}{k:Int}{x y:Nat}{s:List UInt8}{n n':Int}{ps:List Value}{nb:Nat}{sl:Value}{w:World}(N:eZ B k x y s n ps nb sl w):eZ B k x y s n' ps nb sl (w.setCell ⟨nb,3,none⟩ (.int .i64 n')):=
 ⟨N.old,N.box.set 3 _,jy N.own (fun g hg=>Below.heap_setCell w _ _ g (fun e=>N.off (by rw[hg,e]))),N.off⟩
theorem acM{B:Nat}{k k':Int}{x y:Nat}{s:List UInt8}{n:Int}{ps:List Value}{nb:Nat}{sl:Value}{w:World}(N:eZ B k x y s n ps nb sl w):eZ B k' x y s n ps nb sl (w.setCell ⟨nb,0,none⟩ (.int .u8 k')):=
 ⟨N.old,N.box.set 0 _,jy N.own (fun g hg=>Below.heap_setCell w _ _ g (fun e=>N.off (by rw[hg,e]))),N.off⟩
theorem acN{w0:World}{sv:Value}{L:List bA}{i i1:Nat}{w wd w5 w9:World}{BN nb xb:Nat}{sl v5 v9:Value}{tq:List Value}{i5:Nat}{gx:Bool}{ap:cJ}{xx:ao}{k:Nat}{qs:List Value}(hr:w0.heap.size<w.heap.size)(hBN:w.heap.size≤BN)
 (N5:eZ BN 10 (fb ap.1) (fb ap.2) [] 0 [cw xb] nb sl w5) (od:aX w0.heap.size w wd) (hal:AL w0 sv L i1 wd (mu L i5 gx) v5 w5 i5 gx tq) (hln:tq.length≤30000)
 (cf:iB w5 w9 BN 26 1 sl v9 k qs) (hk:k=1+tq.length) (hq:qs=[cw xb]++tq) (KX:bg (gF w.heap.size (nb::ob sl) wd) xb xx) (dK:Tk xx) (gZ:ez 1000000 xx) (hnb:nb<wd.heap.size) (hob:∀g∈ob sl,g<wd.heap.size) (hap:ep ap) (hgi:i<i1):
 ch w0 sv L i5 gx (w9.setCell ⟨nb,4,none⟩ v9)∧aX w0.heap.size w (w9.setCell ⟨nb,4,none⟩ v9)∧(gx=false→i<i5∧du w.heap.size (w9.setCell ⟨nb,4,none⟩ v9) (cw nb)):=by
 subst hk hq;obtain⟨_,b9,_⟩:=Ic N5 cf (by simp;omega);have hB5:BN≤w5.heap.size:=Nat.le_trans N5.old (Nat.le_of_lt N5.box.lt);refine⟨⟨hal.rin.below.trans (b9.mono (by omega)),(b9.block _ (by omega)).trans hal.rin.box,hal.rin.le⟩,(If cf N5.own hB5 (od.trans hal.only) hBN).set (p:=⟨nb,4,none⟩) (.inr (Nat.le_trans hBN N5.old)) _,fun e=>?_⟩;obtain⟨g1,g2,bs,l,g3,KV⟩:=hal.good e;subst g3;have KX5:=uR (kU (av':=nb::ob sl) (Nat.le_refl _) hal.only.size fun k h4 h5 h6=>⟨h5,hal.only.block k h6 (by omega)⟩) KX;rw[List.length_map]at hln;exact⟨by omega,acL N5 hBN KX5 dK gZ hnb hob od.size KV cf (by rw[List.length_map]) rfl hln hap⟩
theorem acO{w:World}{b B0:Nat}(hB:B0≤b)(h:Bx b #[.int .u8 0,.complex .f64 0 0,.string ⟨#[]⟩,.int .i64 0,.slice none 0 0] 55 w):bg (dJ B0 w) b (.mk 0 (0,0) [] 0 []):=by
 have hb:Bx b (AC (.mk 0 (0,0) [] 0 []) none 0) 55 (dJ B0 w):=(ow w hB).trans (by
  unfold AC jM;rw[show(ao.mk 0 (0,0) [] 0 []).pos=(0,0)from rfl];show w.heap[b]? =some (.cells #[.int .u8 0,.complex .f64 (fb 0) (fb 0),_,_,_] _ (0,0));rw[Hu];exact h)
 exact .mk b _ none 0 [] (fun i u hi=>by rw[hb.cell i,hi]) (.inl ⟨rfl,rfl,rfl⟩) rfl (fun i x y hx=>by simp at hx)
theorem RY{w0:World}{sv:Value}{L:List bA}(P:PW w0 sv L){i:Nat}{w:World}(h:ch w0 sv L i true w):Calls Tryz.prog 150 #[.pointer (some ⟨w0.heap.size,0,none⟩)] w (Hz w0 sv L i true w):=by
 have HN:=aa (kr P h);have H:=aa h;clear h P;go_enter Tryz.func150,Tryz.ntmps150;go_wp2_with fail;refine HN.out.mono ?_;rintro e w1 ⟨⟨x,y,rfl⟩,ae⟩;have H1:=aa (H.out.only ae);have aO:=aa ae;have r2:=H1.out.box.cell 2;have rl:=H1.out.box.lt;clear ae;generalize bL L i=t;obtain⟨tk,tp,tt,tn⟩:=t;go_wp2_with fail;go_ret;exact⟨_,i,true,rfl,.inl rfl,H1.out.only (dq _ _),(aX.of aO.out).then (dq _ _),fun _=>rfl,fun e=>by cases e⟩
theorem RZ{w0:World}{sv:Value}{L:List bA}(P:PW w0 sv L):iY 150 w0 sv L 0:=by
 intro i bad w h hm;cases bad with
 |true=>exact RY P h
 |false=>unfold mu at hm;simp at hm
set_option maxHeartbeats 8000000 in
theorem acP{w0:World}{sv:Value}{L:List bA}(P:PW w0 sv L){m:Nat}(SE:iY 53 w0 sv L m)(SF:iY 150 w0 sv L m):iY 150 w0 sv L (m+1):=by
 intro i bad w h hm;cases bad;case true=>exact RY P h
 have SL:=aa (acQ P SE);have SD:=aa (acR P SE);have SA:=aa (fun i w h hm=>acS P SE (i:=i) (w:=w) h hm);have HSE:=aa SE;have HSF:=aa SF;have HP:=aa P;have HM:=aa hm;have HLT:=aa h.box.lt;have HN:=aa (kr P h);have H:=aa h;clear SE SF P h hm;go_enter Tryz.func150,Tryz.ntmps150;go_wp2_with fail;refine HN.out.mono ?_;rintro e w1 ⟨⟨x,y,rfl⟩,ae⟩;have hNI:=@Ig w0 sv L HP.out i;have hNK:=@ni w0 sv L HP.out i;generalize jD:bL L i=t at hNI hNK;obtain⟨tk,tp,tt,tn⟩:=t;have HTE:=aa jD;clear jD;have HNK:=aa hNK;have HNI:=aa hNI;clear hNK hNI HN;go_upto_region 2 with(fail);generalize aU:w1.alloc _=w2;obtain⟨af,x2,bu⟩:=made aU;have B2:=aa (ae.trans (af.mono ae.size));have H2:=aa (H.out.only B2.out);have X2:=aa x2;have hne:w1.heap.size≠w0.heap.size:=by have:=ae.size;have:=HLT.out;omega
 generalize w1.heap.size=tb at *;have z0:=X2.out.cell 0;have z1:=X2.out.cell 1;have z3:=X2.out.cell 3;have z4:=X2.out.cell 4;have zl:=X2.out.lt;have r1:=H2.out.box.cell 1;have r2:=H2.out.box.cell 2;have g1:=H2.out.box.frozen 1;have rl:=H2.out.box.lt;have hf:=HP.out.few;have hile:=H2.out.le;have HW:=aa (show wrap64 ((i:Int)+1)=((i+1:Nat):Int)by rw[Go.IntWalk.wrap64_in _ (by omega)];omega);clear aU af x2 bu ae H;by_cases k2:tk=2
 ·subst k2;obtain⟨hi,hT⟩:=HNK.out (by exact(by decide:(2:Int)≠0));go_wp2_with fail;generalize cU:w2.setCell _ _=w3;have H3:ch w0 sv L (i+1) false w3:=by rw[←cU];exact⟨H2.out.below.setCell (Nat.le_refl _) _,H2.out.box.set 1 _,hi⟩
  have o23:aX w0.heap.size w2 w3:=by rw[←cU];exact(aX.refl _ _).set (p:=⟨w0.heap.size,1,none⟩) (.inl rfl) _
  have O3:=(aX.of B2.out).trans o23;have X3:=o23.bx X2.out hne;clear cU;refine(jz 5 (fb tp.1) (fb tp.2) [] (.inl rfl) (.inl rfl) _).mono ?_;rintro e w4 ⟨nb,sl,rfl,aw,N⟩;have X4:=X3.grow aw;have y0:=X4.cell 0;have y4:=X4.cell 4;have yl:=X4.lt;have n0:=N.box.cell 0;have n3:=N.box.cell 3;have m0:=N.box.frozen 0;have m3:=N.box.frozen 3;have nl:=N.box.lt;have htn:tb≠nb:=by have:=X3.lt;have:=N.old;omega
  have H4:=H3.only aw;have HT:=aa hT;go_wp2_with fail;go_ret;exact⟨_,i+1,false,rfl,.inr ⟨nb,rfl⟩,⟨H4.below.setCell (Nat.le_trans H3.below.size N.old) _,H4.box.far (by have:=N.old;have:=H3.box.lt;show w0.heap.size≠nb;omega) _,hi⟩,(O3.then aw).set (p:=⟨nb,3,none⟩) (.inr (Nat.le_trans O3.size N.old)) _,fun e=>e,fun _=>⟨Nat.lt_succ_self _,Cz (n:=tn) (RX N) O3.size (by decide) hT.pos (fun _=>HT.out.num rfl)⟩⟩
 by_cases k3:tk=3
 ·subst k3;obtain⟨hi,hT⟩:=HNK.out (by exact(by decide:(3:Int)≠0));go_wp2_with fail;generalize cU:w2.setCell _ _=w3;have H3:ch w0 sv L (i+1) false w3:=by rw[←cU];exact⟨H2.out.below.setCell (Nat.le_refl _) _,H2.out.box.set 1 _,hi⟩
  have o23:aX w0.heap.size w2 w3:=by rw[←cU];exact(aX.refl _ _).set (p:=⟨w0.heap.size,1,none⟩) (.inl rfl) _
  have O3:=(aX.of B2.out).trans o23;have X3:=o23.bx X2.out hne;clear cU;refine(jz 5 (fb tp.1) (fb tp.2) [] (.inl rfl) (.inl rfl) _).mono ?_;rintro e w4 ⟨nb,sl,rfl,aw,N⟩;have X4:=X3.grow aw;have y0:=X4.cell 0;have y4:=X4.cell 4;have yl:=X4.lt;have n0:=N.box.cell 0;have n3:=N.box.cell 3;have m0:=N.box.frozen 0;have m3:=N.box.frozen 3;have nl:=N.box.lt;have htn:tb≠nb:=by have:=X3.lt;have:=N.old;omega
  have H4:=H3.only aw;have HT:=aa hT;go_wp2_with fail;go_ret;exact⟨_,i+1,false,rfl,.inr ⟨nb,rfl⟩,⟨(H4.below.setCell (Nat.le_trans H3.below.size N.old) _).setCell (Nat.le_trans H3.below.size N.old) _,(H4.box.far (a:=⟨nb,0,none⟩) (by have:=N.old;have:=H3.box.lt;show w0.heap.size≠nb;omega) _).far (a:=⟨nb,3,none⟩) (by have:=N.old;have:=H3.box.lt;show w0.heap.size≠nb;omega) _,hi⟩,((O3.then aw).set (p:=⟨nb,0,none⟩) (.inr (Nat.le_trans O3.size N.old)) _).set (p:=⟨nb,3,none⟩) (.inr (Nat.le_trans O3.size N.old)) _,fun e=>e,fun _=>⟨Nat.lt_succ_self _,Cz (k:=6) (n:=tn) (RX (acM N)) O3.size (by decide) hT.pos (fun e=>absurd e (by decide))⟩⟩
 by_cases k4:tk=4
 ·subst k4;obtain⟨hi,hT⟩:=HNK.out (by exact(by decide:(4:Int)≠0));go_wp2_with fail;generalize cU:w2.setCell _ _=w3;have H3:ch w0 sv L (i+1) false w3:=by rw[←cU];exact⟨H2.out.below.setCell (Nat.le_refl _) _,H2.out.box.set 1 _,hi⟩
  have o23:aX w0.heap.size w2 w3:=by rw[←cU];exact(aX.refl _ _).set (p:=⟨w0.heap.size,1,none⟩) (.inl rfl) _
  have O3:=(aX.of B2.out).trans o23;have X3:=o23.bx X2.out hne;clear cU;refine(jz 7 (fb tp.1) (fb tp.2) tt (.inl rfl) (.inl rfl) _).mono ?_;rintro e w4 ⟨nb,sl,rfl,aw,N⟩;go_wp2_with fail;go_ret;exact⟨_,i+1,false,rfl,.inr ⟨nb,rfl⟩,H3.only aw,O3.then aw,fun e=>e,fun _=>⟨Nat.lt_succ_self _,Cz N O3.size (by decide) hT.pos (by decide)⟩⟩
 have d2:(tk==2)=false:=beq_eq_false_iff_ne.2 k2;have d3:(tk==3)=false:=beq_eq_false_iff_ne.2 k3;have d4:(tk==4)=false:=beq_eq_false_iff_ne.2 k4;go_wp2_with fail;refine(xq HP.out H2.out [123]).mono ?_;rintro e w3 ⟨⟨q,rfl,hq⟩,ad⟩;have H3:=aa (H2.out.only ad);have B3:=aa (B2.out.trans (ad.mono B2.out.size));have X3:=aa (X2.out.grow ad);have y1:=X3.out.cell 1;have yl:=X3.out.lt;clear ad z0 z1 z3 z4 zl r1 r2 g1 rl X2 B2 H2;cases q;case true=>
  obtain⟨hi,hT⟩:=HNK.out (by have:=(hq rfl).2;rw[HTE.out]at this;exact this);go_wp2_with fail;generalize ab:w3.alloc _=w4;obtain⟨aw,x4,iZ⟩:=made ab;have B4:=B3.out.trans (aw.mono B3.out.size);refine(Sa HP.out SL.out (H3.out.only aw) HM.out hT.pos B4.size HLT.out (acO B3.out.size x4) abu (uP (by simp) (by simp))).mono ?_;rintro e w5 ⟨q5,i5,gx,rfl,ny,h5,di,tr⟩;go_wp2_with fail;go_ret;exact⟨_,i5,gx,rfl,ny,h5,(aX.of B4).trans di,(fun e=>by cases e),tr⟩
 clear hq;go_wp2_with fail;refine(oh HP.out H3.out [40]).mono ?_;rintro e w4 (⟨rfl,h4,dR⟩|⟨rfl,h4,_,hk,dR⟩);case inr=>
  have hle:=h4.le;have O4:=aa ((aX.of B3.out).trans dR);go_wp2_with fail;refine(HSE.out _ _ _ h4 (qX (bad:=false) HM.out (fun e=>e) (fun _=>⟨Nat.lt_succ_self _,by omega⟩))).mono ?_;rintro e w5 ⟨p,i5,gx,rfl,ny,h5,di,DN,tr⟩;go_wp2_with fail;refine(uN HP.out h5 [41]).mono ?_;rintro e w6 ⟨i6,yJ,rfl,h6,nz,hd6⟩;go_wp2_with fail;go_ret;refine⟨_,i6,yJ,rfl,ny,h6,(O4.out.trans di).trans nz,(fun e=>by cases e),fun e=>?_⟩;rcases hd6 with rfl|⟨_,rfl,rfl,_⟩
  ·cases e
  ·exact⟨by have:=(tr rfl).1;omega,((tr rfl).2.mono O4.out.size).keep (nz.kf HLT.out)⟩
 have H4:=aa h4;have O4:=aa ((aX.of B3.out).trans dR);have X4:=aa (dR.bx X3.out hne);have y1:=X4.out.cell 1;have yl:=X4.out.lt;clear h4 dR H3 B3 X3;go_wp2_with fail;refine(acz HP.out H4.out [78,79,84]).mono ?_;rintro e w5 (⟨rfl,h5,di⟩|⟨rfl,h5,_,hk,di⟩);case inr=>
  have hle:=h5.le;have O5:=aa (O4.out.trans di);have X5:=aa (show Bx tb _ 177 w5.drew from di.bx X4.out hne);have HD:=aa (show ch w0 sv L (i+1) false w5.drew from⟨lH h5.below,h5.box,h5.le⟩);have OD:=aa (O5.out.drew);have HMM:=aa (qX (i':=i+1) (bad':=false) (bad:=false) HM.out (fun e=>e) (fun _=>⟨Nat.lt_succ_self _,by omega⟩));have c1:w5.drew.cell? ⟨tb,1,none⟩=some (.complex .f64 (fb tp.1) (fb tp.2)):=(X5.out.cell 1).trans rfl;have e1:w5.cell? ⟨tb,1,none⟩=some (.complex .f64 (fb tp.1) (fb tp.2)):=c1;clear h5 di O5 X4 O4 H4;go_upto_region 21 with(fail);go_region_held3 (fun w'=>w'.cell? ⟨tb,1,none⟩=some (.complex .f64 (fb tp.1) (fb tp.2))) (go_keep) (first
   |(go_at_call 150
     refine(HSF.out _ _ _ HD.out HMM.out).mono ?_;rintro e w7 ⟨p2,i2,eS,rfl,hp2,h7,gw,rE,fK⟩;have X7:=gw.bx X5.out hne;have s1:w7.cell? ⟨tb,1,none⟩=some (.complex .f64 (fb tp.1) (fb tp.2)):=(X7.cell 1).trans rfl)
   |(go_at_call 85
     refine(jz 12 (fb tp.1) (fb tp.2) [78,79,84] hp2 (.inl rfl) _).mono ?_;rintro e w8 ⟨nb,sl,rfl,aB,N⟩;have X8:=X7.grow aB;have s1:w8.cell? ⟨tb,1,none⟩=some (.complex .f64 (fb tp.1) (fb tp.2)):=(X8.cell 1).trans rfl))
  all_goals go_wp2_with fail
  all_goals go_ret
  all_goals exact⟨_,i2,eS,rfl,.inr ⟨nb,rfl⟩,h7.only aB,(OD.out.trans gw).then aB,(fun e=>by cases e),fun e=>⟨by have:=(fK e).1;omega,CA ((fK e).2.mono OD.out.size) (kT aB) (by simpa[pL]using N) (OD.out.trans gw).size (by decide) (HNI.out (by omega)).pos⟩⟩
 have H5:=aa h5;have O5:=aa (O4.out.trans di);have X5:=aa (di.bx X4.out hne);clear h5 di H4 O4 X4 y1 yl;go_wp2_with fail;refine(SD.out _ _ _ H5.out HM.out).mono ?_;rintro e w6 ⟨p,i1,dW,rfl,hp,h6,nz,_,hgood⟩;have O6:=aa (O5.out.trans nz);have X6:=aa (nz.bx X5.out hne);have HG:=aa (fun e=>(⟨(hgood e).1,(hgood e).2.mono O5.out.size⟩:i<i1∧du w.heap.size w6 p));have HPP:=aa hp;have H6:=aa h6;clear hgood hp h6 nz O5 X5 H5;go_upto_region 23 with(fail);go_cut [94] (fun u wx=>∃q:Bool,u=.bool q∧ch w0 sv L i1 dW wx∧aX w0.heap.size w wx∧Bx tb (dD ⟨tk,tp,tt,tn⟩ x y) 177 wx∧(dW=false→i<i1∧du w.heap.size wx p)∧(q=true→dW=false));case first=>
  go_wp2_with fail;refine(xq HP.out H6.out [123]).mono ?_;rintro e w7 ⟨⟨q,rfl,hq⟩,aC⟩;have C7:ch w0 sv L i1 dW w7∧aX w0.heap.size w w7∧Bx tb (dD ⟨tk,tp,tt,tn⟩ x y) 177 w7∧(dW=false→i<i1∧du w.heap.size w7 p):=⟨H6.out.only aC,O6.out.then aC,X6.out.grow aC,fun e=>⟨(HG.out e).1,(HG.out e).2.grow aC⟩⟩;have C7:=aa C7;clear aC H6 O6 X6 HG;cases q
  ·go_wp2_with fail;go_meet;exact⟨false,rfl,C7.out.1,C7.out.2.1,C7.out.2.2.1,C7.out.2.2.2,fun e=>by cases e⟩
  ·obtain⟨rfl,_⟩:=hq rfl;obtain⟨_,b,xt,rfl,fk,dK,_⟩:=C7.out.2.2.2 rfl;go_wp2_with fail;refine(acT fk.low dK.1).mono ?_;rintro e wq ⟨⟨q3,rfl⟩,rfl⟩;go_wp2_with fail;go_meet;exact⟨q3,rfl,C7.out.1,C7.out.2.1,C7.out.2.2.1,C7.out.2.2.2,fun _=>trivial⟩
 case rest=>
  clear H6 O6 X6 HG;obtain⟨q,rfl,h7,o7,x7,VZ,hq⟩:=hcut;rename_i w7;have H7:=aa h7;have O7:=aa o7;have X7:=aa x7;have DP:=aa VZ;have y1:=X7.out.cell 1;have yl:=X7.out.lt;clear h7 o7 x7 VZ;cases q
  ·clear hq;go_wp2_with fail;refine(xq HP.out H7.out [40]).mono ?_;rintro e w8 ⟨⟨q2,rfl,jd⟩,aB⟩;have H8:=aa (H7.out.only aB);have O8:=aa (O7.out.then aB);have Km:=aa (fun e=>(⟨(DP.out e).1,(DP.out e).2.grow aB⟩:i<i1∧du w.heap.size w8 _));clear aB H7 O7 X7 DP y1 yl;cases q2
   ·go_wp2_with fail;go_ret;exact⟨_,i1,_,rfl,HPP.out,H8.out,O8.out,(fun e=>by cases e),Km.out⟩
   obtain⟨rfl,fQ⟩:=jd rfl;obtain⟨yE,vD⟩:=ni HP.out fQ;obtain⟨hgi,xb,xx,hpx,fk,dK,gZ⟩:=Km.out rfl;subst hpx;have yI:=aa fk;have jf:=aa dK;have jE:=aa gZ;clear Km jd fQ fk dK gZ;go_wp2_with fail;refine(kr HP.out H8.out).mono ?_;rintro e w9 ⟨⟨x9,y9,rfl⟩,br⟩;generalize bL L i1=t9 at vD;obtain⟨ak,ap,at',an⟩:=t9;have H9:=aa (H8.out.only br);have O9:=aa (O8.out.then br);have gH:=aa (yI.out.later (kT br).low);have HAP:=aa vD.pos;clear br H8 O8 yI vD;go_wp2_with fail;refine(jz 10 (fb ap.1) (fb ap.2) [] (.inr ⟨xb,rfl⟩) (.inl rfl) _).mono ?_;rintro e wa ⟨nb,sl,rfl,hba,NA⟩;have HA:=aa (H9.out.only hba);have OA:=aa (O9.out.then hba);have N10:=aa (show eZ w9.heap.size 10 (fb ap.1) (fb ap.2) [] 0 [cw xb] nb sl wa from NA);have KX:=aa (show bg (gF w.heap.size (nb::ob sl) wa) xb xx from uR ((Sb w9).trans (kU (Nat.le_refl _) hba.size fun k h4 _ h6=>⟨fun h7=>by
    rcases List.mem_cons.1 h7 with h7|h7
    ·have:=NA.old;omega
    ·have:=(CD NA.own h7).1;omega,hba.block k h6⟩)) gH.out)
   obtain⟨A,c,rfl⟩:=jG N10.out.own;have hob:=aa (fun g hg=>(CD N10.out.own (g:=g) hg).2);have ND:=aa (N10.out.only ((aX.refl _ wa).drew) (Nat.lt_of_lt_of_le HLT.out O9.out.size));have yK:=aa (show ch w0 sv L i1 false wa.drew from⟨lH HA.out.below,HA.out.box,HA.out.le⟩);have OD:=aa (OA.out.drew);have k0:wa.cell? ⟨nb,4,none⟩=some (.slice A 1 c):=(N10.out.box.cell 4).trans rfl;have k1:wa.drew.cell? ⟨nb,4,none⟩=some (.slice A 1 c):=k0;have pZ:=N10.out.box.lt;have hO9s:=O9.out.size;have HMA:=aa (qU (i':=i1) (bad':=false) HM.out (fun e=>e) (fun _=>Nat.le_of_lt hgi));have KXD:=aa (show bg (gF w.heap.size (nb::ob (.slice A [cw xb].length c)) wa.drew) xb xx from uR (kU (w:=wa) (w':=wa.drew) (av':=nb::ob (.slice A [cw xb].length c)) (Nat.le_refl _) (Nat.le_refl _) fun k _ h5 _=>⟨h5,rfl⟩) KX.out);clear hba NA H9 O9 gH KX;go_upto_region 27 with(fail);go_region_law (first
    |(refine Ih (f:=210) (args:=#[.pointer (some ⟨w0.heap.size,0,none⟩)]) (by rfl) (by go_simp) ?_
      refine(SA.out _ _ yK.out HMA.out).mono ?_;rintro e w5 ⟨v5,tq,i5,gx,rfl,hal,hln⟩;refine⟨_,rfl,?_⟩;have N5:=aa (ND.out.only hal.only (by have:=HLT.out;omega));have o5s:=(OD.out.trans hal.only).size;have o5t:=hal.only.size;have s1:w5.cell? ⟨nb,4,none⟩=some (.slice A 1 c):=(N5.out.box.cell 4).trans rfl;have s2:=N5.out.box.lt)
    |(refine zc ku (by rfl) _ _ (by rfl) w9.heap.size _ 1 [cw xb] (by rfl) N5.out.own _ tq.length tq (by rfl) (acK ku hal.own hal.ones) (by omega) (by unfold maxLen;omega) (by have:=N5.out.old;omega) ?_
      intro v9 w9' cf;obtain⟨A9,c9,rfl⟩:=jG cf.own;have X9:=(Ic N5.out cf (by rw[List.length_append];rfl)).1;have s1:w9'.cell? ⟨nb,4,none⟩=some (.slice A 1 c):=(X9.cell 4).trans rfl;have f9:=X9.frozen 4;have s2:=X9.lt))
   all_goals go_wp2_with fail
   all_goals go_ret
   all_goals (
    obtain⟨q1,q2,q3⟩:=acN HLT.out hO9s N5.out OD.out hal hln cf rfl rfl KXD.out jf.out jE.out pZ hob.out HAP.out hgi;exact⟨_,i5,gx,rfl,.inr ⟨nb,rfl⟩,q1,q2,(fun e=>by cases e),q3⟩)
  ·obtain rfl:=hq rfl;obtain⟨ag0,b,xt,rfl,fk,dK,gZ⟩:=DP.out rfl;have hpos:=(HNI.out (by have:=H7.out.le;omega)).pos;go_wp2_with fail;refine(Sa HP.out SL.out H7.out (qU (i':=i1) (bad':=false) HM.out (fun e=>e) (fun _=>Nat.le_of_lt ag0)) hpos O7.out.size HLT.out fk dK.1 gZ).mono ?_;rintro e w8 ⟨q5,i5,gx,rfl,ny,h5,di,tr⟩;go_wp2_with fail;go_ret;exact⟨_,i5,gx,rfl,ny,h5,O7.out.trans di,(fun e=>by cases e),fun e=>⟨by have:=(tr e).1;omega,(tr e).2⟩⟩
end Go.Proofs.YtlpombjidhloiaaGreat
namespace Go.Proofs.YtlpombjidhloiaaGreat
open Go.RowKit
set_option maxRecDepth 100000
attribute [local go_sem ↓] Go.wp_at_zero Go.wp_at_succ
theorem SH{w0:World}{sv:Value}{L:List bA}(P:PW w0 sv L):∀m,iY 150 w0 sv L m∧iY 53 w0 sv L m
 |0=>⟨RZ P,RS P (Sh P (RV P (RZ P)))⟩
 |m+1=>by
  obtain⟨h1,h2⟩:=SH P m;have h3:=acP P h2 h1;exact⟨h3,RS P (Sh P (RV P h3))⟩
theorem adh{w0:World}{sv:Value}{L:List bA}{i:Nat}{bad:Bool}{w:World}(h:ch w0 sv L i bad w)(a:Option Addr):Calls Tryz.prog 57 #[.pointer (some ⟨w0.heap.size,0,none⟩),.pointer a] w (fun e w'=>e=.returned (.tuple #[if bad then .pointer none else .pointer a,.int .i64 i,.int .i64 (if bad then 60 else 0)])∧Below w.heap.size w w'):=by
 have X:=aa h.box;have z1:=X.out.cell 1;have z2:=X.out.cell 2;have hl:=X.out.lt;clear h;go_enter Tryz.func57,Tryz.ntmps57;cases bad
 ·go_wp2_with fail;refine mQ (by kernel_rfl) (by kernel_rfl) ?_;repeat go_big_quiet_step (fail)
  refine wpQuiet_nil ?_;rintro wz ⟨x9,rfl⟩;go_wp2_with fail
  go_ret3
  exact⟨rfl,lO _ _⟩
 ·go_wp2_with fail;refine mQ (by kernel_rfl) (by kernel_rfl) ?_;repeat go_big_quiet_step (fail)
  refine wpQuiet_nil ?_;rintro wz ⟨x9,rfl⟩;go_wp2_with fail
  go_ret3
  exact⟨rfl,lO _ _⟩
def adi(w:World)(e:Ending)(w':World):Prop:=Below w.heap.size w w'∧∃(a:Option Addr) (i c:Int),e=.returned (.tuple #[.pointer a,.int .i64 i,.int .i64 c])∧(c=0→∃b x,.pointer a=cw b∧bg w' b x∧Tk x∧ez 1000000 x)
theorem adj{w:World}{A:Option Addr}{n c:Nat}{L:List bA}(P:PW w (.slice A n c) L):Calls Tryz.prog 33 #[.slice A n c,.int .i64 0,.int .i64 0] w (adi w):=by
 have HP:=aa P;clear P;go_enter Tryz.func33,Tryz.ntmps33;go_wp2_with fail;generalize az:w.alloc _=w1;obtain⟨ae,x1,aE⟩:=made az;have H1:ch w (.slice A n c) L 0 false w1:=⟨ae,x1,Nat.zero_le _⟩;clear az aE x1;refine((SH HP.out (mu L 0 false)).2 0 false w1 H1 (Nat.le_refl _)).mono ?_;rintro e w2 ⟨p,i2,eS,rfl,hp,h2,eu,_,hg⟩;obtain⟨a,rfl⟩:=xA hp;have af:=eu.below (B:=w.heap.size) ae.size (Nat.le_refl _);go_wp2_with fail;refine(adh h2 a).mono ?_;rintro e w3 ⟨rfl,ad⟩;have HB:=aa ((ae.trans af).trans (ad.mono (ae.trans af).size));cases eS with
 |true=>
  go_wp2_with fail
  go_ret3
  exact⟨HB.out,none,_,_,rfl,fun e=>absurd e (by decide)⟩
 |false=>
  obtain⟨_,b,x,h4,h5,h6⟩:=hg rfl;have HT:=aa (h5.later (kT ad).low).low;have H4:=aa h4;clear h4;go_wp2_with fail
  go_ret3
  exact⟨HB.out,a,_,_,rfl,fun _=>⟨b,x,H4.out,HT.out,h6⟩⟩
def acj(most:Nat)(w:World)(e:Ending)(w':World):Prop:=(∃(n:Nat) (q:Bool),e=.returned (.tuple #[.int .i64 n,.bool q])∧(q=true→n≤most))∧w=w'
theorem Rs{n base d:Nat}{x:Int}(hn:n≤65535)(hb:base≤16)(hx:x=(d:Int))(hd:d<base):wrap64 (wrap64 ((n:Int)*(base:Int))+x)=((n*base+d:Nat):Int)∧n*base+d≤1048592:=by
 have h:=Nat.mul_le_mul hn hb;subst hx;have e:(n:Int)*(base:Int)=((n*base:Nat):Int):=by push_cast;rfl
 rw[e];generalize n*base=m at *;rw[Go.IntWalk.wrap64_in (m:Int) (by omega),Go.IntWalk.wrap64_in _ (by omega)];exact⟨by omega,by omega⟩
theorem Rt(s:List UInt8)(hs:∀c∈s,48≤c.toNat)(hl:s.length≤1000000)(base most:Nat)(hb:base≤16)(hm:most≤65535)(w:World):Calls Tryz.prog 151 #[.string ⟨s.toArray⟩,.int .i64 base,.int .i64 most] w (acj most w):=by
 have HS:=aa hs;have HL:=aa hl;have HB:=aa hb;have HM:=aa hm;clear hs hl hb hm;go_enter Tryz.func151,Tryz.ntmps151;go_wp2_with fail
 go_loopg [8,9] s.length (fun gg s8 s9 wr=>∃n kk:Nat,kk≤s.length∧gg=s.length-kk∧s8=.int .i64 n∧s9=.int .i64 kk∧w=wr∧n≤1048592)
 case atStart=>exact⟨0,0,Nat.zero_le _,by omega,rfl,rfl,rfl,by omega⟩
 case round=>
  obtain⟨n,kk,hkk,hgk,rfl,rfl,rfl,hn⟩:=hrel;have hl:=HL.out;by_cases hlt:kk<s.length
  ·obtain⟨c,hc⟩:∃c,s[kk]? =some c:=⟨s[kk],by simp⟩;have hltz:(kk:Int)<(s.length:Int):=by omega
   have ajX:=HS.out c (List.mem_of_getElem? hc);have HC:=aa hc;clear hc;have hix:∀(h:kk<(⟨s.toArray⟩:ByteArray).size),(⟨s.toArray⟩:ByteArray)[kk]=c:=fun h=>by
    have h2:=HC.out;exact uM
   have ajY:c.toNat<256:=c.toNat_lt;by_cases h65:65≤c.toNat
   ·go_wp2_with fail
    all_goals first
     |(go_ret2;exact⟨⟨0,false,rfl,fun h=>by cases h⟩,rfl⟩)
     |skip
    have hm:=HM.out;have hs:=Rs (n:=n) (base:=base) (d:=c.toNat-55) (x:=(c.toNat:Int)-65+10) (by omega) HB.out (by omega) (by omega)
    go_roundg (gk-1)
    case measure=>omega
    exact⟨_,kk+1,by omega,by omega,by rw[hs.1],rfl,rfl,hs.2⟩
   ·go_wp2_with fail
    all_goals first
     |(go_ret2;exact⟨⟨0,false,rfl,fun h=>by cases h⟩,rfl⟩)
     |skip
    have hm:=HM.out;have hs:=Rs (n:=n) (base:=base) (d:=c.toNat-48) (x:=(c.toNat:Int)-48) (by omega) HB.out (by omega) (by omega)
    go_roundg (gk-1)
    case measure=>omega
    exact⟨_,kk+1,by omega,by omega,by rw[hs.1],rfl,rfl,hs.2⟩
  ·obtain rfl:kk=s.length:=by omega
   have hltz:¬((s.length:Int)<(s.length:Int)):=by omega
   by_cases pY:n≤most
   ·go_wp2_with fail
    all_goals go_ret2
    all_goals exact⟨⟨n,_,rfl,fun _=>pY⟩,rfl⟩
   ·go_wp2_with fail
    all_goals go_ret2
    all_goals exact⟨⟨n,_,rfl,fun h=>by first|(exact absurd h (by decide))|(simp at h;omega)|(simp at h)⟩,rfl⟩
theorem ack(a b:List UInt8):((⟨a.toArray⟩:ByteArray)==⟨b.toArray⟩)=decide (a=b):=Ru a b
attribute [local go_sem] ack
def Rv(n:Nat)(w:World)(e:Ending)(w':World):Prop:=(∃k:Nat,k≤n∧e=.returned (.int .i64 k))∧Below w.heap.size w w'
def symTwo:List (List UInt8):=[[58,61],[60,62],[60,61],[62,61],[46,46]]
theorem acm(w:World):(Instr.buildSlice 42 5 #[(0,.string ⟨#[58,61]⟩),(1,.string ⟨#[60,62]⟩),(2,.string ⟨#[60,61]⟩),(3,.string ⟨#[62,61]⟩),(4,.string ⟨#[46,46]⟩)]).run Tryz.prog w=.ok (.slice (some ⟨w.heap.size,0,none⟩) 5 5) (w.alloc (.cells (symTwo.map fm).toArray 9)):=by kernel_rfl
theorem acn(s:List UInt8)(hl:s.length≤1000000)(w:World):Calls Tryz.prog 92 #[.string ⟨s.toArray⟩] w (Rv s.length w):=by
 have HB:=aa (Below.refl w.heap.size w);go_enter Tryz.func92,Tryz.ntmps92;go_wp2_with fail
 go_loopg [3,4] s.length (fun gg s3 s4 wr=>∃(d:Int) (kk:Nat),kk≤s.length∧gg=s.length-kk∧s3=.int .i64 d∧s4=.int .i64 kk∧w=wr∧ -kk≤d∧d≤kk)
 case atStart=>exact⟨0,0,Nat.zero_le _,by omega,rfl,rfl,rfl,by omega,by omega⟩
 case round=>
  obtain⟨d,kk,hkk,hgk,rfl,rfl,rfl,hd1,vC⟩:=hrel;have HI:=aa (show wrap64 ((kk:Int)+1)=((kk+1:Nat):Int)by rw[Go.IntWalk.wrap64_in _ (by omega)];omega);have HJ:=aa (show wrap64 ((kk:Int)+2)=((kk+2:Nat):Int)by rw[Go.IntWalk.wrap64_in _ (by omega)];omega);have HD:=aa (show wrap64 (d+1)=d+1 by rw[Go.IntWalk.wrap64_in _ (by omega)]);have HE:=aa (show wrap64 (d-1)=d-1 by rw[Go.IntWalk.wrap64_in _ (by omega)]);by_cases hlt:kk+1<s.length
  ·go_wp2_with fail
   all_goals first
    |(go_ret;exact⟨⟨kk+2,by omega,rfl⟩,HB.out⟩)
    |(go_roundg (gk-2);(case measure=>omega);exact⟨_,kk+2,by omega,by omega,rfl,rfl,rfl,by omega,by omega⟩)
    |(go_roundg (gk-1);(case measure=>omega);exact⟨_,kk+1,by omega,by omega,rfl,rfl,rfl,by omega,by omega⟩)
  ·go_wp2_with fail;go_ret;exact⟨⟨0,by omega,rfl⟩,HB.out⟩
def fL:List UInt8:=[43,45,42,47,126,46,44,59,40,91,123,94,61,35,60,62,58,41,93,125,124,38]
theorem aco(s:List UInt8)(hs:s≠[])(w:World):Calls Tryz.prog 129 #[.string ⟨s.toArray⟩] w (Rv s.length w):=by
 have HW:=acm w;have HS:=aa (List.length_pos_iff.2 hs);clear hs;go_enter Tryz.func129,Tryz.ntmps129;go_wp2_with fail;generalize az:w.alloc _=w1;obtain⟨ae,x1,aE⟩:=made az;have HB:=aa ae;have z:∀j,w1.cell? ⟨w.heap.size,j,none⟩=((symTwo.map fm).toArray)[j]? :=fun j=>x1.cell j
 have hlt:=x1.lt;clear az ae x1 HW
 go_loopg [4] 5 (fun gg s4 wr=>∃kk:Nat,kk≤5∧gg=5-kk∧s4=.int .i64 kk∧Below w1.heap.size w1 wr)
 case atStart=>exact⟨0,by omega,rfl,rfl,Below.refl _ _⟩
 case round=>
  obtain⟨kk,hkk,hgk,rfl,hb⟩:=hrel;by_cases h5:kk<5
  ·have hltz:(kk:Int)<5:=by omega
   obtain⟨u,hu⟩:∃u,symTwo[kk]? =some u:=⟨symTwo[kk]'(by simpa[symTwo]using h5),by simp⟩;have c0:wr.cell? ⟨w.heap.size,kk,none⟩=some (.string ⟨u.toArray⟩):=by
    rw[hb.cell (p:=⟨w.heap.size,kk,none⟩) hlt,z kk];simp[hu,fm]
   have iQ:=HS.out;clear hu z;have hlw:w.heap.size<wr.heap.size:=Nat.lt_of_lt_of_le hlt hb.size;have af:=fun x=>hb.trans ((lO wr x).mono hb.size)
   by_cases h2:2≤s.length
   ·have h2z:(2:Int)≤(s.length:Int):=by omega
    go_wp2_with fail;refine mQ (by kernel_rfl) (by kernel_rfl) ?_;repeat go_big_quiet_step (fail)
    refine wpQuiet_nil ?_;rintro wz ⟨x9,rfl⟩;go_wp2_with fail
    all_goals first
     |(go_ret;exact⟨⟨2,h2,rfl⟩,HB.out.trans ((af _).mono HB.out.size)⟩)
     |(go_roundg (gk-1);(case measure=>omega);exact⟨kk+1,by omega,by omega,rfl,af _⟩)
   ·have h2z:(s.length:Int)<2:=by omega
    have h2y:decide ((2:Int)≤(s.length:Int))=false:=by simpa using h2z
    go_wp2_with fail;refine mQ (by kernel_rfl) (by kernel_rfl) ?_;repeat go_big_quiet_step (fail)
    refine wpQuiet_nil ?_;rintro wz ⟨x9,rfl⟩;go_wp2_with fail
    all_goals first
     |(go_ret;exact⟨⟨2,h2,rfl⟩,HB.out.trans ((af _).mono HB.out.size)⟩)
     |(go_roundg (gk-1);(case measure=>omega);exact⟨kk+1,by omega,by omega,rfl,af _⟩)
  ·go_wp2_with fail;have aV:=aa (HB.out.trans (hb.mono HB.out.size));clear hb z
   go_loopg [6] 22 (fun gg s6 wq=>∃kk:Nat,kk≤22∧gg=22-kk∧s6=.int .i64 kk∧Below w.heap.size w wq)
   case atStart=>exact⟨0,by omega,rfl,rfl,aV.out⟩
   case round=>
    obtain⟨kk,hkk,hgk,rfl,hq⟩:=hrel;by_cases h22:kk<22
    ·have hltz:(kk:Int)<22:=by omega
     have iQ:=HS.out;go_wp2_with fail;refine mQ (by kernel_rfl) (by kernel_rfl) ?_;repeat go_big_quiet_step (fail)
     refine wpQuiet_nil ?_;rintro wz ⟨x9,rfl⟩;have jd:=hq.trans ((lO wr x9).mono hq.size);go_wp2_with fail
     all_goals first
      |(go_ret;exact⟨⟨1,iQ,rfl⟩,jd⟩)
      |(go_roundg (gk-1);(case measure=>omega);exact⟨kk+1,by omega,by omega,rfl,jd⟩)
    ·go_wp2_with fail;go_ret;exact⟨⟨0,by omega,rfl⟩,hq⟩
end Go.Proofs.YtlpombjidhloiaaGreat
namespace Go.Proofs.YtlpombjidhloiaaGreat
open Go.RowKit
set_option maxRecDepth 100000
attribute [local go_sem ↓] Go.wp_at_zero Go.wp_at_succ
attribute [local go_sem] Hr
theorem gT(s:List UInt8)(a b:Nat):(⟨s.toArray⟩:ByteArray).extract a b=⟨((s.drop a).take (b-a)).toArray⟩:=by
 apply ByteArray.ext;apply Array.ext';rw[Lib.extract_data]
def Rx(w:World)(e:Ending)(w':World):Prop:=(∃(k:Int) (n:Nat) (q:Bool),e=.returned (.tuple #[.agg (pK k [] n),.bool q])∧(q=true→k=2→n≤65535)∧(k=0∨k=2∨k=3))∧Below w.heap.size w w'
theorem xm{fn:Func}(hfn:fn.results=#[.cell 2 177,.tmp 3]){w wF:World}{k:Int}{n:Nat}{q:Bool}{tmps:Array Value}{ds:List Deferred}{b:Nat}(X:Bx b (pK k [] n) 177 wF)(hb:Below w.heap.size w wF)(hd:ds=[])
 (hp:tmps.getD 2 undef=.pointer (some ⟨b,0,none⟩)) (h3:tmps.getD 3 undef=.bool q) (hq:q=true→k=2→n≤65535) (hk:k=0∨k=2∨k=3):bodyPost Tryz.prog fn (Rx w) .ret ⟨tmps,ds⟩ wF:=by
 refine bodyPost_ret (Hn hfn tmps _ b _ _ (0,0) _ hp X Tryz.underlying177 rfl (infoTok.trans rfl)) hd ?_;rw[h3];exact⟨⟨k,n,q,rfl,hq,hk⟩,hb⟩
theorem acp(s:List UInt8)(hs:s≠[])(h48:∀c∈s,48≤c.toNat)(hl:s.length≤1000000)(w:World):Calls Tryz.prog 128 #[.string ⟨s.toArray⟩] w (Rx w):=by
 have HV:=aa (fun n base most hb hm=>Rt (s.take n) (fun c hc=>h48 c (List.mem_of_mem_take hc)) (Nat.le_trans (by simp;omega) hl) base most hb hm);have HU:=aa (fun base most hb hm=>Rt s h48 hl base most hb hm);have hpos:=List.length_pos_iff.2 hs;have hE:=gT s 0 (s.length-1);have HB:=aa (dq w);clear hs h48;go_enter Tryz.func128,Tryz.ntmps128;go_wp2_with fail
 ·refine(HV.out _ 16 65535 (by decide) (by decide) _).mono ?_;rintro e wq ⟨⟨n,q,rfl,hq⟩,rfl⟩;go_wp2_with fail;exact xm (k:=2) (n:=n) rfl (heap_alloc_new _ _) (dq _ _) rfl rfl rfl (fun h _=>hq h) (by decide)
 ·refine(HU.out 10 65535 (by decide) (by decide) _).mono ?_;rintro e wq ⟨⟨n,q,rfl,hq⟩,rfl⟩;cases q
  ·go_wp2_with fail
   ·refine(HV.out _ 8 65535 (by decide) (by decide) _).mono ?_;rintro e wq ⟨⟨n2,q2,rfl,jd⟩,rfl⟩;go_wp2_with fail;exact xm (k:=2) (n:=n2) rfl (heap_alloc_new _ _) (dq _ _) rfl rfl rfl (fun h _=>jd h) (by decide)
   ·refine(HV.out _ 8 255 (by decide) (by decide) _).mono ?_;rintro e wq ⟨⟨n2,q2,rfl,jd⟩,rfl⟩;go_wp2_with fail;exact xm (k:=3) (n:=n2) rfl (heap_alloc_new _ _) (dq _ _) rfl rfl rfl (fun _ h=>absurd h (by decide)) (by decide)
   ·exact xm (k:=0) (n:=0) rfl (heap_alloc_new _ _) (dq _ _) rfl rfl rfl (fun h=>by cases h) (by decide)
  ·go_wp2_with fail;exact xm (k:=2) (n:=n) rfl (heap_alloc_new _ _) (dq _ _) rfl rfl rfl (fun _ _=>hq trivial) (by decide)
end Go.Proofs.YtlpombjidhloiaaGreat
namespace Go.Proofs.YtlpombjidhloiaaGreat
open Go.RowKit
set_option maxRecDepth 100000
attribute [local go_sem ↓] Go.wp_at_zero Go.wp_at_succ
def kR(n:Int):Bool:=(decide (65≤n)&&decide (n≤90))||(decide (97≤n)&&decide (n≤122))
def lF(n:Int):Bool:=decide (48≤n)&&decide (n≤57)
theorem acs(n:Int)(w:World):Calls Tryz.prog 123 #[.int .u8 n] w (fun e w'=>e=.returned (.bool (kR n))∧w=w'):=by
 go_enter Tryz.func123,Tryz.ntmps123;by_cases h1:65≤n
 ·by_cases h2:n≤90
  ·have HV:=aa (show kR n=true by unfold kR;simp[h1,h2]);exact px
  ·by_cases h3:97≤n
   ·by_cases h4:n≤122
    ·have HV:=aa (show kR n=true by unfold kR;simp[h3,h4]);exact px
    ·have HV:=aa (show kR n=false by unfold kR;simp;omega);exact px
   ·have HV:=aa (show kR n=false by unfold kR;simp;omega);exact px
 ·have HV:=aa (show kR n=false by unfold kR;simp;omega);exact px
theorem acu(n:Int)(w:World):Calls Tryz.prog 125 #[.int .u8 n] w (fun e w'=>e=.returned (.bool (lF n))∧w=w'):=by
 go_enter Tryz.func125,Tryz.ntmps125;by_cases h1:48≤n
 ·by_cases h2:n≤57
  ·have HV:=aa (show lF n=true by unfold lF;simp[h1,h2]);exact px
  ·have HV:=aa (show lF n=false by unfold lF;simp;omega);exact px
 ·have HV:=aa (show lF n=false by unfold lF;simp;omega);exact px
def wordsR:List (List UInt8):=[[65,78,68],[65,82,82,65,89],[66,69,71,73,78],[66,89],[67,65,83,69],[67,79,78,83,84],[68,69,70,73,78,73,84,73,79,78],[68,73,86],[68,79],[69,76,83,69],[69,76,83,73,70],[69,78,68],[69,88,73,84],[69,88,80,79,82,84],[70,79,82],[70,82,79,77],[73,70],[73,77,80,76,69,77,69,78,84,65,84,73,79,78],[73,77,80,79,82,84],[73,78],[76,79,79,80],[77,79,68],[77,79,68,85,76,69],[78,79,84],[79,70],[79,82],[80,79,73,78,84,69,82],[80,82,79,67,69,68,85,82,69],[81,85,65,76,73,70,73,69,68],[82,69,67,79,82,68],[82,69,80,69,65,84],[82,69,84,85,82,78],[83,69,84],[84,72,69,78],[84,79],[84,89,80,69],[85,78,84,73,76],[86,65,82],[87,72,73,76,69],[87,73,84,72]]
theorem adR(w:World):(Instr.buildSlice 42 40 (wordsR.zipIdx.map fun p=>(p.2,fm p.1)).toArray).run Tryz.prog w=.ok (.slice (some ⟨w.heap.size,0,none⟩) 40 40) (w.alloc (.cells (wordsR.map fm).toArray 9)):=by kernel_rfl
def adS(w:World)(e:Ending)(w':World):Prop:=e=.returned (.slice (some ⟨w.heap.size,0,none⟩) 40 40)∧Bx w.heap.size (wordsR.map fm).toArray 9 w'∧Below w.heap.size w w'
theorem adT(w:World):Calls Tryz.prog 149 #[] w (adS w):=by
 have HW:=adR w;go_enter Tryz.func149,Tryz.ntmps149;go_wp2_with fail;go_ret;exact⟨rfl,heap_alloc_new _ _,cB _ _⟩
theorem adU(a b:List UInt8):((⟨a.toArray⟩:ByteArray)==⟨b.toArray⟩)=decide (a=b):=qM a b
attribute [local go_sem] adU
theorem adV:wordsR.length=40:=rfl
theorem acv(s:List UInt8)(w:World):Calls Tryz.prog 124 #[.string ⟨s.toArray⟩] w (Pv w (.bool (decide (s∈wordsR)))):=by
 have HL:=aa adV;generalize hW:wordsR=W at HL ⊢;have HW:=aa hW;clear hW;go_enter Tryz.func124,Tryz.ntmps124;go_wp2_with fail;refine(adT _).mono ?_;rintro e w1 ⟨rfl,hx,hb⟩;rw[HW.out]at hx;have X1:=aa hx;have B1:=aa hb;have z1:=X1.out.cell;have l1:=X1.out.lt;clear hx hb;go_wp2_with fail
 go_loopg [4] 40 (fun gg s4 wr=>∃kk:Nat,kk≤40∧gg=40-kk∧s4=.int .i64 kk∧wr=w1∧decide (s∈W)=decide (s∈W.drop kk))
 case atStart=>exact⟨0,by omega,rfl,rfl,rfl,by simp⟩
 case round=>
  obtain⟨kk,hkk,hgk,rfl,rfl,hf⟩:=hrel;have HF:=aa hf;clear hf;by_cases hlt:kk<40
  ·have hltz:(kk:Int)<40:=by omega
   obtain⟨u,hu⟩:∃u,W[kk]? =some u:=⟨W[kk]'(by have:=HL.out;omega),by simp⟩;have HD:=aa (show W.drop kk=u::W.drop (kk+1)by
    obtain⟨h1,rfl⟩:=List.getElem?_eq_some_iff.1 hu;exact List.drop_eq_getElem_cons h1)
   have HN:=aa (show wrap64 ((kk:Int)+1)=((kk+1:Nat):Int)by rw[Go.IntWalk.wrap64_in _ (by omega)];omega);have c0:wr.cell? ⟨w.heap.size,kk,none⟩=some (.string ⟨u.toArray⟩):=by
    rw[z1 kk];simp[hu,fm]
   clear hu z1;by_cases hs:u=s
   ·have HV:=aa (show decide (s∈W)=true by rw[HF.out,HD.out];simp[hs]);subst hs;exact Gj
   ·have gG:=aa (show decide (s∈W)=decide (s∈W.drop (kk+1))by
     rw[HF.out,HD.out];exact decide_eq_decide.2 ⟨fun h=>(List.mem_cons.1 h).resolve_left (fun e=>hs e.symm),fun h=>List.mem_cons_of_mem _ h⟩)
    have d:(u==s)=false:=beq_eq_false_iff_ne.2 hs;go_wp2_with fail
    go_roundg (gk-1)
    case measure=>omega
    exact⟨kk+1,by omega,by omega,by first|rfl|(rw[HN.out])|simp,rfl,gG.out⟩
  ·obtain rfl:kk=40:=by omega
   have HV:=aa (show decide (s∈W)=false by
    rw[HF.out,←HL.out,List.drop_length];simp)
   exact Gj
end Go.Proofs.YtlpombjidhloiaaGreat
