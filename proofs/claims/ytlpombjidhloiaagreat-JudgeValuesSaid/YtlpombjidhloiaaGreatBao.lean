/- ref06. Condition: what each theorem says. -/
import Derived.Test.YtlpombjidhloiaaGreatBan
import Derived.Deep.RegionHeld3
namespace Go.Proofs.YtlpombjidhloiaaGreat
open Go.RowKit
set_option maxRecDepth 100000
attribute [local go_sem ↓] Go.wp_at_zero Go.wp_at_succ
attribute [local go_sem] dD
def uO:Obj:=.cells #[] 0 (0,0)
def dJ(B:Nat)(W:World):World:={W with heap:=W.heap.mapIdx fun i o=>if i<B then uO else o}
theorem ot(B:Nat)(W:World):(dJ B W).heap.size=W.heap.size:=by unfold dJ;simp
theorem ow{B:Nat}(W:World){k:Nat}(h:B≤k):(dJ B W).heap[k]? =W.heap[k]? :=by
 unfold dJ;rw[Array.getElem?_mapIdx];have:¬k<B:=by omega
 cases W.heap[k]? <;>simp[this]
theorem Hw{B:Nat}(W:World){k:Nat}(h:k<B)(hk:k<W.heap.size):(dJ B W).heap[k]? =some uO:=by
 unfold dJ;rw[Array.getElem?_mapIdx,Array.getElem?_eq_getElem hk];simp[h]
theorem Cy{B:Nat}{W:World}{a:Addr}{v:Value}(h:(dJ B W).cell? a=some v):B≤a.block∧W.cell? a=some v:=by
 by_cases hb:a.block<B
 ·by_cases hk:a.block<W.heap.size
  ·unfold World.cell? at h;rw[Hw W hb hk]at h;simp[uO]at h
  ·unfold World.cell? at h;rw[Array.getElem?_eq_none (by rw[ot];omega)]at h;cases h
 ·unfold World.cell? at h ⊢;rw[ow W (by omega)]at h;exact⟨by omega,h⟩
theorem Hx{B B':Nat}{W:World}{a:Addr}{v:Value}(hB:B'≤B)(h:(dJ B W).cell? a=some v):(dJ B' W).cell? a=some v:=by
 obtain⟨h1,h2⟩:=Cy h;unfold World.cell? at h2 ⊢;rw[ow W (Nat.le_trans hB h1)];exact h2
structure KF(B:Nat)(w w':World):Prop where
 os:w'.os=w.os
 tape:w'.tape=w.tape
 output:w'.output=w.output
 size:w.heap.size≤w'.heap.size
 block:∀k,B≤k→k<w.heap.size→w'.heap[k]? =w.heap[k]?
theorem KF.low{B:Nat}{w w':World}(h:KF B w w'):Below (dJ B w).heap.size (dJ B w) (dJ B w'):=by
 refine⟨h.os,h.tape,h.output,by rw[ot,ot];exact h.size,fun k hk=>?_⟩;rw[ot]at hk;by_cases hb:k<B
 ·rw[Hw _ hb hk,Hw _ hb (Nat.lt_of_lt_of_le hk h.size)]
 ·rw[ow _ (by omega),ow _ (by omega)];exact h.block k (by omega) hk
theorem aX.kf{r B:Nat}{w w':World}(h:aX r w w')(hr:r<B):KF B w w':=⟨h.os,h.tape,h.output,h.size,fun k hB hk=>h.block k hk (by omega)⟩
theorem acC{B:Nat}{w:World}{v:Value}{n:Nat}{cs:List Value}(h:Rw (dJ B w) v n cs):Rw w v n cs:=by
 refine h.imp id ?_;rintro⟨b,o,c,h1,h0,h2,h3⟩;exact⟨b,o,c,h1,h0,by rwa [ot]at h2,fun j u hj=>(Cy (h3 j u hj)).2⟩
theorem acD{B B':Nat}{w:World}{v:Value}{n:Nat}{cs:List Value}(hB:B'≤B)(h:Rw (dJ B w) v n cs):Rw (dJ B' w) v n cs:=by
 refine h.imp id ?_;rintro⟨b,o,c,h1,h0,h2,h3⟩;exact⟨b,o,c,h1,h0,by rwa [ot]at h2 ⊢,fun j u hj=>Hx hB (h3 j u hj)⟩
theorem bg.low{B:Nat}{w:World}{b:Nat}{t:ao}(h:bg (dJ B w) b t):bg w b t:=by
 induction h with
 |mk b t A c bs h hr hl hk ih=>exact .mk b t A c bs (fun i u hi=>(Cy (h i u hi)).2) (acC hr) hl ih
theorem bg.mono{B B':Nat}(hB:B'≤B){w:World}{b:Nat}{t:ao}(h:bg (dJ B w) b t):bg (dJ B' w) b t:=by
 induction h with
 |mk b t A c bs h hr hl hk ih=>exact .mk b t A c bs (fun i u hi=>Hx hB (h i u hi)) (acD hB hr) hl ih
def du(B:Nat)(w:World)(p:Value):Prop:=∃b x,p=cw b∧bg (dJ B w) b x∧Tk x∧ez 1000000 x
theorem du.keep{B:Nat}{w w':World}{p:Value}(h:du B w p)(k:KF B w w'):du B w' p:=by
 obtain⟨b,x,h1,h2,h3⟩:=h;exact⟨b,x,h1,h2.later k.low,h3⟩
theorem du.mono{B B':Nat}{w:World}{p:Value}(h:du B w p)(hB:B'≤B):du B' w p:=by
 obtain⟨b,x,h1,h2,h3⟩:=h;exact⟨b,x,h1,h2.mono hB,h3⟩
theorem kT{B:Nat}{w w':World}(h:Below w.heap.size w w'):KF B w w':=⟨h.os,h.tape,h.output,h.size,fun k _ hk=>h.block k hk⟩
theorem du.grow{B:Nat}{w w':World}{p:Value}(h:du B w p)(k:Below w.heap.size w w'):du B w' p:=h.keep (kT k)
structure kA(B:Nat)(w:World)(bs:List Nat)(l:List ao):Prop where
 len:bs.length=l.length
 at_:∀(i x:Nat) (y:ao),bs[i]? =some x→l[i]? =some y→bg (dJ B w) x y
 tk:∀y∈l,Tk y
 few:∀y∈l,ez 1000000 y
theorem kA.keep{B:Nat}{w w':World}{bs:List Nat}{l:List ao}(h:kA B w bs l)(k:KF B w w'):kA B w' bs l:=
 ⟨h.len,fun i x y hx hy=>(h.at_ i x y hx hy).later k.low,h.tk,h.few⟩
theorem kA.nil(B:Nat)(w:World):kA B w [] []:=⟨rfl,fun i x y hx=>by simp at hx,by simp,by simp⟩
theorem kA.snoc{B:Nat}{w:World}{bs:List Nat}{l:List ao}(h:kA B w bs l){b:Nat}{x:ao}(h1:bg (dJ B w) b x)(h2:Tk x)(h3:ez 1000000 x):kA B w (bs++[b]) (l++[x]):=by
 exact RN
theorem du.kids{B:Nat}{w:World}{p:Value}(h:du B w p):∃b x,p=cw b∧kA B w [b] [x]:=by
 obtain⟨b,x,h1,h2,h3,h4⟩:=h;exact⟨b,x,h1,by simpa using(kA.nil B w).snoc h2 h3 h4⟩
theorem Hy{B B0:Nat}{k:Int}{p:cJ}{s:List UInt8}{n:Nat}{bs:List Nat}{l:List ao}{nb:Nat}{sl:Value}{w':World}(N:eZ B k (fb p.1) (fb p.2) s n (bs.map cw) nb sl w')(hB:B0≤B)(K:kA B0 w' bs l):bg (dJ B0 w') nb (.mk k p s n l):=by
 have hown:(dJ B0 w').ownsRow B 26 1 sl (bs.map cw).length (bs.map cw):=jy N.own (fun g hg=>ow w' (by
  rcases N.own.2 with⟨rfl,_⟩|⟨g',cap,cur,rfl,hg',_⟩
  ·cases hg
  ·have e:g'=g:=Option.some.inj hg;omega))
 have hrw:=Rw.of_own hown;obtain⟨A,c,rfl⟩:=hrw.slice;rw[List.length_map,K.len]at hrw;refine .mk nb (.mk k p s n l) A c bs (fun i u hi=>?_) hrw K.len (fun i x y hx hy=>K.at_ i x y hx hy);have hb:Bx nb (om k (fb p.1) (fb p.2) s n (.slice A (bs.map cw).length c)) 55 (dJ B0 w'):=(ow w' (by have:=N.old;omega)).trans N.box;rw[hb.cell i,←hi];rw[List.length_map,K.len];rfl
def Hz(w0:World)(sv:Value)(L:List bA)(i:Nat)(bad:Bool)(w:World)(e:Ending)(w':World):Prop:=∃p i' bad',e=.returned p∧kS p∧ch w0 sv L i' bad' w'∧aX w0.heap.size w w'∧(bad=true→bad'=true)∧(bad'=false→i<i'∧du w.heap.size w' p)
theorem uP{k:Int}{p:cJ}{s:List UInt8}{n:Nat}{l:List ao}(h:l.length≤1000000)(hl:∀y∈l,ez 1000000 y):ez 1000000 (.mk k p s n l):=.mk _ h hl
theorem Cz{B B0:Nat}{k:Int}{p:cJ}{s:List UInt8}{n:Nat}{nb:Nat}{sl:Value}{w':World}(N:eZ B k (fb p.1) (fb p.2) s n [] nb sl w')(hB:B0≤B)(hk:k=1∨k=5∨k=6∨k=7)(hp:ep p)(hn:k=5→n≤65535):du B0 w' (cw nb):=
 ⟨nb,_,rfl,Hy (bs:=[]) (l:=[]) N hB (kA.nil B0 w'),BU (by omega) (by omega) hp hn (by omega) (by omega) (by omega) (by simp),uP (by simp) (by simp)⟩
theorem CA{B B0:Nat}{k:Int}{p:cJ}{s:List UInt8}{q:Value}{nb:Nat}{sl:Value}{w w':World}(hq:du B0 w q)(ho:KF B0 w w')(N:eZ B k (fb p.1) (fb p.2) s 0 (pL q) nb sl w')(hB:B0≤B)(hk:k=2∨k=4∨k=12)(hp:ep p):du B0 w' (cw nb):=by
 obtain⟨b,x,rfl,K⟩:=hq.kids;exact⟨nb,_,rfl,Hy (bs:=[b]) (l:=[x]) (n:=0) N hB (K.keep ho),abr hk hp (K.tk x (by simp)),uP (by simp) K.few⟩
theorem uQ{B B0:Nat}{k:Int}{p:cJ}{s:List UInt8}{q q2:Value}{nb:Nat}{sl:Value}{w w2 w':World}(hq:du B0 w q)(ho:KF B0 w w')(jd:du B0 w2 q2)(eu:KF B0 w2 w')(N:eZ B k (fb p.1) (fb p.2) s 0 (pL q++pL q2) nb sl w')(hB:B0≤B)(hk:k=3∨k=9∨k=11)(hp:ep p):du B0 w' (cw nb):=by
 obtain⟨b,x,rfl,h1,h2,h3⟩:=hq;obtain⟨b2,x2,rfl,h4,h5,h6⟩:=jd;have K:kA B0 w' ([]++[b]++[b2]) ([]++[x]++[x2]):=((kA.nil B0 w').snoc (h1.later ho.low) h2 h3).snoc (h4.later eu.low) h5 h6;exact⟨nb,_,rfl,Hy (bs:=[b,b2]) (l:=[x,x2]) (n:=0) N hB K,Qx hk hp h2 h5,uP (by simp) K.few⟩
theorem RP{w0:World}{sv:Value}{L:List bA}(P:PW w0 sv L){i:Nat}{bad:Bool}{w:World}(h:ch w0 sv L i bad w):Calls Tryz.prog 86 #[.pointer (some ⟨w0.heap.size,0,none⟩)] w (Hz w0 sv L i bad w):=by
 have HN:=aa (kr P h);have H:=aa h;have HP:=aa P;clear h P;go_enter Tryz.func86,Tryz.ntmps86;go_wp2_with fail;refine HN.out.mono ?_;rintro e w1 ⟨⟨x,y,rfl⟩,ae⟩;have aO:=aa ae;have H1:=aa (H.out.only ae);clear ae;generalize ht:bL L i=t;obtain⟨tk,tp,tt,tn⟩:=t;have HT:=aa ht;clear ht;go_upto_region 2 with(fail);generalize aU:w1.alloc _=w2;obtain⟨af,x2,bu⟩:=made aU;have H2:=aa (H1.out.only af);have O2:=aa (aX.of (r:=w0.heap.size) (aO.out.trans (af.mono aO.out.size)));have X2:=aa x2;have hne:=H1.out.box.lt;have r1:=H2.out.box.cell 1;have r2:=H2.out.box.cell 2;have g1:=H2.out.box.frozen 1;have g2:=H2.out.box.frozen 2;have rl:=H2.out.box.lt;have x1:=X2.out.cell;have xl:=X2.out.lt;clear aU af x2 bu;cases bad;case true=>
  exact RQ
 by_cases hk:tk=1
 ·subst hk;obtain⟨hi,hT⟩:=ni HP.out (show(bL L i).kind≠0 by rw[HT.out];exact(by decide:(1:Int)≠0));rw[HT.out]at hT;have hf:=HP.out.few;have HW:=aa (show wrap64 ((i:Int)+1)=((i+1:Nat):Int)by rw[Go.IntWalk.wrap64_in _ (by omega)];omega);go_wp2_with fail;generalize cU:w2.setCell _ _=w3;have H3:ch w0 sv L (i+1) false w3:=by rw[←cU];exact⟨H2.out.below.setCell (Nat.le_refl _) _,H2.out.box.set 1 _,hi⟩
  have O3:aX w0.heap.size w w3:=by rw[←cU];exact O2.out.set (p:=⟨w0.heap.size,1,none⟩) (.inl rfl) _
  clear cU;refine(jz 1 (fb tp.1) (fb tp.2) tt (.inl rfl) (.inl rfl) _).mono ?_;rintro e w4 ⟨nb,sl,rfl,aw,N⟩;go_wp2_with fail;go_ret;exact⟨_,i+1,false,rfl,.inr ⟨nb,rfl⟩,H3.only aw,O3.then aw,(fun h=>by cases h),fun _=>⟨Nat.lt_succ_self _,Cz N O3.size (.inl rfl) hT.pos (by decide)⟩⟩
 ·have d1:(tk != 1)=true:=bne_iff_ne.2 hk;exact RQ
def mu(L:List bA)(i:Nat)(bad:Bool):Nat:=if bad then 0 else L.length-i+1
def iY(f:FuncId)(w0:World)(sv:Value)(L:List bA)(m:Nat):Prop:=∀(i:Nat) (bad:Bool) (w:World),ch w0 sv L i bad w→mu L i bad≤m→Calls Tryz.prog f #[.pointer (some ⟨w0.heap.size,0,none⟩)] w (Hz w0 sv L i bad w)
theorem qU{L:List bA}{i i':Nat}{bad bad':Bool}{m:Nat}(h:mu L i bad≤m)(hb:bad=true→bad'=true)(hi:bad'=false→i≤i'):mu L i' bad'≤m:=by
 unfold mu at *;cases bad' with
 |true=>exact Nat.zero_le _
 |false=>
  have:=hi rfl;cases bad with
  |true=>exact absurd (hb rfl) (by decide)
  |false=>simp at *;omega
theorem xu{b:Nat}{ops:List (List UInt8)}{w:World}{n:Nat}(_hn:ops.length=n)(h:Bx b (ops.map fm).toArray 9 w):Rw w (.slice (some ⟨b,0,none⟩) n n) n (ops.map fm):=by
 refine .inr ⟨b,0,n,rfl,Nat.le_refl _,h.lt,fun j u hj=>?_⟩;rw[Nat.zero_add,h.cell];simpa using hj
def acE:List (List UInt8):=[[61],[35],[60],[60,61],[62],[62,61],[73,78]]
set_option maxHeartbeats 2000000 in
theorem RS{w0:World}{sv:Value}{L:List bA}(P:PW w0 sv L){m:Nat}(S:iY 82 w0 sv L m):iY 53 w0 sv L m:=by
 intro i bad w h hm;have HS:=aa S;have HP:=aa P;have H:=aa h;have HM:=aa hm;have HN:=aa (S i bad w h hm);have HLT:=aa h.box.lt;clear S P h hm;go_enter Tryz.func53,Tryz.ntmps53;go_wp2_with fail;refine HN.out.mono ?_;rintro e w1 ⟨p,i1,dW,rfl,hp,h1,eC,hbad,hgood⟩;go_upto_region 2 with(fail);have T1:=aa (fun e=>(hgood e).2);have I1:=aa (fun e=>(hgood e).1);have HB:=aa hbad;have HPP:=aa hp;clear hgood hbad hp;go_wp2_with fail;generalize aU:w1.alloc _=w2;obtain⟨af,x2,bu⟩:=made aU;refine(xr HP.out (h1.only af) acE (xu rfl x2) (by decide)).mono ?_;rintro e w3 ⟨⟨q,rfl,hq⟩,ad⟩;have ed:=af.trans (ad.mono af.size);have H3:=aa (h1.only ed);have O3:=aa (eC.then ed);have T3:=aa (fun e=>(T1.out e).grow ed);clear aU af x2 bu ad ed T1 h1 eC;cases q
 ·exact RT
 obtain⟨rfl,hk⟩:=hq rfl;have TT:=aa (T3.out rfl);have II:=I1.out rfl;clear T3 I1;obtain⟨hi,hT⟩:=ni HP.out hk;clear hq hk;go_wp2_with fail;refine(kr HP.out H3.out).mono ?_;rintro e w4 ⟨⟨x,y,rfl⟩,aw⟩;generalize bL L i1=t at hT;obtain⟨tk,tp,tt,tn⟩:=t;go_upto_region 4 with(fail);generalize dA:w4.alloc _=w5;obtain⟨au,x5,iw⟩:=made dA;have qe:=aw.trans (au.mono aw.size);have H5:=aa (H3.out.only qe);have O5:=aa (O3.out.then qe);have T5:=aa (TT.out.grow qe);have X5:=aa x5;have hne:w4.heap.size≠w0.heap.size:=by have:=H3.out.box.lt;have:=aw.size;omega
 have HT:=aa hT.pos;have hf:=HP.out.few;have HW:=aa (show wrap64 ((i1:Int)+1)=((i1+1:Nat):Int)by rw[Go.IntWalk.wrap64_in _ (by omega)];omega);have r1:=H5.out.box.cell 1;have g1:=H5.out.box.frozen 1;have rl:=H5.out.box.lt;clear dA au x5 iw aw qe TT H3 O3 hT;go_upto_region 5 with(fail);generalize aH:w5.setCell _ _=w6;have H6:ch w0 sv L (i1+1) false w6:=by rw[←aH];exact⟨H5.out.below.setCell (Nat.le_refl _) _,H5.out.box.set 1 _,hi⟩
 have o56:aX w0.heap.size w5 w6:=by rw[←aH];exact(aX.refl _ _).set (p:=⟨w0.heap.size,1,none⟩) (.inl rfl) _
 have H6d:=aa (show ch w0 sv L (i1+1) false w6.drew from⟨lH H6.below,H6.box,H6.le⟩);have O6:=aa (O5.out.trans o56.drew);have T6:=aa (T5.out.keep (o56.drew.kf HLT.out));have X6:=aa (show Bx w4.heap.size _ 177 w6.drew from o56.bx X5.out hne);have c1:w6.drew.cell? ⟨w4.heap.size,1,none⟩=some (.complex .f64 (fb tp.1) (fb tp.2)):=(X6.out.cell 1).trans rfl;have c3:w6.drew.cell? ⟨w4.heap.size,3,none⟩=some (.string ⟨tt.toArray⟩):=(X6.out.cell 3).trans rfl;have e1:w6.cell? ⟨w4.heap.size,1,none⟩=some (.complex .f64 (fb tp.1) (fb tp.2)):=c1;have e3:w6.cell? ⟨w4.heap.size,3,none⟩=some (.string ⟨tt.toArray⟩):=c3;have HMM:=aa (qU (i':=i1+1) (bad':=false) HM.out HB.out (fun _=>by omega));clear aH H6 o56 T5 X5 O5 H5 r1 g1 rl;go_region_held3 (fun w'=>w'.cell? ⟨w4.heap.size,1,none⟩=some (.complex .f64 (fb tp.1) (fb tp.2))∧w'.cell? ⟨w4.heap.size,3,none⟩=some (.string ⟨tt.toArray⟩)) (go_keep) (first
  |(go_at_call 82
    refine(HS.out _ _ _ H6d.out HMM.out).mono ?_;rintro e w7 ⟨p2,i2,eS,rfl,hp2,h7,gw,rE,fK⟩;have X7:=gw.bx X6.out hne;have s1:w7.cell? ⟨w4.heap.size,1,none⟩=some (.complex .f64 (fb tp.1) (fb tp.2)):=(X7.cell 1).trans rfl;have s3:w7.cell? ⟨w4.heap.size,3,none⟩=some (.string ⟨tt.toArray⟩):=(X7.cell 3).trans rfl)
  |(go_at_call 85
    refine(jz 11 (fb tp.1) (fb tp.2) tt HPP.out hp2 _).mono ?_;rintro e w8 ⟨nb,sl,rfl,aB,N⟩;have X8:=X7.grow aB;have s1:w8.cell? ⟨w4.heap.size,1,none⟩=some (.complex .f64 (fb tp.1) (fb tp.2)):=(X8.cell 1).trans rfl;have s3:w8.cell? ⟨w4.heap.size,3,none⟩=some (.string ⟨tt.toArray⟩):=(X8.cell 3).trans rfl))
 all_goals go_wp2_with fail
 all_goals go_ret
 all_goals exact⟨_,i2,eS,rfl,.inr ⟨nb,rfl⟩,h7.only aB,(O6.out.trans gw).then aB,fun e=>absurd (HB.out e) (by decide),fun e=>⟨by have:=(fK e).1;omega,uQ T6.out ((gw.then aB).kf HLT.out) ((fK e).2.mono O6.out.size) (kT aB) N (Nat.le_trans O6.out.size gw.size) (by decide) HT.out⟩⟩
theorem pN{L:List bA}{i i':Nat}{bad':Bool}(h:bad'=false→i<i')(hi:i<L.length:=by omega):mu L i' bad'<mu L i false:=by
 unfold mu;cases bad' with
 |true=>simp
 |false=>have:=h rfl;simp;omega
def acJ:List (List UInt8):=[[42],[47],[68,73,86],[77,79,68],[65,78,68]]
set_option maxHeartbeats 2000000 in
theorem RV{w0:World}{sv:Value}{L:List bA}(P:PW w0 sv L){m:Nat}(S:iY 150 w0 sv L m):iY 126 w0 sv L m:=by
 intro i bad w h hm;have HS:=aa S;have HP:=aa P;have HM:=aa hm;have HN:=aa (S i bad w h hm);have HLT:=aa h.box.lt;clear S P h hm;go_enter Tryz.func126,Tryz.ntmps126;go_wp2_with fail;refine HN.out.mono ?_;rintro e w1 ⟨p,i1,dW,rfl,hp,h1,eC,hbad,hgood⟩;have HR:=aa (show ∃q i' bad',p=q∧kS q∧ch w0 sv L i' bad' w1∧aX w0.heap.size w w1∧(bad=true→bad'=true)∧(bad'=false→i<i'∧du w.heap.size w1 q)∧mu L i1 dW=mu L i' bad' from⟨p,i1,dW,rfl,hp,h1,eC,hbad,hgood,rfl⟩);clear hp h1 eC hbad hgood;go_wp2_with fail
 go_loopg [3] (mu L i1 dW) (fun gg s3 wr=>∃q i' bad',s3=q∧kS q∧ch w0 sv L i' bad' wr∧aX w0.heap.size w wr∧(bad=true→bad'=true)∧(bad'=false→i<i'∧du w.heap.size wr q)∧gg=mu L i' bad')
 case atStart=>exact HR.out
 case round=>
  clear HR;obtain⟨p,i1,dW,rfl,hp,h1,eC,hbad,hgood,hgk⟩:=hrel;have T1:=aa (fun e=>(hgood e).2);have I1:=aa (fun e=>(hgood e).1);have HB:=aa hbad;have HPP:=aa hp;subst hgk;clear hgood hbad hp;go_wp2_with fail;generalize aU:wr.alloc _=w2;obtain⟨af,x2,bu⟩:=made aU;refine(xr HP.out (h1.only af) acJ (xu rfl x2) (by decide)).mono ?_;rintro e w3 ⟨⟨q,rfl,hq⟩,ad⟩;have ed:=af.trans (ad.mono af.size);have H3:=aa (h1.only ed);have O3:=aa (eC.then ed);have T3:=aa (fun e=>(T1.out e).grow ed);clear aU af x2 bu ad ed T1 h1 eC;cases q
  ·exact RT
  obtain⟨rfl,hk⟩:=hq rfl;have TT:=aa (T3.out rfl);have II:=I1.out rfl;clear T3 I1;obtain⟨hi,hT⟩:=ni HP.out hk;clear hq hk;go_wp2_with fail;refine(kr HP.out H3.out).mono ?_;rintro e w4 ⟨⟨x,y,rfl⟩,aw⟩;generalize bL L i1=t at hT;obtain⟨tk,tp,tt,tn⟩:=t;go_upto_region 4 with(fail);generalize dA:w4.alloc _=w5;obtain⟨au,x5,iw⟩:=made dA;have qe:=aw.trans (au.mono aw.size);have H5:=aa (H3.out.only qe);have O5:=aa (O3.out.then qe);have T5:=aa (TT.out.grow qe);have X5:=aa x5;have hne:w4.heap.size≠w0.heap.size:=by have:=H3.out.box.lt;have:=aw.size;omega
  have HT:=aa hT.pos;have hf:=HP.out.few;have HW:=aa (show wrap64 ((i1:Int)+1)=((i1+1:Nat):Int)by rw[Go.IntWalk.wrap64_in _ (by omega)];omega);have r1:=H5.out.box.cell 1;have g1:=H5.out.box.frozen 1;have rl:=H5.out.box.lt;clear dA au x5 iw aw qe TT H3 O3 hT;go_upto_region 5 with(fail);generalize aH:w5.setCell _ _=w6;have H6:ch w0 sv L (i1+1) false w6:=by rw[←aH];exact⟨H5.out.below.setCell (Nat.le_refl _) _,H5.out.box.set 1 _,hi⟩
  have o56:aX w0.heap.size w5 w6:=by rw[←aH];exact(aX.refl _ _).set (p:=⟨w0.heap.size,1,none⟩) (.inl rfl) _
  have H6d:=aa (show ch w0 sv L (i1+1) false w6.drew from⟨lH H6.below,H6.box,H6.le⟩);have O6:=aa (O5.out.trans o56.drew);have T6:=aa (T5.out.keep (o56.drew.kf HLT.out));have X6:=aa (show Bx w4.heap.size _ 177 w6.drew from o56.bx X5.out hne);have c1:w6.drew.cell? ⟨w4.heap.size,1,none⟩=some (.complex .f64 (fb tp.1) (fb tp.2)):=(X6.out.cell 1).trans rfl;have c3:w6.drew.cell? ⟨w4.heap.size,3,none⟩=some (.string ⟨tt.toArray⟩):=(X6.out.cell 3).trans rfl;have e1:w6.cell? ⟨w4.heap.size,1,none⟩=some (.complex .f64 (fb tp.1) (fb tp.2)):=c1;have e3:w6.cell? ⟨w4.heap.size,3,none⟩=some (.string ⟨tt.toArray⟩):=c3;have HMM:=aa (qU (i':=i1+1) (bad':=false) HM.out HB.out (fun _=>by omega));clear aH H6 o56 T5 X5 O5 H5 r1 g1 rl;go_region_held3 (fun w'=>w'.cell? ⟨w4.heap.size,1,none⟩=some (.complex .f64 (fb tp.1) (fb tp.2))∧w'.cell? ⟨w4.heap.size,3,none⟩=some (.string ⟨tt.toArray⟩)) (go_keep) (first
   |(go_at_call 150
     refine(HS.out _ _ _ H6d.out HMM.out).mono ?_;rintro e w7 ⟨p2,i2,eS,rfl,hp2,h7,gw,rE,fK⟩;have X7:=gw.bx X6.out hne;have s1:w7.cell? ⟨w4.heap.size,1,none⟩=some (.complex .f64 (fb tp.1) (fb tp.2)):=(X7.cell 1).trans rfl;have s3:w7.cell? ⟨w4.heap.size,3,none⟩=some (.string ⟨tt.toArray⟩):=(X7.cell 3).trans rfl)
   |(go_at_call 85
     refine(jz 11 (fb tp.1) (fb tp.2) tt HPP.out hp2 _).mono ?_;rintro e w8 ⟨nb,sl,rfl,aB,N⟩;have X8:=X7.grow aB;have s1:w8.cell? ⟨w4.heap.size,1,none⟩=some (.complex .f64 (fb tp.1) (fb tp.2)):=(X8.cell 1).trans rfl;have s3:w8.cell? ⟨w4.heap.size,3,none⟩=some (.string ⟨tt.toArray⟩):=(X8.cell 3).trans rfl))
  all_goals go_wp2_with fail
  all_goals go_roundg (mu L i2 eS)
  case measure=>exact pN (fun e=>by have:=(fK e).1;omega)
  exact⟨_,i2,eS,rfl,.inr ⟨nb,rfl⟩,h7.only aB,(O6.out.trans gw).then aB,fun e=>absurd (HB.out e) (by decide),fun e=>⟨by have:=(fK e).1;omega,uQ T6.out ((gw.then aB).kf HLT.out) ((fK e).2.mono O6.out.size) (kT aB) N (Nat.le_trans O6.out.size gw.size) (by decide) HT.out⟩,rfl⟩
theorem Sd{k b:Nat}{cs:Array Value}{T:TypeId}{w:World}(h:Bx k cs T w)(hk:k≠b){v0 v1 v2 v3 v4:Value}:Bx k cs T (((((w.setCell ⟨b,0,none⟩ v0).setCell ⟨b,1,none⟩ v1).setCell ⟨b,2,none⟩ v2).setCell ⟨b,3,none⟩ v3).setCell ⟨b,4,none⟩ v4):=
 ((((h.far (a:=⟨b,0,none⟩) hk _).far (a:=⟨b,1,none⟩) hk _).far (a:=⟨b,2,none⟩) hk _).far (a:=⟨b,3,none⟩) hk _).far (a:=⟨b,4,none⟩) hk _
theorem Se{r b:Nat}{a w:World}(h:aX r a w)(hk:a.heap.size≤b){v0 v1 v2 v3 v4:Value}:aX r a (((((w.setCell ⟨b,0,none⟩ v0).setCell ⟨b,1,none⟩ v1).setCell ⟨b,2,none⟩ v2).setCell ⟨b,3,none⟩ v3).setCell ⟨b,4,none⟩ v4):=
 ((((h.set (p:=⟨b,0,none⟩) (.inr hk) _).set (p:=⟨b,1,none⟩) (.inr hk) _).set (p:=⟨b,2,none⟩) (.inr hk) _).set (p:=⟨b,3,none⟩) (.inr hk) _).set (p:=⟨b,4,none⟩) (.inr hk) _
theorem xw{B:Nat}{a w:World}(h:KF B a w){p:Addr}(hk:p.block<B)(v:Value):KF B a (w.setCell p v):=
 ⟨h.os,h.tape,h.output,by rw[sG];exact h.size,fun k hB hl=>(Below.heap_setCell w p v k (by omega)).trans (h.block k hB hl)⟩
theorem Sf{B b:Nat}{a w:World}(h:KF B a w)(hk:b<B){v0 v1 v2 v3 v4:Value}:KF B a (((((w.setCell ⟨b,0,none⟩ v0).setCell ⟨b,1,none⟩ v1).setCell ⟨b,2,none⟩ v2).setCell ⟨b,3,none⟩ v3).setCell ⟨b,4,none⟩ v4):=
 xw (p:=⟨b,4,none⟩) (xw (p:=⟨b,3,none⟩) (xw (p:=⟨b,2,none⟩) (xw (p:=⟨b,1,none⟩) (xw (p:=⟨b,0,none⟩) h hk v0) hk v1) hk v2) hk v3) hk v4
def Sg:List (List UInt8):=[[43],[45],[79,82]]
def acU:List (List UInt8):=[[43],[45]]
set_option maxHeartbeats 4000000 in
theorem Sh{w0:World}{sv:Value}{L:List bA}(P:PW w0 sv L){m:Nat}(S:iY 126 w0 sv L m):iY 82 w0 sv L m:=by
 intro i bad w h hm;have HS:=aa S;have HP:=aa P;have HM:=aa hm;have H:=aa h;have HLT:=aa h.box.lt;clear S P h hm;go_enter Tryz.func82,Tryz.ntmps82;go_wp2_with fail;refine(kr HP.out H.out).mono ?_;rintro e w1 ⟨⟨x0,y0,rfl⟩,ae⟩;generalize jD:bL L i=t0;obtain⟨Kn,tv,DQ,Ko⟩:=t0;go_upto_region 2 with(fail);generalize aU:w1.alloc _=w2;obtain⟨af,x2,bu⟩:=made aU;generalize htbe:w1.heap.size=tb at *;have htb:w.heap.size≤tb:=by have:=ae.size;omega
 have htr:w0.heap.size≠tb:=by have:=HLT.out;omega
 have B2:=aa (ae.trans ((show Below tb w1 w2 by rw[←htbe];exact htbe▸af).mono (by omega)));have X2:=aa x2;have th:=aa jD;clear aU af x2 bu ae jD;have HRT:=aa (show w0.heap.size<tb+1 by have:=HLT.out;omega);go_wp2_with fail;generalize cU:w2.alloc _=w3;obtain⟨ad,x3,iv⟩:=made cU;have H3:=aa (H.out.only (B2.out.trans (ad.mono B2.out.size)));have B3:=aa (B2.out.trans (ad.mono B2.out.size));have X3:=aa (X2.out.grow ad);refine(xr HP.out H3.out acU (xu rfl x3) (by decide)).mono ?_;rintro e w4 ⟨⟨q,rfl,hq⟩,aw⟩;have H4:=aa (H3.out.only aw);have B4:=aa (B3.out.trans (aw.mono B3.out.size));have X4:=aa (X3.out.grow aw);clear cU ad x3 iv aw H3 B3 X3 X2 B2 H;cases q
 ·go_wp2_with fail;refine(HS.out _ _ _ H4.out HM.out).mono ?_;rintro e w5 ⟨p,i1,dW,rfl,hp,h5,di,hbad,hgood⟩;have HR:=aa (show ∃q i' bad',p=q∧kS q∧ch w0 sv L i' bad' w5∧aX w0.heap.size w w5∧(bad=true→bad'=true)∧(bad'=false→i<i'∧du (tb+1) w5 q)∧mu L i1 dW=mu L i' bad'∧∃t x y,Bx tb (dD t x y) 177 w5 from⟨p,i1,dW,rfl,hp,h5,(aX.of B4.out).trans di,hbad,fun e=>⟨(hgood e).1,(hgood e).2.mono X4.out.lt⟩,rfl,⟨Kn,tv,DQ,Ko⟩,x0,y0,di.bx X4.out (Ne.symm htr)⟩);clear hp h5 di hbad hgood;go_wp2_with fail
  go_loopg [5] (mu L i1 dW) (fun gg s5 wr=>∃q i' bad',s5=q∧kS q∧ch w0 sv L i' bad' wr∧aX w0.heap.size w wr∧(bad=true→bad'=true)∧(bad'=false→i<i'∧du (tb+1) wr q)∧gg=mu L i' bad'∧∃t x y,Bx tb (dD t x y) 177 wr)
  case atStart=>exact HR.out
  case round=>
   clear HR;obtain⟨p,i1,dW,rfl,hp,h1,eC,hbad,hgood,hgk,tz,xz,yz,hxz⟩:=hrel;have T1:=aa (fun e=>(hgood e).2);have I1:=aa (fun e=>(hgood e).1);have HB:=aa hbad;have HPP:=aa hp;subst hgk;clear hgood hbad hp;go_wp2_with fail;generalize aU:wr.alloc _=w2;obtain⟨af,x2,bu⟩:=made aU;refine(xr HP.out (h1.only af) Sg (xu rfl x2) (by decide)).mono ?_;rintro e w3 ⟨⟨q,rfl,hq⟩,ad⟩;have ed:=af.trans (ad.mono af.size);have H3:=aa (h1.only ed);have O3:=aa (eC.then ed);have T3:=aa (fun e=>(T1.out e).grow ed);have X3:=aa (hxz.grow ed);clear aU af x2 bu ad ed T1 h1 eC hxz;cases q
   ·exact Si
   obtain⟨rfl,hk⟩:=hq rfl;have TT:=aa (T3.out rfl);have II:=I1.out rfl;clear T3 I1;obtain⟨hi,hT⟩:=ni HP.out hk;clear hq hk;go_wp2_with fail;refine(kr HP.out H3.out).mono ?_;rintro e w4 ⟨⟨x,y,rfl⟩,aw⟩;generalize bL L i1=t at hT;obtain⟨tk,tp,tt,tn⟩:=t;have H4:=aa (H3.out.only aw);have O4:=aa (O3.out.then aw);have T4:=aa (TT.out.grow aw);have X4:=aa (X3.out.grow aw);have q4:=X4.out.cell;have p4:=X4.out.frozen;have m4:=X4.out.lt;clear aw TT H3 O3 X3;go_upto_region 10 with(fail);generalize dA:World.setCell _ _ _=w5;have X5:=aa (show Bx tb (dD ⟨tk,tp,tt,tn⟩ x y) 177 w5 by rw[←dA];exact Cw X4.out ⟨tk,tp,tt,tn⟩ x y);have o45:aX w0.heap.size w w5:=by rw[←dA];exact Se O4.out htb
   have H5:=aa (show ch w0 sv L i1 false w5 by rw[←dA];exact⟨Cv H4.out.below (Nat.le_of_lt (Nat.lt_of_lt_of_le HLT.out htb)),Sd H4.out.box htr,H4.out.le⟩);have T5:=aa (show du (tb+1) w5 u5 by rw[←dA];exact T4.out.keep (Sf (kT (Below.refl _ _)) (Nat.lt_succ_self _)));have O5:=aa o45;have HT:=aa hT.pos;have hf:=HP.out.few;have HW:=aa (show wrap64 ((i1:Int)+1)=((i1+1:Nat):Int)by rw[Go.IntWalk.wrap64_in _ (by omega)];omega);have r1:=H5.out.box.cell 1;have g1:=H5.out.box.frozen 1;have rl:=H5.out.box.lt;clear dA o45 hT H4 O4 T4 X4 q4 p4 m4;go_upto_region 11 with(fail);generalize aH:w5.setCell _ _=w6;have H6:ch w0 sv L (i1+1) false w6:=by rw[←aH];exact⟨H5.out.below.setCell (Nat.le_refl _) _,H5.out.box.set 1 _,hi⟩
   have o56:aX w0.heap.size w5 w6:=by rw[←aH];exact(aX.refl _ _).set (p:=⟨w0.heap.size,1,none⟩) (.inl rfl) _
   have H6d:=aa (show ch w0 sv L (i1+1) false w6.drew from⟨lH H6.below,H6.box,H6.le⟩);have O6:=aa (O5.out.trans o56.drew);have T6:=aa (T5.out.keep (o56.drew.kf HRT.out));have X6:=aa (show Bx tb _ 177 w6.drew from o56.bx X5.out (Ne.symm htr));have c1:w6.drew.cell? ⟨tb,1,none⟩=some (.complex .f64 (fb tp.1) (fb tp.2)):=(X6.out.cell 1).trans rfl;have c3:w6.drew.cell? ⟨tb,3,none⟩=some (.string ⟨tt.toArray⟩):=(X6.out.cell 3).trans rfl;have e1:w6.cell? ⟨tb,1,none⟩=some (.complex .f64 (fb tp.1) (fb tp.2)):=c1;have e3:w6.cell? ⟨tb,3,none⟩=some (.string ⟨tt.toArray⟩):=c3;have HMM:=aa (qU (i':=i1+1) (bad':=false) HM.out HB.out (fun _=>by omega));clear aH H6 o56 T5 X5 O5 H5 r1 g1 rl;go_region_held3 (fun w'=>w'.cell? ⟨tb,1,none⟩=some (.complex .f64 (fb tp.1) (fb tp.2))∧w'.cell? ⟨tb,3,none⟩=some (.string ⟨tt.toArray⟩)) (go_keep) (first
    |(go_at_call 126
      refine(HS.out _ _ _ H6d.out HMM.out).mono ?_;rintro e w7 ⟨p2,i2,eS,rfl,hp2,h7,gw,rE,fK⟩;have X7:=gw.bx X6.out (Ne.symm htr);have s1:w7.cell? ⟨tb,1,none⟩=some (.complex .f64 (fb tp.1) (fb tp.2)):=(X7.cell 1).trans rfl;have s3:w7.cell? ⟨tb,3,none⟩=some (.string ⟨tt.toArray⟩):=(X7.cell 3).trans rfl)
    |(go_at_call 85
      refine(jz 11 (fb tp.1) (fb tp.2) tt HPP.out hp2 _).mono ?_;rintro e w8 ⟨nb,sl,rfl,aB,N⟩;have X8:=X7.grow aB;have s1:w8.cell? ⟨tb,1,none⟩=some (.complex .f64 (fb tp.1) (fb tp.2)):=(X8.cell 1).trans rfl;have s3:w8.cell? ⟨tb,3,none⟩=some (.string ⟨tt.toArray⟩):=(X8.cell 3).trans rfl))
   all_goals go_wp2_with fail
   all_goals go_roundg (mu L i2 eS)
   case measure=>exact pN (fun e=>by have:=(fK e).1;omega)
   exact Sj
 ·obtain⟨rfl,hk⟩:=hq rfl;obtain⟨hi,hT⟩:=ni HP.out hk;rw[th.out]at hT;have Kg:=aa hT.pos;have hf:=HP.out.few;have HW:=aa (show wrap64 ((i:Int)+1)=((i+1:Nat):Int)by rw[Go.IntWalk.wrap64_in _ (by omega)];omega);have r1:=H4.out.box.cell 1;have g1:=H4.out.box.frozen 1;have rl:=H4.out.box.lt;clear hT hk hq;go_upto_region 5 with(fail);generalize aH:w4.setCell _ _=w6;have H6:=aa (show ch w0 sv L (i+1) false w6 by rw[←aH];exact⟨H4.out.below.setCell (Nat.le_refl _) _,H4.out.box.set 1 _,hi⟩);have o46:aX w0.heap.size w4 w6:=by rw[←aH];exact(aX.refl _ _).set (p:=⟨w0.heap.size,1,none⟩) (.inl rfl) _
  have O6:=aa ((aX.of B4.out).trans o46);have X6:=aa (o46.bx X4.out (Ne.symm htr));have HM6:=aa (qU (i':=i+1) (bad':=false) HM.out (fun e=>e) (fun _=>Nat.le_succ _));clear aH o46 H4 B4 X4 r1 g1 rl;go_wp2_with fail;refine(HS.out _ _ _ H6.out HM6.out).mono ?_;rintro e w7 ⟨p,i1,dW,rfl,hp,h7,gw,hbad,hgood⟩;have X7:=aa (gw.bx X6.out (Ne.symm htr));have q7:=X7.out.cell;have m7:=X7.out.lt;go_wp2_with fail;refine(jz 12 (fb tv.1) (fb tv.2) DQ hp (.inl rfl) _).mono ?_;rintro e w8 ⟨nb,sl,rfl,aB,N⟩;have HR:=aa (show ∃q i' bad',cw nb=q∧kS q∧ch w0 sv L i' bad' w8∧aX w0.heap.size w w8∧(false=true→bad'=true)∧(bad'=false→i<i'∧du (tb+1) w8 q)∧mu L i1 dW=mu L i' bad'∧∃t x y,Bx tb (dD t x y) 177 w8 from⟨cw nb,i1,dW,rfl,.inr ⟨nb,rfl⟩,h7.only aB,(O6.out.trans gw).then aB,fun e=>(by cases e),fun e=>⟨by have:=(hgood e).1;omega,CA ((hgood e).2.mono X6.out.lt) (kT aB) (by simpa[pL]using N) X7.out.lt (by decide) Kg.out⟩,rfl,⟨Kn,tv,DQ,Ko⟩,x0,y0,X7.out.grow aB⟩);clear hp h7 gw hbad hgood aB N q7 m7;go_wp2_with fail
  go_loopg [5] (mu L i1 dW) (fun gg s5 wr=>∃q i' bad',s5=q∧kS q∧ch w0 sv L i' bad' wr∧aX w0.heap.size w wr∧(false=true→bad'=true)∧(bad'=false→i<i'∧du (tb+1) wr q)∧gg=mu L i' bad'∧∃t x y,Bx tb (dD t x y) 177 wr)
  case atStart=>exact HR.out
  case round=>
   clear HR;obtain⟨p,i1,dW,rfl,hp,h1,eC,hbad,hgood,hgk,tz,xz,yz,hxz⟩:=hrel;have T1:=aa (fun e=>(hgood e).2);have I1:=aa (fun e=>(hgood e).1);have HB:=aa hbad;have HPP:=aa hp;subst hgk;clear hgood hbad hp;go_wp2_with fail;generalize aU:wr.alloc _=w2;obtain⟨af,x2,bu⟩:=made aU;refine(xr HP.out (h1.only af) Sg (xu rfl x2) (by decide)).mono ?_;rintro e w3 ⟨⟨q,rfl,hq⟩,ad⟩;have ed:=af.trans (ad.mono af.size);have H3:=aa (h1.only ed);have O3:=aa (eC.then ed);have T3:=aa (fun e=>(T1.out e).grow ed);have X3:=aa (hxz.grow ed);clear aU af x2 bu ad ed T1 h1 eC hxz;cases q
   ·exact Si
   obtain⟨rfl,hk⟩:=hq rfl;have TT:=aa (T3.out rfl);have II:=I1.out rfl;clear T3 I1;obtain⟨hi,hT⟩:=ni HP.out hk;clear hq hk;go_wp2_with fail;refine(kr HP.out H3.out).mono ?_;rintro e w4 ⟨⟨x,y,rfl⟩,aw⟩;generalize bL L i1=t at hT;obtain⟨tk,tp,tt,tn⟩:=t;have H4:=aa (H3.out.only aw);have O4:=aa (O3.out.then aw);have T4:=aa (TT.out.grow aw);have X4:=aa (X3.out.grow aw);have q4:=X4.out.cell;have p4:=X4.out.frozen;have m4:=X4.out.lt;clear aw TT H3 O3 X3;go_upto_region 10 with(fail);generalize dA:World.setCell _ _ _=w5;have X5:=aa (show Bx tb (dD ⟨tk,tp,tt,tn⟩ x y) 177 w5 by rw[←dA];exact Cw X4.out ⟨tk,tp,tt,tn⟩ x y);have o45:aX w0.heap.size w w5:=by rw[←dA];exact Se O4.out htb
   have H5:=aa (show ch w0 sv L i1 false w5 by rw[←dA];exact⟨Cv H4.out.below (Nat.le_of_lt (Nat.lt_of_lt_of_le HLT.out htb)),Sd H4.out.box htr,H4.out.le⟩);have T5:=aa (show du (tb+1) w5 u5 by rw[←dA];exact T4.out.keep (Sf (kT (Below.refl _ _)) (Nat.lt_succ_self _)));have O5:=aa o45;have HT:=aa hT.pos;have hf:=HP.out.few;have HW:=aa (show wrap64 ((i1:Int)+1)=((i1+1:Nat):Int)by rw[Go.IntWalk.wrap64_in _ (by omega)];omega);have r1:=H5.out.box.cell 1;have g1:=H5.out.box.frozen 1;have rl:=H5.out.box.lt;clear dA o45 hT H4 O4 T4 X4 q4 p4 m4;go_upto_region 11 with(fail);generalize aH:w5.setCell _ _=w6;have H6:ch w0 sv L (i1+1) false w6:=by rw[←aH];exact⟨H5.out.below.setCell (Nat.le_refl _) _,H5.out.box.set 1 _,hi⟩
   have o56:aX w0.heap.size w5 w6:=by rw[←aH];exact(aX.refl _ _).set (p:=⟨w0.heap.size,1,none⟩) (.inl rfl) _
   have H6d:=aa (show ch w0 sv L (i1+1) false w6.drew from⟨lH H6.below,H6.box,H6.le⟩);have O6:=aa (O5.out.trans o56.drew);have T6:=aa (T5.out.keep (o56.drew.kf HRT.out));have X6:=aa (show Bx tb _ 177 w6.drew from o56.bx X5.out (Ne.symm htr));have c1:w6.drew.cell? ⟨tb,1,none⟩=some (.complex .f64 (fb tp.1) (fb tp.2)):=(X6.out.cell 1).trans rfl;have c3:w6.drew.cell? ⟨tb,3,none⟩=some (.string ⟨tt.toArray⟩):=(X6.out.cell 3).trans rfl;have e1:w6.cell? ⟨tb,1,none⟩=some (.complex .f64 (fb tp.1) (fb tp.2)):=c1;have e3:w6.cell? ⟨tb,3,none⟩=some (.string ⟨tt.toArray⟩):=c3;have HMM:=aa (qU (i':=i1+1) (bad':=false) HM.out HB.out (fun _=>by omega));clear aH H6 o56 T5 X5 O5 H5 r1 g1 rl;go_region_held3 (fun w'=>w'.cell? ⟨tb,1,none⟩=some (.complex .f64 (fb tp.1) (fb tp.2))∧w'.cell? ⟨tb,3,none⟩=some (.string ⟨tt.toArray⟩)) (go_keep) (first
    |(go_at_call 126
      refine(HS.out _ _ _ H6d.out HMM.out).mono ?_;rintro e w7 ⟨p2,i2,eS,rfl,hp2,h7,gw,rE,fK⟩;have X7:=gw.bx X6.out (Ne.symm htr);have s1:w7.cell? ⟨tb,1,none⟩=some (.complex .f64 (fb tp.1) (fb tp.2)):=(X7.cell 1).trans rfl;have s3:w7.cell? ⟨tb,3,none⟩=some (.string ⟨tt.toArray⟩):=(X7.cell 3).trans rfl)
    |(go_at_call 85
      refine(jz 11 (fb tp.1) (fb tp.2) tt HPP.out hp2 _).mono ?_;rintro e w8 ⟨nb,sl,rfl,aB,N⟩;have X8:=X7.grow aB;have s1:w8.cell? ⟨tb,1,none⟩=some (.complex .f64 (fb tp.1) (fb tp.2)):=(X8.cell 1).trans rfl;have s3:w8.cell? ⟨tb,3,none⟩=some (.string ⟨tt.toArray⟩):=(X8.cell 3).trans rfl))
   all_goals go_wp2_with fail
   all_goals go_roundg (mu L i2 eS)
   case measure=>exact pN (fun e=>by have:=(fK e).1;omega)
   exact Sj
@[go_sem] theorem ajp(k:Int)(x y a b:Nat)(s:ByteArray)(n:Int)(w:World):(Instr.field 177 (.agg #[.int .u8 k,.complex .f64 x y,.complex .f64 a b,.string s,.int .i64 n]) 1).run Tryz.prog w=.ok (.complex .f64 x y) w:=by kernel_rfl
theorem Ig{w0:World}{sv:Value}{L:List bA}(P:PW w0 sv L){i:Nat}(h:i<L.length):lG (bL L i):=by
 unfold bL;rw[List.getD_eq_getElem?_getD,List.getElem?_eq_getElem h];exact P.is_ _ (List.getElem_mem h)
set_option maxHeartbeats 1000000 in
theorem acQ{w0:World}{sv:Value}{L:List bA}(P:PW w0 sv L){m:Nat}(S:iY 53 w0 sv L m):iY 90 w0 sv L m:=by
 intro i bad w h hm;have HS:=aa S;have HP:=aa P;have HM:=aa hm;have H:=aa h;have HLT:=aa h.box.lt;clear S P h hm;go_enter Tryz.func90,Tryz.ntmps90;go_wp2_with fail;refine(kr HP.out H.out).mono ?_;rintro e w1 ⟨⟨x0,y0,rfl⟩,ae⟩;generalize jD:bL L i=t0;obtain⟨Kn,tv,DQ,Ko⟩:=t0;have th:=aa jD;have H1:=aa (H.out.only ae);have B1:=aa ae;clear jD ae H;go_wp2_with fail;refine(HS.out _ _ _ H1.out HM.out).mono ?_;rintro e w2 ⟨p,i1,dW,rfl,hp,h2,eu,hbad,hgood⟩;have O2:=aa ((aX.of B1.out).trans eu);go_wp2_with fail;refine(oh HP.out h2 [46,46]).mono ?_;rintro e w3 (⟨rfl,h3,eT⟩|⟨rfl,h3,rfl,hk,eT⟩)
 ·go_wp2_with fail;go_ret;exact⟨_,i1,dW,rfl,hp,h3,O2.out.trans eT,hbad,fun e=>⟨(hgood e).1,((hgood e).2.mono B1.out.size).keep (eT.kf HLT.out)⟩⟩
 ·have hg:=hgood rfl;have hT:=Ig HP.out (i:=i) (by have:=h2.le;omega);rw[th.out]at hT;have HG:=aa hg;have HB:=aa hbad;have HPP:=aa hp;clear hg hgood hbad hp;go_wp2_with fail;refine(HS.out _ _ _ h3 (qU (bad':=false) HM.out HB.out (fun _=>by have:=HG.out.1;omega))).mono ?_;rintro e w4 ⟨p2,i2,eS,rfl,hp2,h4,dR,rE,fK⟩;go_wp2_with fail;refine(jz 9 (fb tv.1) (fb tv.2) [] HPP.out hp2 _).mono ?_;rintro e w5 ⟨nb,sl,rfl,au,N⟩;go_wp2_with fail;go_ret;exact⟨_,i2,eS,rfl,.inr ⟨nb,rfl⟩,h4.only au,((O2.out.trans eT).trans dR).then au,fun e=>absurd (HB.out e) (by decide),fun e=>⟨by have:=(fK e).1;have:=HG.out.1;omega,uQ (HG.out.2.mono B1.out.size) (((eT.trans dR).then au).kf HLT.out) ((fK e).2.mono (O2.out.trans eT).size) (kT au) N ((O2.out.trans eT).trans dR).size (by decide) hT.pos⟩⟩
theorem qX{L:List bA}{i i':Nat}{bad bad':Bool}{m:Nat}(h:mu L i bad≤m+1)(hb:bad=true→bad'=true)(hi:bad'=false→i<i'∧i<L.length):mu L i' bad'≤m:=by
 unfold mu at *;cases bad' with
 |true=>exact Nat.zero_le _
 |false=>
  obtain⟨h1,h2⟩:=hi rfl;cases bad with
  |true=>exact absurd (hb rfl) (by decide)
  |false=>simp at *;omega
theorem acV{B:Nat}{w:World}{p:Value}(h:du B w p):∃b s,p=.pointer (some ⟨b,0,none⟩)∧w.cell? ⟨b,2,none⟩=some (.string ⟨(s:List UInt8).toArray⟩)∧b<w.heap.size:=by
 obtain⟨b,x,rfl,h1,_⟩:=h;obtain⟨A,c,h2,_,h3,_⟩:=h1.low.cells;exact⟨b,_,rfl,h3,aQ h3⟩
def DL(w0:World)(sv:Value)(L:List bA)(i:Nat)(bad:Bool)(w:World)(j:Nat)(g:Nat)(q:Value)(wr:World):Prop:=∃i' bad',kS q∧ch w0 sv L i' bad' wr∧aX w0.heap.size w wr∧(bad=true→bad'=true)∧(bad'=false→i<i'∧j≤i'∧du w.heap.size wr q)∧g=mu L i' bad'
set_option maxHeartbeats 4000000 in
theorem acR{w0:World}{sv:Value}{L:List bA}(P:PW w0 sv L){m:Nat}(S:iY 53 w0 sv L m):iY 54 w0 sv L (m+1):=by
 intro i bad w h hm;have HS:=aa S;have HP:=aa P;have HM:=aa hm;have HLT:=aa h.box.lt;have HN:=aa (RP P h);clear S P h hm;go_enter Tryz.func54,Tryz.ntmps54;go_wp2_with fail;refine HN.out.mono ?_;rintro e w1 ⟨p,i1,dW,rfl,hp,h1,eC,hbad,hgood⟩;have HR:=aa (show DL w0 sv L i bad w 0 (mu L i1 dW) p w1 from⟨i1,dW,hp,h1,eC,hbad,fun e=>⟨(hgood e).1,Nat.zero_le _,(hgood e).2⟩,rfl⟩);clear hp h1 eC hbad hgood HN;go_wp2_with fail
 go_loopg [3] (mu L i1 dW) (fun gg s3 wr=>DL w0 sv L i bad w 0 gg s3 wr)
 case atStart=>exact HR.out
 case round=>
  clear HR;obtain⟨i1,dW,hp,h1,eC,hbad,hgood,hgk⟩:=hrel;subst hgk;have H1:=aa h1;have O1:=aa eC;have r2:=H1.out.box.cell 2;have rl:=H1.out.box.lt;have HPP:=aa hp;have HB:=aa hbad;have HG:=aa hgood;clear hp h1 eC hbad hgood;cases dW;case true=>
   go_wp2_with fail;go_ret;exact⟨_,i1,true,rfl,.inl rfl,H1.out,O1.out,fun _=>rfl,fun e=>by cases e⟩
  obtain⟨yE,_,vD⟩:=HG.out rfl;have T1:=aa vD;clear HG vD;go_wp2_with fail;refine(kr HP.out H1.out).mono ?_;rintro e w2 ⟨⟨x0,y0,rfl⟩,af⟩;have hNI:=@Ig w0 sv L HP.out i1;have hNK:=@ni w0 sv L HP.out i1;generalize bL L i1=t0 at hNI hNK;obtain⟨tk,tp,tt,tn⟩:=t0;have HNI:=aa hNI;have H2:=aa (H1.out.only af);have O2:=aa (O1.out.then af);have T2:=aa (T1.out.grow af);clear af H1 O1 T1 r2 rl hNI hNK;go_wp2_with fail;refine(oh HP.out H2.out [46]).mono ?_;rintro e w3 (⟨rfl,h3,eT⟩|⟨rfl,h3,_,hk,eT⟩)
  ·have O3:=aa (O2.out.trans eT);have T3:=aa (T2.out.keep (eT.kf HLT.out));have H3:=aa h3;clear h3 eT H2 O2 T2;go_wp2_with fail;refine(oh HP.out H3.out [94]).mono ?_;rintro e w4 (⟨rfl,h4,dR⟩|⟨rfl,h4,_,hk,dR⟩)
   ·have O4:=aa (O3.out.trans dR);have T4:=aa (T3.out.keep (dR.kf HLT.out));have H4:=aa h4;clear h4 dR H3 O3 T3;go_wp2_with fail;refine(oh HP.out H4.out [91]).mono ?_;rintro e w5 (⟨rfl,h5,di⟩|⟨rfl,h5,_,hk,di⟩)
    ·go_wp2_with fail;go_ret;exact⟨_,i1,false,rfl,HPP.out,h5,O4.out.trans di,HB.out,fun _=>⟨yE,T4.out.keep (di.kf HLT.out)⟩⟩
    ·have hi1L:=h5.le;have O5:=aa (O4.out.trans di);have T5:=aa (T4.out.keep (di.kf HLT.out));have H5:=aa h5;have HM5:=aa (qX (i':=i1+1) (bad':=false) HM.out HB.out (fun _=>⟨by omega,by omega⟩));clear h5 di H4 O4 T4;go_wp2_with fail;refine(HS.out _ _ _ H5.out HM5.out).mono ?_;rintro e w6 ⟨p2,i2,eS,rfl,hp2,h6,nz,rE,fK⟩;go_wp2_with fail;refine(jz 3 (fb tp.1) (fb tp.2) [] HPP.out hp2 _).mono ?_;rintro e w7 ⟨nb,sl,rfl,aC,N⟩;have HR:=aa (show DL w0 sv L i bad w (i1+1) (mu L i2 eS) (cw nb) w7 from⟨i2,eS,.inr ⟨nb,rfl⟩,h6.only aC,(O5.out.trans nz).then aC,fun e=>absurd (HB.out e) (by decide),fun e=>⟨by have:=(fK e).1;omega,by have:=(fK e).1;omega,uQ T5.out ((nz.then aC).kf HLT.out) ((fK e).2.mono O5.out.size) (kT aC) N (O5.out.trans nz).size (by decide) (HNI.out (by omega)).pos⟩,rfl⟩);clear hp2 h6 nz rE fK aC N;go_wp2_with fail
     go_loopg [3] (mu L i2 eS) (fun gg s3 wr=>DL w0 sv L i bad w (i1+1) gg s3 wr)
     case atStart=>exact HR.out
     case round=>
      clear HR;obtain⟨i3,kE,hp,h8,Wa,hbad,hgood,hgk⟩:=hrel;subst hgk;have H8:=aa h8;have O8:=aa Wa;have HPQ:=aa hp;have HBQ:=aa hbad;have HG:=aa hgood;clear hp h8 Wa hbad hgood;go_wp2_with fail;refine(xq HP.out H8.out [44]).mono ?_;rintro e w9 ⟨⟨q,rfl,hq⟩,br⟩;have H9:=aa (H8.out.only br);have O9:=aa (O8.out.then br);have Kp:=aa (fun e=>(HG.out e).2.2.grow br);clear H8 O8 br;cases q
      ·go_wp2_with fail;refine(uN HP.out H9.out [93]).mono ?_;rintro e wa ⟨i4,Wb,rfl,ha,hoa,hd⟩;go_wp2_with fail
       go_roundg (mu L i4 Wb)
       case measure=>
        refine pN (fun e=>?_);rcases hd with rfl|⟨rfl,rfl,rfl,_⟩
        ·cases e
        ·have:=(HG.out rfl).2.1;omega
       refine⟨i4,Wb,HPQ.out,ha,O9.out.trans hoa,fun e=>absurd (HB.out e) (by decide),fun e=>?_,rfl⟩;rcases hd with rfl|⟨rfl,rfl,rfl,_⟩
       ·cases e
       ·exact⟨by have:=(HG.out rfl).1;omega,Nat.zero_le _,(Kp.out rfl).keep (hoa.kf HLT.out)⟩
      ·obtain⟨rfl,hk⟩:=hq rfl;obtain⟨hi3,Kq⟩:=ni HP.out hk;obtain⟨qb,tj,_⟩:=HG.out rfl;have TG:=aa (Kp.out rfl);clear HG Kp;go_wp2_with fail;refine(kr HP.out H9.out).mono ?_;rintro e wa ⟨⟨xa,ya,rfl⟩,hba⟩;generalize bL L i3=ta at Kq;obtain⟨ak,ap,at',an⟩:=ta;have HA:=aa (H9.out.only hba);have OA:=aa (O9.out.then hba);have TA:=aa (TG.out.grow hba);have r1:=HA.out.box.cell 1;have g1:=HA.out.box.frozen 1;have rl:=HA.out.box.lt;have hf:=HP.out.few;have HW:=aa (show wrap64 ((i3:Int)+1)=((i3+1:Nat):Int)by rw[Go.IntWalk.wrap64_in _ (by omega)];omega);have HTA:=aa Kq.pos;clear hba H9 O9 TG Kq;go_upto_region 17 with(fail);generalize hwb:World.setCell _ _ _=wb;have HBb:=aa (show ch w0 sv L (i3+1) false wb by rw[←hwb];exact⟨HA.out.below.setCell (Nat.le_refl _) _,HA.out.box.set 1 _,hi3⟩);have oab:aX w0.heap.size wa wb:=by rw[←hwb];exact(aX.refl _ _).set (p:=⟨w0.heap.size,1,none⟩) (.inl rfl) _
       have OB:=aa (OA.out.trans oab);have TB:=aa (TA.out.keep (oab.kf HLT.out));have HMB:=aa (qX (i':=i3+1) (bad':=false) HM.out HB.out (fun _=>⟨by omega,by omega⟩));clear hwb oab HA OA TA r1 g1 rl;go_wp2_with fail;refine(HS.out _ _ _ HBb.out HMB.out).mono ?_;rintro e wc ⟨pc,ic,badc,rfl,hpc,hc,hoc,hbadc,hgoodc⟩;go_wp2_with fail;refine(jz 3 (fb ap.1) (fb ap.2) [] HPQ.out hpc _).mono ?_;rintro e wd ⟨nd,sd,rfl,hbd,ND⟩;go_wp2_with fail
       go_roundg (mu L ic badc)
       case measure=>exact pN (fun e=>by have:=(hgoodc e).1;omega)
       exact⟨ic,badc,.inr ⟨nd,rfl⟩,hc.only hbd,(OB.out.trans hoc).then hbd,fun e=>absurd (HB.out e) (by decide),fun e=>⟨by have:=(hgoodc e).1;omega,by have:=(hgoodc e).1;omega,uQ TB.out ((hoc.then hbd).kf HLT.out) ((hgoodc e).2.mono OB.out.size) (kT hbd) ND (OB.out.trans hoc).size (by decide) HTA.out⟩,rfl⟩
   ·go_wp2_with fail;refine(jz 4 (fb tp.1) (fb tp.2) [] HPP.out (.inl rfl) _).mono ?_;rintro e w5 ⟨nb,sl,rfl,au,N⟩;have hle:=h4.le;go_wp2_with fail
    go_roundg (mu L (i1+1) false)
    case measure=>exact pN (fun _=>by omega)
    exact⟨i1+1,false,.inr ⟨nb,rfl⟩,h4.only au,(O3.out.trans dR).then au,fun e=>absurd (HB.out e) (by decide),fun _=>⟨by omega,Nat.zero_le _,CA T3.out ((dR.then au).kf HLT.out) (by simpa[pL]using N) (O3.out.trans dR).size (by decide) (HNI.out (by omega)).pos⟩,rfl⟩
  ·have H3:=aa h3;have O3:=aa (O2.out.trans eT);have T3:=aa (T2.out.keep (eT.kf HLT.out));have hle:=h3.le;clear h3 eT H2 O2 T2;go_wp2_with fail;refine(RP HP.out H3.out).mono ?_;rintro e w4 ⟨p2,i2,eS,rfl,hp2,h4,dR,rE,fK⟩;have H4:=aa h4;have O4:=aa (O3.out.trans dR);have T4:=aa (T3.out.keep (dR.kf HLT.out));have r2:=H4.out.box.cell 2;have rl:=H4.out.box.lt;have DR:=aa fK;clear h4 dR fK hp2;cases eS
   ·obtain⟨DD,rF⟩:=DR.out rfl;obtain⟨b2,s2,rfl,dE,je⟩:=acV rF;clear rF;go_wp2_with fail;refine(jz 2 (fb tp.1) (fb tp.2) s2 HPP.out (.inl rfl) _).mono ?_;rintro e w5 ⟨nb,sl,rfl,au,N⟩;go_wp2_with fail
    go_roundg (mu L i2 false)
    case measure=>exact pN (fun _=>by omega)
    exact⟨i2,false,.inr ⟨nb,rfl⟩,H4.out.only au,O4.out.then au,fun e=>absurd (HB.out e) (by decide),fun _=>⟨by omega,Nat.zero_le _,CA T4.out (kT au) (by simpa[pL]using N) O4.out.size (by decide) (HNI.out (by omega)).pos⟩,rfl⟩
   ·go_wp2_with fail;go_ret;exact⟨_,i2,true,rfl,.inl rfl,H4.out,O4.out,fun _=>rfl,fun e=>by cases e⟩
end Go.Proofs.YtlpombjidhloiaaGreat
