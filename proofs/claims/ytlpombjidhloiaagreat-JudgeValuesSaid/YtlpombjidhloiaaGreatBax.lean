/- layout. The judge's standard functions. Condition: what each theorem says. -/
import Derived.Test.YtlpombjidhloiaaGreatBaw
namespace Go.Proofs.YtlpombjidhloiaaGreat
open Go.RowKit
set_option maxRecDepth 100000
attribute [local go_sem ↓] Go.wp_at_zero Go.wp_at_succ
theorem IM{n:Int}(h:0≤n):0≤(fitsW n).1∧(fitsW n).1≤32767:=by
 unfold fitsW;split
 ·decide
 ·exact⟨h,by show n≤32767;omega⟩
theorem ad1{a n:Int}(ha:0≤a)(dF:a≤3000000)(hn:0≤n)(yC:n≤32767):wrap64 (a*n)=a*n∧0≤a*n:=by
 have h1:0≤a*n:=Int.mul_nonneg ha hn;have h2:a*n≤3000000*n:=Int.mul_le_mul_of_nonneg_right dF hn;exact⟨Go.IntWalk.wrap64_in _ (by omega),h1⟩
set_option maxHeartbeats 1000000 in
theorem ad2{w0:World}{p:Nat}{T:List Ty}{r:Nat}{sz:List (Int×Int×Int)→Int→Option ((Int×Int)×List (Int×Int×Int))}(ih:sN w0 p T r sz){K K':List (Int×Int×Int)}{out:Int×Int}{w:World}(x:Ty)(s:TS)(he:CR T sz K x=some (out,K'))(h:iu w0 p T r K w):
 Calls Tryz.prog 219 #[.agg #[.pointer (some ⟨p,0,none⟩),.map (some r)],.agg (bX x s)] w (uX w0 p T r w out K'):=by
 unfold CR at he;have HRG:=aa (Gs h.tab.ok x.index);have HC:=aa (fun wr (hb:Below w.heap.size w wr)=>uA (h.later hb).tabNow x.index);generalize rangeT T x.index=rg at *;obtain⟨lo,hi,is⟩:=rg;have HE:=aa he;have H:=aa h;have IH:=aa ih;clear h he ih;go_enter Tryz.func219,Tryz.ntmps219;go_upto_region 1 with(fail);generalize az:w.alloc _=w1;obtain⟨ae,x1,aE⟩:=made az;generalize aU:w1.alloc _=w2;obtain⟨af,x2,bu⟩:=made aU;rw[aE]at x2 bu;have y1:=x1.grow af;have hb:=ae.trans (af.mono ae.size);have Y1:=aa y1;have X2:=aa x2;have HB:=aa hb;have z1:=fun j=>y1.cell j
 have z2:=fun j=>x2.cell j
 dsimp only[bX]at z2;clear az aU ae af x1 x2 y1 hb aE bu;go_wp2_with fail;refine(HC.out _ HB.out).mono ?_;rintro e w3 ⟨rfl,ad⟩;have y1:=Y1.out.grow ad;have y2:=X2.out.grow ad;have u1:=fun j=>y1.cell j
 have u2:=fun j=>y2.cell j
 dsimp only[bX]at u2;have H3:=aa (H.out.later (HB.out.trans (ad.mono HB.out.size)));have bD:=aa (HB.out.trans (ad.mono HB.out.size));clear y1 y2 ad z1 z2 Y1 X2 HB HC;cases is
 ·have he:=HE.out;simp only[Bool.not_false,if_true]at he;obtain⟨rfl,rfl⟩:=Prod.mk.inj (Option.some.inj he);clear HE he;go_wp2_with fail;go_ret2;exact⟨rfl,H3.out,eA.of bD.out,by decide,by decide⟩
 ·have he:=HE.out;simp only[Bool.not_true,Bool.false_eq_true,if_false]at he;cases hz:sz K x.base with
  |none=>rw[hz]at he;cases he
  |some o=>
   obtain⟨⟨n,er⟩,K1⟩:=o;rw[hz]at he;simp only at he;have jC:=aa he;have HZ:=aa hz;clear he HE hz;go_wp2_with fail;refine(IH.out _ _ _ _ _ HZ.out H3.out).mono ?_;rintro e w4 ⟨rfl,h4,k4,n0,n1⟩;have HX:=aa ((eA.of bD.out).trans k4);have H4:=aa h4;have HN:=aa (And.intro n0 n1);clear h4 k4 n0 n1;by_cases h0:er=0
   ·subst h0;have he:=jC.out;simp only[ne_eq,not_true_eq_false,if_false]at he;obtain⟨rfl,rfl⟩:=Prod.mk.inj (Option.some.inj he);have HR:=aa (show wrap64 (hi-lo)=hi-lo from Go.IntWalk.wrap64_in _ (by have:=HRG.out;omega));have eB:=aa (show wrap64 (hi-lo+1)=hi-lo+1 from Go.IntWalk.wrap64_in _ (by have:=HRG.out;omega));have HT:=aa (ad1 (a:=max (hi-lo+1) 0) (n:=n) (by omega) (by have:=HRG.out;omega) HN.out.1 HN.out.2);have dH:=aa (show wrap64 (wrap64 (hi-lo)+1)=hi-lo+1 by rw[HR.out,eB.out]);clear he jC HRG HR eB;go_wp2_with fail
    all_goals
     rw[dH.out]at h
     first
      |rw[show wrap64 (wrap64 (wrap64 (hi-lo)+1)*n)=max (hi-lo+1) 0*n by rw[dH.out,←HT.out.1,show max (hi-lo+1) 0=hi-lo+1 by omega]]
      |rw[show wrap64 0=max (hi-lo+1) 0*n by rw[show max (hi-lo+1) 0=0 by omega,Int.zero_mul];exact Go.IntWalk.wrap64_in _ (by omega)]
     refine(Tg _ _).mono ?_;rintro e w5 ⟨rfl,rfl⟩;go_wp2_with fail;go_ret2;exact⟨rfl,H4.out,HX.out,(IM HT.out.2).1,(IM HT.out.2).2⟩
   ·have he:=jC.out;rw[if_pos h0]at he;obtain⟨rfl,rfl⟩:=Prod.mk.inj (Option.some.inj he);have d0:=beq_eq_false_iff_ne.2 h0;clear he jC;go_wp2_with fail;go_ret2;exact⟨rfl,H4.out,HX.out,Int.le_refl 0,by show(0:Int)≤32767;decide⟩
theorem fieldAt{w:World}{A:Option Addr}{n c:Nat}{l:List (List UInt8×Int×Int)}(h:Rw w (.slice A n c) n (lj l))(hn:n=l.length){j:Nat}{e:List UInt8×Int×Int}(hj:l[j]? =some e):
 ∃b o,A=some ⟨b,o,none⟩∧b<w.heap.size∧n≤c∧w.cell? ⟨b,o+j*3,none⟩=some (.string ⟨e.1.toArray⟩)∧w.cell? ⟨b,o+j*3+1,none⟩=some (.int .i64 e.2.1)∧w.cell? ⟨b,o+j*3+2,none⟩=some (.int .i64 e.2.2):=by
 obtain⟨hj',rfl⟩:=List.getElem?_eq_some_iff.1 hj;rcases h with⟨h1,h2,h3⟩|⟨b,o,c',h1,h0,h2,h3⟩
 ·omega
 ·cases h1;have:∀(l:List (List UInt8×Int×Int)) (j:Nat) (hj:j<l.length),(lj l)[j*3]? =some (fm l[j].1)∧(lj l)[j*3+1]? =some (.int .i64 l[j].2.1)∧(lj l)[j*3+2]? =some (.int .i64 l[j].2.2):=by
   intro l
   induction l with
   |nil=>intro j hj;exact absurd hj (by simp)
   |cons a t ih=>
    intro j hj;cases j with
    |zero=>exact⟨rfl,rfl,rfl⟩
    |succ j=>
     have:=ih j (by simpa using hj);unfold lj at this ⊢;rw[List.flatMap_cons,show(j+1)*3=j*3+1+1+1 by omega];exact this
  obtain⟨e1,e2,e3⟩:=this l j hj';exact⟨b,o,rfl,h2,h0,h3 _ _ e1,by rw[Nat.add_assoc];exact h3 _ _ e2,by rw[Nat.add_assoc];exact h3 _ _ e3⟩
set_option maxHeartbeats 1000000 in
theorem ad3{w0:World}{p:Nat}{T:List Ty}{r:Nat}{sz:List (Int×Int×Int)→Int→Option ((Int×Int)×List (Int×Int×Int))}(ih:sN w0 p T r sz){K K':List (Int×Int×Int)}{out:Int×Int}{w:World}{A:Option Addr}{c:Nat}(l:List (List UInt8×Int×Int))(hA:Rw w (.slice A l.length c) l.length (lj l))(hl:l.length≤1000000)(he:nV sz K 0 l=some (out,K'))(h:iu w0 p T r K w):
 Calls Tryz.prog 221 #[.agg #[.pointer (some ⟨p,0,none⟩),.map (some r)],.slice A l.length c] w (uX w0 p T r w out K'):=by
 have HE:=aa he;have H:=aa h;have IH:=aa ih;have HA:=aa hA;have HL:=aa hl;clear h he ih hA hl;go_enter Tryz.func221,Tryz.ntmps221;go_upto_region 1 with(fail);generalize az:w.alloc _=w1;obtain⟨ae,x1,aE⟩:=made az;have X1:=aa x1;have aO:=aa ae;clear az ae x1 aE;go_wp2_with fail;have H1:=aa (H.out.later aO.out);have bY:=aa (HA.out.later aO.out)
 go_loopg [4,7,8,9,12] l.length (fun gg s4 _ _ _ s12 wr=>∃(kk:Nat) (Kk:List (Int×Int×Int)) (n:Int),kk≤l.length∧gg=l.length-kk∧s12=.int .i64 kk∧s4=.int .i64 n∧(0≤n∧n≤32767)∧iu w0 p T r Kk wr∧eA r w1 wr∧nV sz Kk n (l.drop kk)=some (out,K'))
 case atStart=>exact⟨0,K,0,Nat.zero_le _,by omega,rfl,rfl,by decide,H1.out,eA.refl _ _,HE.out⟩
 case round=>
  obtain⟨kk,Kk,n,hkk,hgk,rfl,rfl,hn,hat,hke,hf⟩:=hrel;have HAT:=aa hat;have HF:=aa hf;have HKE:=aa hke;have HN:=aa hn;clear hf hat hke hn;by_cases hlt:kk<l.length
  ·have hltz:(kk:Int)<(l.length:Int):=by omega
   obtain⟨x,hx⟩:∃x,l[kk]? =some x:=⟨l[kk],by simp⟩;obtain⟨b,o,rfl,hbw,hnc,f0,f1,f2⟩:=fieldAt (bY.out.kept HKE.out H1.out.km) rfl hx;have c0:=HKE.out.cell H1.out.km (X1.out.cell 0);have c1:=HKE.out.cell H1.out.km (X1.out.cell 1);have lw:=aQ c0;have HD:=aa (show l.drop kk=x::l.drop (kk+1)by
    obtain⟨h1,rfl⟩:=List.getElem?_eq_some_iff.1 hx;exact List.drop_eq_getElem_cons h1)
   have HW:=aa (show wrap64 ((kk:Int)+1)=((kk+1:Nat):Int)by rw[Go.IntWalk.wrap64_in _ (by have:=HL.out;omega)];omega);have hf:=HF.out;rw[HD.out,nV]at hf;cases hz:sz Kk x.2.1 with
   |none=>rw[hz]at hf;cases hf
   |some q=>
    obtain⟨⟨m,er⟩,K2⟩:=q;rw[hz]at hf;simp only at hf;have gG:=aa hf;have HZ:=aa hz;clear hf hz hx HF HD;go_wp2_with fail;refine(IH.out _ _ _ _ _ HZ.out (HAT.out.later (cB _ _))).mono ?_;rintro e w5 ⟨rfl,h5,k5,n0,n1⟩;have H5:=aa h5;have K5:=aa (HKE.out.trans ((eA.of (cB _ _)).trans k5));have N5:=aa (And.intro n0 n1);clear h5 k5 n0 n1;by_cases h0:er=0
    ·subst h0;have hf:=gG.out;simp only[ne_eq,not_true_eq_false,if_false]at hf;have DX:=aa hf;have HS:=aa (show wrap64 (n+m)=n+m from Go.IntWalk.wrap64_in _ (by have:=HN.out;have:=N5.out;omega));have HQ:=aa (IM (n:=n+m) (by have:=HN.out;have:=N5.out;omega));have HC:=aa (fun w=>Tg (n+m) w);clear hf gG;generalize fitsW (n+m)=q at *;go_wp2_with fail;rw[HS.out];refine(HC.out _).mono ?_;rintro e w6 ⟨rfl,rfl⟩;obtain⟨q1,q2⟩:=q;by_cases h2:q2=0
     ·subst h2;have hf:=DX.out;simp only[not_true_eq_false,if_false]at hf;have HF4:=aa hf;clear hf DX;go_wp2_with fail
      go_roundg (gk-1)
      case measure=>omega
      exact⟨kk+1,K2,q1,by omega,by omega,by rw[HW.out],rfl,HQ.out,H5.out,K5.out,HF4.out⟩
     ·have hf:=DX.out;rw[if_pos h2]at hf;obtain⟨rfl,rfl⟩:=Prod.mk.inj (Option.some.inj hf);have d2:=beq_eq_false_iff_ne.2 h2;clear hf DX;exact Tl
    ·have hf:=gG.out;rw[if_pos h0]at hf;obtain⟨rfl,rfl⟩:=Prod.mk.inj (Option.some.inj hf);have d0:=beq_eq_false_iff_ne.2 h0;clear hf gG;exact Tl
  ·obtain rfl:kk=l.length:=by omega
   have hltz:¬((l.length:Int)<(l.length:Int)):=by omega
   have hf:=HF.out;rw[List.drop_length,nV]at hf;obtain⟨rfl,rfl⟩:=Prod.mk.inj (Option.some.inj hf);clear hf HF;go_wp2_with fail;go_ret2;exact⟨rfl,HAT.out,(eA.of aO.out).trans HKE.out,HN.out.1,HN.out.2⟩
theorem ad4(w:World):Calls Tryz.prog 216 #[] w (fun e w'=>e=.returned (.tuple #[.int .i64 1,.int .i64 0])∧w=w'):=by
 go_enter Tryz.func216,Tryz.ntmps216;exact GJ
theorem ad5(w:World):Calls Tryz.prog 217 #[] w (fun e w'=>e=.returned (.tuple #[.int .i64 2,.int .i64 0])∧w=w'):=by
 go_enter Tryz.func217,Tryz.ntmps217;exact GJ
theorem ad6{w0:World}{p:Nat}{T:List Ty}{r:Nat}{sz:List (Int×Int×Int)→Int→Option ((Int×Int)×List (Int×Int×Int))}(ih:sN w0 p T r sz){K K':List (Int×Int×Int)}{out:Int×Int}{w:World}(x:Ty)(s:TS)(he:CR T sz K x=some (out,K'))(h:iu w0 p T r K w){b c:Nat}
 (hb:Bx b #[.pointer (some ⟨p,0,none⟩),.map (some r)] 243 w) (hc:Bx c (bX x s) 47 w):
 Calls Tryz.prog 218 #[.pointer (some ⟨b,0,none⟩),.pointer (some ⟨c,0,none⟩)] w (uX w0 p T r w out K'):=by
 have HC:=aa (ad2 ih x s he h);have z1:=fun j=>hb.cell j
 have z2:=fun j=>hc.cell j
 have l1:=hb.lt;have l2:=hc.lt;dsimp only[bX]at z2 HC;clear he h hb hc ih;go_enter Tryz.func218,Tryz.ntmps218;go_wp2_with fail;refine(HC.out).mono ?_;rintro e w4 ⟨rfl,h4,k4,n0,n1⟩;go_wp2_with fail;go_ret2;exact⟨rfl,h4,k4,n0,n1⟩
theorem ad7{w0:World}{p:Nat}{T:List Ty}{r:Nat}{sz:List (Int×Int×Int)→Int→Option ((Int×Int)×List (Int×Int×Int))}(ih:sN w0 p T r sz){K K':List (Int×Int×Int)}{out:Int×Int}{w:World}(x:Ty)(s:TS)(he:nV sz K 0 x.fields=some (out,K'))(h:iu w0 p T r K w){b c:Nat}
 (hb:Bx b #[.pointer (some ⟨p,0,none⟩),.map (some r)] 243 w) (hc:Bx c (bX x s) 47 w) (hs:oc w x s) (hl:x.fields.length≤1000000):
 Calls Tryz.prog 220 #[.pointer (some ⟨b,0,none⟩),.pointer (some ⟨c,0,none⟩)] w (uX w0 p T r w out K'):=by
 have HC:=aa (ad3 ih x.fields hs.fields hl he h);have z1:=fun j=>hb.cell j
 have z2:=fun j=>hc.cell j
 have l1:=hb.lt;have l2:=hc.lt;dsimp only[bX]at z2;clear he h hb hc ih hs hl;go_enter Tryz.func220,Tryz.ntmps220;go_wp2_with fail;refine(HC.out).mono ?_;rintro e w4 ⟨rfl,h4,k4,n0,n1⟩;go_wp2_with fail;go_ret2;exact⟨rfl,h4,k4,n0,n1⟩
@[go_sem high] theorem ajF(w:World):(Instr.makeMap 277 none).run Tryz.prog w=.ok (.map (some w.heap.size)) (cC fE w []):=lW w _
@[go_sem] theorem ajG(w:World)(l:List (Int×Value))(x:Int)(v:Value)(hx:x∉l.map (·.1)):(Instr.mapUpdate 277 (.map (some w.heap.size)) (.int .u8 x) v).run Tryz.prog (cC fE w l)=.ok () (cC fE w (l++[(x,v)])):=nP Tryz.underlying277 (iM Tryz.underlying5) w l x v hx
def xH(f b c:Nat):Value:=.func (.func f) #[] #[.pointer (some ⟨b,0,none⟩),.pointer (some ⟨c,0,none⟩)]
def oB(b c:Nat):List (Int×Value):=[(13,cm 216),(14,cm 216),(15,cm 216),(16,cm 216),(11,cm 217),(10,xH 218 b c),(12,xH 220 b c)]
theorem sO{w:World}{r b c:Nat}(h:KM fE w r (oB b c))(k:Int){v:Value}(hf:bm (oB b c) k=some v):(Instr.lookup 277 (.map (some r)) (.int .u8 k) true).run Tryz.prog w=.ok (.tuple #[v,.bool true]) w:=(ej Tryz.underlying277 (iM Tryz.underlying5) h k hf).1
theorem Tn{w:World}{r b c:Nat}(h:KM fE w r (oB b c))(k:Int)(hf:bm (oB b c) k=none):(Instr.lookup 277 (.map (some r)) (.int .u8 k) true).run Tryz.prog w=.ok (.tuple #[.nilFunc,.bool false]) w:=(lY (z:=.nilFunc) Tryz.underlying277 (iM Tryz.underlying5) (fun w=>by kernel_rfl) h k hf).1
theorem To(b c:Nat){k:Int}(h:k≠13∧k≠14∧k≠15∧k≠16∧k≠11∧k≠10∧k≠12):bm (oB b c) k=none:=by
 obtain⟨h1,h2,h3,h4,h5,h6,h7⟩:=h;simp[bm,oB,Ne.symm h1,Ne.symm h2,Ne.symm h3,Ne.symm h4,Ne.symm h5,Ne.symm h6,Ne.symm h7]
set_option maxHeartbeats 4000000 in
theorem ad8{w0:World}{p:Nat}{T:List Ty}{r:Nat}(f:Nat)(ih:sN w0 p T r (jr T f)):Tj w0 p T r (xG T f):=by
 intro K i out K' w he h;unfold xG at he;have HG:=aa (fun wr (hb:Below w.heap.size w wr)=>nO (h.later hb).tabNow i);have HO:=aa (fun wr (hb:Below w.heap.size w wr)=>mV (h.later hb).tabNow i);have HK:=aa (Gq h.tab.ok i).fields;generalize bH T i=q at *;generalize aF T i=t at *;have HE:=aa he;have H:=aa h;have IH:=aa ih;clear he h ih;go_enter Tryz.func205,Tryz.ntmps205;go_upto_region 1 with(fail);generalize az:w.alloc _=w1;obtain⟨ae,x1,aE⟩:=made az;have X1:=aa x1;have B1:=aa ae;have z1:=fun j=>x1.cell j
 clear az ae aE x1;go_wp2_with fail;refine(HG.out _ B1.out).mono ?_;rintro e w2 ⟨s,rfl,hown,af⟩;have X2:=aa (X1.out.grow af);have B2:=aa (B1.out.trans (af.mono B1.out.size));have TI:=aa hown.tyIn;clear af hown z1 X1 B1;dsimp only[bX];go_upto_region 2 with(fail);generalize cU:w2.alloc _=w3;obtain⟨ad,x3,iv⟩:=made cU;have X3:=aa (X2.out.grow ad);have Y3:=aa (show Bx w2.heap.size (bX t s) 47 w3 from x3);have B3:=aa (B2.out.trans (ad.mono B2.out.size));have Ws:=aa (TI.out.later ad);have HM:=aa (fun l=>nR fE w3 l);have HMB:=aa (fun l=>nQ fE w3 l);clear cU ad x3 iv X2 B2 TI;go_upto_region 4 with(fail);have km:=HM.out (oB w.heap.size w2.heap.size);have kb:=HMB.out (oB w.heap.size w2.heap.size);dsimp only[oB,cm,xH]at km kb;generalize cC fE w3 _=w4 at *;have X4:=aa (X3.out.grow kb);have Y4:=aa (Y3.out.grow kb);have B4:=aa (B3.out.trans (kb.mono B3.out.size));have Wt:=aa (Ws.out.later kb);have DT:=aa (show KM fE w4 w3.heap.size (oB w.heap.size w2.heap.size)from km);have z1:=X4.out.cell;clear km kb X3 Y3 B3 Ws HM HMB;go_wp2_with fail;refine(HO.out _ B4.out).mono ?_;rintro e w5 ⟨rfl,au⟩;have X5:=aa (X4.out.grow au);have Y5:=aa (Y4.out.grow au);have B5:=aa (B4.out.trans (au.mono B4.out.size));have TI5:=aa (Wt.out.later au);have qh:=aa (DT.out.later au);have H5:=aa (H.out.later B5.out);have z2:=Y5.out.cell;have l2:=Y5.out.lt;dsimp only[bX]at z2;clear au X4 Y4 B4 Wt DT z1 HO HG H;by_cases hA:q=true∧t.kind≠5
 ·have he:=HE.out;rw[if_pos hA]at he;obtain⟨rfl,rfl⟩:=Prod.mk.inj (Option.some.inj he);obtain⟨rfl,h5⟩:=hA;have d5:=beq_eq_false_iff_ne.2 h5;clear he HE;go_wp2_with fail;go_ret2;exact⟨rfl,H5.out,eA.of B5.out,by show(0:Int)≤1;decide,by show(1:Int)≤32767;decide⟩
 have hf:=HE.out;rw[if_neg hA]at hf;have HF:=aa hf;have HNA:=aa hA;clear hf hA HE;cases q;case true=>
  have h5:t.kind=5:=Decidable.byContradiction fun h=>HNA.out ⟨rfl,h⟩
  rw[h5]at z2;have hf:=HF.out;simp[h5]at hf;obtain⟨rfl,rfl⟩:=hf;have lk:=Tn qh.out 5 (To _ _ (by decide));clear HF HNA h5;exact Tp
 clear HNA;by_cases k13:t.kind=13
 ·rw[k13]at z2;have lk:=sO qh.out 13 rfl;dsimp only[cm]at lk;have hf:=HF.out;rw[if_pos (by simp[k13])]at hf;obtain⟨rfl,rfl⟩:=Prod.mk.inj (Option.some.inj hf);clear HF hf k13;exact CS
 by_cases k14:t.kind=14
 ·rw[k14]at z2;have lk:=sO qh.out 14 rfl;dsimp only[cm]at lk;have hf:=HF.out;rw[if_pos (by simp[k14])]at hf;obtain⟨rfl,rfl⟩:=Prod.mk.inj (Option.some.inj hf);clear HF hf k14;exact CS
 by_cases k15:t.kind=15
 ·rw[k15]at z2;have lk:=sO qh.out 15 rfl;dsimp only[cm]at lk;have hf:=HF.out;rw[if_pos (by simp[k15])]at hf;obtain⟨rfl,rfl⟩:=Prod.mk.inj (Option.some.inj hf);clear HF hf k15;exact CS
 by_cases k16:t.kind=16
 ·rw[k16]at z2;have lk:=sO qh.out 16 rfl;dsimp only[cm]at lk;have hf:=HF.out;rw[if_pos (by simp[k16])]at hf;obtain⟨rfl,rfl⟩:=Prod.mk.inj (Option.some.inj hf);clear HF hf k16;exact CS
 have hf:=HF.out;rw[if_neg (by rintro(h|h|h|h)<;>contradiction)]at hf;have gG:=aa hf;clear HF hf;by_cases k11:t.kind=11
 ·rw[k11]at z2;have lk:=sO qh.out 11 rfl;dsimp only[cm]at lk;have hf:=gG.out;rw[if_pos k11]at hf;obtain⟨rfl,rfl⟩:=Prod.mk.inj (Option.some.inj hf);clear gG hf k11;go_wp2_with (go_at_call 217;refine(ad5 _).mono ?_;rintro e w6 ⟨rfl,rfl⟩);go_ret2;exact⟨rfl,H5.out,eA.of B5.out,by show(0:Int)≤2;decide,by show(2:Int)≤32767;decide⟩
 by_cases k10:t.kind=10
 ·rw[k10]at z2;have lk:=sO qh.out 10 rfl;dsimp only[xH]at lk;have hf:=gG.out;rw[if_neg k11,if_pos k10]at hf;have HC:=aa (ad6 IH.out t s hf H5.out X5.out Y5.out);clear gG hf k10;go_wp2_with (go_at_call 218;refine(HC.out).mono ?_;rintro e w6 ⟨rfl,h6,k6,n0,n1⟩);go_ret2;exact⟨rfl,h6,(eA.of B5.out).trans k6,n0,n1⟩
 by_cases k12:t.kind=12
 ·rw[k12]at z2;have lk:=sO qh.out 12 rfl;dsimp only[xH]at lk;have hf:=gG.out;rw[if_neg k11,if_neg k10,if_pos k12]at hf;have HC:=aa (ad7 IH.out t s hf H5.out X5.out Y5.out TI5.out HK.out);clear gG hf k12;go_wp2_with (go_at_call 220;refine(HC.out).mono ?_;rintro e w6 ⟨rfl,h6,k6,n0,n1⟩);go_ret2;exact⟨rfl,h6,(eA.of B5.out).trans k6,n0,n1⟩
 have hf:=gG.out;rw[if_neg k11,if_neg k10,if_neg k12]at hf;obtain⟨rfl,rfl⟩:=Prod.mk.inj (Option.some.inj hf);have lk:=Tn qh.out t.kind (To _ _ ⟨k13,k14,k15,k16,k11,k10,k12⟩);clear gG hf k13 k14 k15 k16 k11 k10 k12;exact Tp
theorem Tq(w0:World)(p:Nat)(T:List Ty)(r:Nat):∀f,sN w0 p T r (jr T f)
 |0=>fun K i out K' w h=>by unfold jr at h;cases h
 |f+1=>ad0 f (ad8 f (Tq w0 p T r f))
theorem OI{w:World}{p:Nat}{T:List Ty}(h:cF w p T)(i:Int):Calls Tryz.prog 115 #[.pointer (some ⟨p,0,none⟩),.int .i64 i] w (Pv w (.tuple #[.int .i64 (aN T i).1,.int .i64 (aN T i).2])):=by
 have H:=aa h;have mk:=fun w=>lW (key:=dC) (P:=Tryz.prog) w 241
 have HM:=aa (nR dC w []);have HB:=aa (nQ dC w []);clear h;go_enter Tryz.func115,Tryz.ntmps115;go_wp2_with fail;generalize cC dC w []=w1 at *;obtain⟨K',hK⟩:=abx T i;refine(Tq w p T w.heap.size _ _ _ _ _ _ hK ⟨H.out,HB.out,Nat.le_refl _,HM.out,by intro q hq;cases hq⟩).mono ?_;rintro e w2 ⟨rfl,h2,_,_,_⟩;go_wp2_with fail;go_ret2;exact⟨rfl,h2.below⟩
set_option maxHeartbeats 4000000 in
theorem Zf{w:World}{pt pv:Nat}{T:List Ty}{L:List Lv}(h:bO w pt pv T L){g o n c yb:Nat}{y:ao}(hn:0<n)(hc:n≤c)(hp:w.cell? ⟨g,o,none⟩=some (.pointer (some ⟨yb,0,none⟩)))(ht:bg w yb y)(E:df pt pv T L y)(f:Nat)(hf:8*bq y≤f):Calls Tryz.prog 195 #[qV pt pv,.slice (some ⟨g,o,none⟩) n c] w (fW w (wholeJ (aj T L) (f+1+1) y >>= fun j=>aI (decide (bP T j.type≠2)) y 252 >>= fun _=>.ok (aP T j.type))):=by
 have H:=aa h;have HT:=aa ht;have HP:=aa hp;have HNC:=aa (And.intro hn hc);have HC:=aa (fun w' (hb:Below w.heap.size w w')=>Gm (h.later hb) E f hf (ht.later hb));generalize hrr:(wholeJ (aj T L) (f+1+1) y >>= fun j=>aI (decide (bP T j.type≠2)) y 252 >>= fun _=>.ok (aP T j.type))=r;have HV:=aa hrr.symm;clear h ht hp E hf hrr;dsimp only[qV,qC];dsimp only[qV,qC]at HC;go_enter Tryz.func195,Tryz.ntmps195;go_upto_region 1 with(fail);generalize az:w.alloc _=w1;obtain⟨ae,x1,aE⟩:=made az;have B1:=aa ae;have X1:=aa x1;have z1:=X1.out.cell;have l1:=X1.out.lt;clear az ae aE x1;have hp1:=bo HP.out B1.out;have rB:=aQ hp1;have h0:(0:Int)<(n:Int):=by have:=HNC.out;omega
 have T1:=aa (HT.out.later B1.out);have hC:=HC.out;cases hr:wholeJ (aj T L) (f+1+1) y with
 |error q=>
  obtain⟨p,c⟩:=q;have hv:=HV.out;simp only[hr,fV]at hv;have aq:=aa hv;rw[hr]at hC;have bJ:=aa hC;clear hr HV hv hC HC;go_upto_region 1 with(fail);refine bh [6] [⟨5,5,ei,29⟩] (by kernel_rfl) ?_;refine FQ (Below.refl _ _) [0,1,2,3] ?_;refine FC 4 (cr bN) (Below.refl _ _) (fun w4 ab=>(bJ.out _ (bb B1.out ab)).mono ?_);rintro e w3 ⟨ad,rfl⟩;exact bj (fn:=Tryz.f195) aq.out (bb (bb B1.out ab) ad) rfl
 |ok j=>
  have hv:=HV.out;simp only[hr,dc]at hv;rw[hr]at hC;have bJ:=aa hC;obtain⟨t,v,i⟩:=j;have HBK:=aa (fun w (h:bO w pt pv T L)=>qK h t);have HBS:=aa (fun w (h:cF w pt T)=>mT h t);dsimp only at hv;generalize bP T t=kb at *;generalize aP T t=bt at *;have aq:=aa hv;clear hr HV hv hC HC;go_upto_region 1 with(fail);refine bh [6] [⟨5,5,ei,29⟩] (by kernel_rfl) ?_;refine FQ (Below.refl _ _) [0,1,2,3] ?_;refine FC 4 (cr bN) (Below.refl _ _) (fun w4 ab=>(bJ.out _ (bb B1.out ab)).mono ?_);rintro e w3 ⟨ad,rfl,hvw⟩;refine⟨ad,?_⟩;have C3:=aa (bb ab ad);clear ad ab;clear hvw;dsimp only[bU];refine fU 6 (by kernel_rfl) bN (by kernel_rfl) C3.out rfl rfl rfl rfl (fun _=>rfl) (fun _=>rfl) info29 rfl (ig ⟨t,v,i⟩) (fun b6 w6 aD x6 aH _=>?_);refine FA ?_;have J6:=aa (show Bx b6 #[.int .i64 t,aK v,.int .u8 i] 29 w6 from x6);have B6:=ah B1 aH;have X1:=aa (X1.out.grow aH);have T6:=aa (T1.out.later aH);have pW:=bo hp1 aH;have JV:=aQ pW;have z6:=J6.out.cell;have l6:=J6.out.lt;have z1:=X1.out.cell;have l1:=X1.out.lt;clear x6 aH aD;go_upto_region 2 with(fail);refine bh [] [] (by kernel_rfl) ?_;refine FQ (Below.refl _ _) [0,1,2,5,6,7] ?_;refine FC 3 aG (Below.refl _ _) (fun w4 ab=>(HBK.out _ (H.out.later (bb B6.out ab))).mono ?_);rintro e w7 ⟨rfl,aC⟩;refine⟨aC,?_⟩;have C7:=aa (bb ab aC);clear aC ab;refine FS aG C7.out [4] ?_;by_cases h2:kb=2
  ·subst h2;have ar:=aa (show r=.error (y.pos,252)from aq.out);refine FC 8 aG C7.out (fun w4 ab=>(lq (by rfl) (T6.out.later (bb C7.out ab)) 252).mono ?_);rintro e w8 ⟨rfl,rfl⟩;exact bj (fn:=Tryz.f195) ar.out (bb B6.out (bb C7.out ab)) rfl
  ·have ar:=aa (show r=.ok bt by have:=aq.out;rw[decide_eq_true h2]at this;exact this);refine FC 8 aG C7.out (fun w4 ab=>(jm (show(kb != 2)=true from bne_iff_ne.2 h2) (T6.out.later (bb C7.out ab)) 252).mono ?_);rintro e w8 ⟨rfl,rfl⟩;refine⟨Below.refl _ _,?_⟩;refine cV 9 (by kernel_rfl) (by kernel_rfl) (bb C7.out ab) (fun wr hwr=>?_);refine FA ?_;have br:=bb (bb C7.out ab) hwr;have B9:=ah B6 br;have X1:=aa (X1.out.grow br);have J6:=aa (J6.out.grow br);clear br;have z6:=J6.out.cell;have l6:=J6.out.lt;have z1:=X1.out.cell;have l1:=X1.out.lt;clear C7 hwr ab;go_wp2_with fail;refine(HBS.out _ (H.out.later B9.out).tab).mono ?_;rintro e w10 ⟨rfl,cN⟩;go_wp2_with fail;go_ret;rw[ar.out];exact⟨bb B9.out cN,rfl,trivial⟩
set_option maxHeartbeats 4000000 in
theorem Zg{w:World}{pt pv:Nat}{T:List Ty}{L:List Lv}(h:bO w pt pv T L){g o n c yb:Nat}{y:ao}(hn:0<n)(hc:n≤c)(hp:w.cell? ⟨g,o,none⟩=some (.pointer (some ⟨yb,0,none⟩)))(ht:bg w yb y)(E:df pt pv T L y)(f:Nat)(hf:8*bq y≤f):Calls Tryz.prog 197 #[qV pt pv,.slice (some ⟨g,o,none⟩) n c] w (fW w (wholeJ (aj T L) (f+1+1) y >>= fun _=>.ok (4:Int))):=by
 have H:=aa h;have HT:=aa ht;have HP:=aa hp;have HNC:=aa (And.intro hn hc);have HC:=aa (fun w' (hb:Below w.heap.size w w')=>Gm (h.later hb) E f hf (ht.later hb));generalize hrr:(wholeJ (aj T L) (f+1+1) y >>= fun _=>.ok (4:Int))=r;have HV:=aa hrr.symm;clear h ht hp E hf hrr;dsimp only[qV,qC];dsimp only[qV,qC]at HC;go_enter Tryz.func197,Tryz.ntmps197;go_upto_region 1 with(fail);generalize az:w.alloc _=w1;obtain⟨ae,x1,aE⟩:=made az;have B1:=aa ae;have X1:=aa x1;have z1:=X1.out.cell;have l1:=X1.out.lt;clear az ae aE x1;have hp1:=bo HP.out B1.out;have rB:=aQ hp1;have h0:(0:Int)<(n:Int):=by have:=HNC.out;omega
 have T1:=aa (HT.out.later B1.out);have hC:=HC.out;cases hr:wholeJ (aj T L) (f+1+1) y with
 |error q=>
  obtain⟨p,c⟩:=q;have hv:=HV.out;simp only[hr,fV]at hv;have aq:=aa hv;rw[hr]at hC;have bJ:=aa hC;clear hr HV hv hC HC;go_upto_region 1 with(fail);refine bh [] [] (by kernel_rfl) ?_;refine FQ (Below.refl _ _) [0,1,2,3] ?_;refine FC 4 aG (Below.refl _ _) (fun w4 ab=>(bJ.out _ (bb B1.out ab)).mono ?_);rintro e w3 ⟨ad,rfl⟩;exact bj (fn:=Tryz.f197) aq.out (bb (bb B1.out ab) ad) rfl
 |ok j=>
  exact OF
set_option maxHeartbeats 4000000 in
theorem Zh{w:World}{pt pv:Nat}{T:List Ty}{L:List Lv}(h:bO w pt pv T L){g o n c yb:Nat}{y:ao}(hn:0<n)(hc:n≤c)(hp:w.cell? ⟨g,o,none⟩=some (.pointer (some ⟨yb,0,none⟩)))(ht:bg w yb y)(E:df pt pv T L y)(f:Nat)(hf:8*bq y≤f):Calls Tryz.prog 200 #[qV pt pv,.slice (some ⟨g,o,none⟩) n c] w (fW w (wholeJ (aj T L) (f+1+1) y >>= fun _=>.ok (3:Int))):=by
 have H:=aa h;have HT:=aa ht;have HP:=aa hp;have HNC:=aa (And.intro hn hc);have HC:=aa (fun w' (hb:Below w.heap.size w w')=>Gm (h.later hb) E f hf (ht.later hb));generalize hrr:(wholeJ (aj T L) (f+1+1) y >>= fun _=>.ok (3:Int))=r;have HV:=aa hrr.symm;clear h ht hp E hf hrr;dsimp only[qV,qC];dsimp only[qV,qC]at HC;go_enter Tryz.func200,Tryz.ntmps200;go_upto_region 1 with(fail);generalize az:w.alloc _=w1;obtain⟨ae,x1,aE⟩:=made az;have B1:=aa ae;have X1:=aa x1;have z1:=X1.out.cell;have l1:=X1.out.lt;clear az ae aE x1;have hp1:=bo HP.out B1.out;have rB:=aQ hp1;have h0:(0:Int)<(n:Int):=by have:=HNC.out;omega
 have T1:=aa (HT.out.later B1.out);have hC:=HC.out;cases hr:wholeJ (aj T L) (f+1+1) y with
 |error q=>
  obtain⟨p,c⟩:=q;have hv:=HV.out;simp only[hr,fV]at hv;have aq:=aa hv;rw[hr]at hC;have bJ:=aa hC;clear hr HV hv hC HC;go_upto_region 1 with(fail);refine bh [] [] (by kernel_rfl) ?_;refine FQ (Below.refl _ _) [0,1,2,3] ?_;refine FC 4 aG (Below.refl _ _) (fun w4 ab=>(bJ.out _ (bb B1.out ab)).mono ?_);rintro e w3 ⟨ad,rfl⟩;exact bj (fn:=Tryz.f200) aq.out (bb (bb B1.out ab) ad) rfl
 |ok j=>
  exact OF
set_option maxHeartbeats 4000000 in
theorem OG{w:World}{pt pv:Nat}{T:List Ty}{L:List Lv}(h:bO w pt pv T L){g o n c yb:Nat}{y:ao}(hn:0<n)(hc:n≤c)(hp:w.cell? ⟨g,o,none⟩=some (.pointer (some ⟨yb,0,none⟩)))(ht:bg w yb y)(hk:y.kind=2→0<y.kids.length):Calls Tryz.prog 199 #[qV pt pv,.slice (some ⟨g,o,none⟩) n c] w (fW w (ki (aj T L) y)):=by
 have H:=aa h;have HT:=aa ht;have HP:=aa hp;have HNC:=aa (And.intro hn hc);have HC:=aa (fun w' (hb:Below w.heap.size w w')=>Oi (h.later hb) (ht.later hb) hk);generalize hrr:(ki (aj T L) y)=r;have HV:=aa hrr.symm;clear h ht hp hk hrr;dsimp only[qV,qC];dsimp only[qV,qC]at HC;go_enter Tryz.func199,Tryz.ntmps199;go_upto_region 1 with(fail);generalize az:w.alloc _=w1;obtain⟨ae,x1,aE⟩:=made az;have B1:=aa ae;have X1:=aa x1;have z1:=X1.out.cell;have l1:=X1.out.lt;clear az ae aE x1;have hp1:=bo HP.out B1.out;have rB:=aQ hp1;have h0:(0:Int)<(n:Int):=by have:=HNC.out;omega
 have T1:=aa (HT.out.later B1.out);have hC:=HC.out;cases hr:ki (aj T L) y with
 |error q=>
  obtain⟨p,c⟩:=q;have aq:=aa (HV.out.trans hr);rw[hr]at hC;have bJ:=aa hC;clear hr HV hC HC;go_upto_region 1 with(fail);refine bh [5] [] (by kernel_rfl) ?_;refine FQ (Below.refl _ _) [0,1,2,3] ?_;refine FC 4 aG (Below.refl _ _) (fun w4 ab=>(bJ.out _ (bb B1.out ab)).mono ?_);rintro e w3 ⟨ad,rfl⟩;exact bj (fn:=Tryz.f199) aq.out (bb (bb B1.out ab) ad) rfl
 |ok j=>
  have aq:=aa (HV.out.trans hr);rw[hr]at hC;have bJ:=aa hC;clear hr HV hC HC;go_upto_region 1 with(fail);refine bh [5] [] (by kernel_rfl) ?_;refine FQ (Below.refl _ _) [0,1,2,3] ?_;refine FC 4 aG (Below.refl _ _) (fun w4 ab=>(bJ.out _ (bb B1.out ab)).mono ?_);rintro e w3 ⟨ad,rfl,_⟩;refine⟨ad,?_⟩;have C3:=aa (bb ab ad);clear ad ab;refine cV 5 (by kernel_rfl) (by kernel_rfl) C3.out (fun wr hwr=>?_);refine FA ?_;go_wp2_with fail;go_ret;rw[aq.out];exact⟨bb (bb B1.out C3.out) hwr,rfl,trivial⟩
set_option maxHeartbeats 4000000 in
theorem Zi{w:World}{pt pv:Nat}{T:List Ty}{L:List Lv}(h:bO w pt pv T L){g o n c yb:Nat}{y:ao}(hn:0<n)(hc:n≤c)(hp:w.cell? ⟨g,o,none⟩=some (.pointer (some ⟨yb,0,none⟩)))(ht:bg w yb y)(E:df pt pv T L y)(f:Nat)(hf:8*bq y≤f):Calls Tryz.prog 196 #[qV pt pv,.slice (some ⟨g,o,none⟩) n c] w (fW w (plainJ (aj T L) (f+1) y >>= fun j=>aI (decide (bP T (bG T j 4).type=4)) y 252 >>= fun _=>.ok (4:Int))):=by
 have H:=aa h;have HT:=aa ht;have HP:=aa hp;have HNC:=aa (And.intro hn hc);have HC:=aa (fun w' (hb:Below w.heap.size w w')=>AQ (h.later hb) E f hf (ht.later hb));generalize hrr:(plainJ (aj T L) (f+1) y >>= fun j=>aI (decide (bP T (bG T j 4).type=4)) y 252 >>= fun _=>.ok (4:Int))=r;have HV:=aa hrr.symm;clear h ht hp E hf hrr;dsimp only[qV,qC];dsimp only[qV,qC]at HC;go_enter Tryz.func196,Tryz.ntmps196;go_upto_region 1 with(fail);generalize az:w.alloc _=w1;obtain⟨ae,x1,aE⟩:=made az;have B1:=aa ae;have X1:=aa x1;have z1:=X1.out.cell;have l1:=X1.out.lt;clear az ae aE x1;have hp1:=bo HP.out B1.out;have rB:=aQ hp1;have h0:(0:Int)<(n:Int):=by have:=HNC.out;omega
 have T1:=aa (HT.out.later B1.out);have hC:=HC.out;cases hr:plainJ (aj T L) (f+1) y with
 |error q=>
  obtain⟨p,c⟩:=q;have hv:=HV.out;simp only[hr,fV]at hv;have aq:=aa hv;rw[hr]at hC;have bJ:=aa hC;clear hr HV hv hC HC;go_upto_region 1 with(fail);refine bh [8] [⟨7,5,ei,29⟩] (by kernel_rfl) ?_;refine FQ (Below.refl _ _) [0,1,2,3,4] ?_;refine FC 5 (cr bN) (Below.refl _ _) (fun w4 ab=>(bJ.out _ (bb B1.out ab)).mono ?_);rintro e w3 ⟨ad,rfl⟩;exact bj (fn:=Tryz.f196) aq.out (bb (bb B1.out ab) ad) rfl
 |ok j=>
  have hv:=HV.out;simp only[hr,dc]at hv;rw[hr]at hC;have bJ:=aa hC;have HL:=aa (fun w (h:bO w pt pv T L)=>qL h j 4);generalize bG T j 4=j2 at *;obtain⟨t,v,i⟩:=j2;have HBK:=aa (fun w (h:bO w pt pv T L)=>qK h t);have HOR:=aa (fun w (h:cF w pt T)=>mV h t);dsimp only at hv;generalize bP T t=kb at *;generalize bH T t=oq at *;have aq:=aa hv;clear hr HV hv hC HC;go_upto_region 1 with(fail);refine bh [8] [⟨7,5,ei,29⟩] (by kernel_rfl) ?_;refine FQ (Below.refl _ _) [0,1,2,3,4] ?_;refine FC 5 (cr bN) (Below.refl _ _) (fun w4 ab=>(bJ.out _ (bb B1.out ab)).mono ?_);rintro e w3 ⟨ad,rfl,hvw⟩;refine⟨ad,?_⟩;have C3:=aa (bb ab ad);clear ad ab;clear hvw;refine FC 6 (cr bN) C3.out (fun w4 ab=>(HL.out _ (H.out.later (bb B1.out (bb C3.out ab)))).mono ?_);rintro e w5 ⟨rfl,au⟩;refine⟨au,?_⟩;have C5:=aa (bb C3.out (bb ab au));clear au ab;dsimp only[bU];refine fU 8 (by kernel_rfl) bN (by kernel_rfl) C5.out rfl rfl rfl rfl (fun _=>rfl) (fun _=>rfl) info29 rfl (ig ⟨t,v,i⟩) (fun b6 w6 aD x6 aH _=>?_);refine FA ?_;have J6:=aa (show Bx b6 #[.int .i64 t,aK v,.int .u8 i] 29 w6 from x6);have B6:=ah B1 aH;have X1:=aa (X1.out.grow aH);have T6:=aa (T1.out.later aH);have pW:=bo hp1 aH;have JV:=aQ pW;have z6:=J6.out.cell;have l6:=J6.out.lt;have z1:=X1.out.cell;have l1:=X1.out.lt;clear x6 aH aD;go_upto_region 2 with(fail);refine bh [] [] (by kernel_rfl) ?_;refine FQ (Below.refl _ _) [0,1,2,5,6,7] ?_;refine FC 3 aG (Below.refl _ _) (fun w4 ab=>(HBK.out _ (H.out.later (bb B6.out ab))).mono ?_);rintro e w7 ⟨rfl,aC⟩;refine⟨aC,?_⟩;have C7:=aa (bb ab aC);clear aC ab;refine FS aG C7.out [4] ?_;by_cases h2:kb=4
  ·subst h2;have ar:=aa (show r=.ok 4 from aq.out);refine FC 8 aG C7.out (fun w4 ab=>(jm (by rfl) (T6.out.later (bb C7.out ab)) 252).mono ?_);exact OH
  ·have ar:=aa (show r=.error (y.pos,252)by have:=aq.out;rw[decide_eq_false h2]at this;exact this);refine FC 8 aG C7.out (fun w4 ab=>(lq (show(kb==4)=false from beq_eq_false_iff_ne.2 h2) (T6.out.later (bb C7.out ab)) 252).mono ?_);rintro e w8 ⟨rfl,rfl⟩;exact bj (fn:=Tryz.f196) ar.out (bb B6.out (bb C7.out ab)) rfl
set_option maxHeartbeats 4000000 in
theorem Zj{w:World}{pt pv:Nat}{T:List Ty}{L:List Lv}(h:bO w pt pv T L){g o n c yb:Nat}{y:ao}(hn:0<n)(hc:n≤c)(hp:w.cell? ⟨g,o,none⟩=some (.pointer (some ⟨yb,0,none⟩)))(ht:bg w yb y)(E:df pt pv T L y)(f:Nat)(hf:8*bq y≤f):Calls Tryz.prog 201 #[qV pt pv,.slice (some ⟨g,o,none⟩) n c] w (fW w (plainJ (aj T L) (f+1) y >>= fun j=>aI (bH T (bG T j 4).type) y 252 >>= fun _=>.ok (2:Int))):=by
 have H:=aa h;have HT:=aa ht;have HP:=aa hp;have HNC:=aa (And.intro hn hc);have HC:=aa (fun w' (hb:Below w.heap.size w w')=>AQ (h.later hb) E f hf (ht.later hb));generalize hrr:(plainJ (aj T L) (f+1) y >>= fun j=>aI (bH T (bG T j 4).type) y 252 >>= fun _=>.ok (2:Int))=r;have HV:=aa hrr.symm;clear h ht hp E hf hrr;dsimp only[qV,qC];dsimp only[qV,qC]at HC;go_enter Tryz.func201,Tryz.ntmps201;go_upto_region 1 with(fail);generalize az:w.alloc _=w1;obtain⟨ae,x1,aE⟩:=made az;have B1:=aa ae;have X1:=aa x1;have z1:=X1.out.cell;have l1:=X1.out.lt;clear az ae aE x1;have hp1:=bo HP.out B1.out;have rB:=aQ hp1;have h0:(0:Int)<(n:Int):=by have:=HNC.out;omega
 have T1:=aa (HT.out.later B1.out);have hC:=HC.out;cases hr:plainJ (aj T L) (f+1) y with
 |error q=>
  obtain⟨p,c⟩:=q;have hv:=HV.out;simp only[hr,fV]at hv;have aq:=aa hv;rw[hr]at hC;have bJ:=aa hC;clear hr HV hv hC HC;go_upto_region 1 with(fail);refine bh [8] [⟨7,5,ei,29⟩] (by kernel_rfl) ?_;refine FQ (Below.refl _ _) [0,1,2,3,4] ?_;refine FC 5 (cr bN) (Below.refl _ _) (fun w4 ab=>(bJ.out _ (bb B1.out ab)).mono ?_);rintro e w3 ⟨ad,rfl⟩;exact bj (fn:=Tryz.f201) aq.out (bb (bb B1.out ab) ad) rfl
 |ok j=>
  have hv:=HV.out;simp only[hr,dc]at hv;rw[hr]at hC;have bJ:=aa hC;have HL:=aa (fun w (h:bO w pt pv T L)=>qL h j 4);generalize bG T j 4=j2 at *;obtain⟨t,v,i⟩:=j2;have HBK:=aa (fun w (h:bO w pt pv T L)=>qK h t);have HOR:=aa (fun w (h:cF w pt T)=>mV h t);dsimp only at hv;generalize bP T t=kb at *;generalize bH T t=oq at *;have aq:=aa hv;clear hr HV hv hC HC;go_upto_region 1 with(fail);refine bh [8] [⟨7,5,ei,29⟩] (by kernel_rfl) ?_;refine FQ (Below.refl _ _) [0,1,2,3,4] ?_;refine FC 5 (cr bN) (Below.refl _ _) (fun w4 ab=>(bJ.out _ (bb B1.out ab)).mono ?_);rintro e w3 ⟨ad,rfl,hvw⟩;refine⟨ad,?_⟩;have C3:=aa (bb ab ad);clear ad ab;clear hvw;refine FC 6 (cr bN) C3.out (fun w4 ab=>(HL.out _ (H.out.later (bb B1.out (bb C3.out ab)))).mono ?_);rintro e w5 ⟨rfl,au⟩;refine⟨au,?_⟩;have C5:=aa (bb C3.out (bb ab au));clear au ab;dsimp only[bU];refine fU 8 (by kernel_rfl) bN (by kernel_rfl) C5.out rfl rfl rfl rfl (fun _=>rfl) (fun _=>rfl) info29 rfl (ig ⟨t,v,i⟩) (fun b6 w6 aD x6 aH _=>?_);refine FA ?_;have J6:=aa (show Bx b6 #[.int .i64 t,aK v,.int .u8 i] 29 w6 from x6);have B6:=ah B1 aH;have X1:=aa (X1.out.grow aH);have T6:=aa (T1.out.later aH);have pW:=bo hp1 aH;have JV:=aQ pW;have z6:=J6.out.cell;have l6:=J6.out.lt;have z1:=X1.out.cell;have l1:=X1.out.lt;clear x6 aH aD;go_upto_region 2 with(fail);refine bh [] [] (by kernel_rfl) ?_;refine FQ (Below.refl _ _) [0,1,2,3,5,6,7] ?_;refine FC 4 aG (Below.refl _ _) (fun w4 ab=>(HOR.out _ (H.out.later (bb B6.out ab)).tab).mono ?_);rintro e w7 ⟨rfl,aC⟩;refine⟨aC,?_⟩;have C7:=aa (bb ab aC);clear aC ab;cases oq
  ·have ar:=aa (show r=.error (y.pos,252)from aq.out);refine FC 8 aG C7.out (fun w4 ab=>(lq rfl (T6.out.later (bb C7.out ab)) 252).mono ?_);rintro e w8 ⟨rfl,rfl⟩;exact bj (fn:=Tryz.f201) ar.out (bb B6.out (bb C7.out ab)) rfl
  ·have ar:=aa (show r=.ok 2 from aq.out);refine FC 8 aG C7.out (fun w4 ab=>(jm rfl (T6.out.later (bb C7.out ab)) 252).mono ?_);exact OH
set_option maxHeartbeats 4000000 in
theorem Zk{w:World}{pt pv:Nat}{T:List Ty}{L:List Lv}(h:bO w pt pv T L){g o n c yb:Nat}{y:ao}(hn:0<n)(hc:n≤c)(hp:w.cell? ⟨g,o,none⟩=some (.pointer (some ⟨yb,0,none⟩)))(ht:bg w yb y)(hk:y.kind=2→0<y.kids.length)(E:df pt pv T L y)(f:Nat)(hf:8*bq y≤f):Calls Tryz.prog 202 #[qV pt pv,.slice (some ⟨g,o,none⟩) n c] w (fW w (sizedJ (aj T L) (f+1) y >>= fun t=>aI (decide ((aN T t).2=0)&&decide (aJ T t≠11)) y 252 >>= fun _=>.ok (2:Int))):=by
 have H:=aa h;have HT:=aa ht;have HP:=aa hp;have HNC:=aa (And.intro hn hc);have HC:=aa (fun w' (hb:Below w.heap.size w w')=>OE (h.later hb) (ht.later hb) hk E f hf);generalize hrr:(sizedJ (aj T L) (f+1) y >>= fun t=>aI (decide ((aN T t).2=0)&&decide (aJ T t≠11)) y 252 >>= fun _=>.ok (2:Int))=r;have HV:=aa hrr.symm;clear h ht hp E hf hk hrr;dsimp only[qV,qC];dsimp only[qV,qC]at HC;go_enter Tryz.func202,Tryz.ntmps202;go_upto_region 1 with(fail);generalize az:w.alloc _=w1;obtain⟨ae,x1,aE⟩:=made az;have B1:=aa ae;have X1:=aa x1;have z1:=X1.out.cell;have l1:=X1.out.lt;clear az ae aE x1;have hp1:=bo HP.out B1.out;have rB:=aQ hp1;have h0:(0:Int)<(n:Int):=by have:=HNC.out;omega
 have T1:=aa (HT.out.later B1.out);have hC:=HC.out;cases hr:sizedJ (aj T L) (f+1) y with
 |error q=>
  obtain⟨p,c⟩:=q;have hv:=HV.out;simp only[hr,fV]at hv;have aq:=aa hv;rw[hr]at hC;have bJ:=aa hC;clear hr HV hv hC HC;go_upto_region 1 with(fail);refine bh [5] [] (by kernel_rfl) ?_;refine FQ (Below.refl _ _) [0,1,2,3] ?_;refine FC 4 aG (Below.refl _ _) (fun w4 ab=>(bJ.out _ (bb B1.out ab)).mono ?_);rintro e w3 ⟨ad,rfl⟩;exact bj (fn:=Tryz.f202) aq.out (bb (bb B1.out ab) ad) rfl
 |ok j=>
  have hv:=HV.out;simp only[hr,dc]at hv;rw[hr]at hC;have bJ:=aa hC;have HSZ:=aa (fun w (h:cF w pt T)=>OI h j);have HKD:=aa (fun w (h:bO w pt pv T L)=>nN h j);generalize aN T j=sz at *;generalize aJ T j=kd at *;obtain⟨sn,se⟩:=sz;dsimp only at hv;have aq:=aa hv;clear hr HV hv hC HC;go_upto_region 1 with(fail);refine bh [5] [] (by kernel_rfl) ?_;refine FQ (Below.refl _ _) [0,1,2,3] ?_;refine FC 4 aG (Below.refl _ _) (fun w4 ab=>(bJ.out _ (bb B1.out ab)).mono ?_);rintro e w3 ⟨ad,rfl,_⟩;refine⟨ad,?_⟩;have C3:=aa (bb ab ad);clear ad ab;refine cV 5 (by kernel_rfl) (by kernel_rfl) C3.out (fun wr hwr=>?_);refine FA ?_;have aD:=bb C3.out hwr;have T6:=aa (T1.out.later aD);have pW:=bo hp1 aD;have B6:=ah B1 aD;have X1:=aa (X1.out.grow aD);clear aD;have z1:=X1.out.cell;have l1:=X1.out.lt;clear C3 hwr;go_wp2_with fail;refine(HSZ.out _ (H.out.later B6.out).tab).mono ?_;rintro e w7 ⟨rfl,aC⟩;have T7:=aa (T6.out.later aC);have JW:=bo pW aC;have lg7:=aQ JW;have B7:=ah B6 aC;have X1:=aa (X1.out.grow aC);clear aC;have z1:=X1.out.cell;have l1:=X1.out.lt;go_upto_region 3 with(fail);refine bh [] [] (by kernel_rfl) ?_;by_cases h0e:se=0
  ·subst h0e;refine FQ (Below.refl _ _) [0,1,2,8,9,10,3,4] ?_;refine FC 5 aG (Below.refl _ _) (fun w4 ab=>(HKD.out _ (H.out.later (bb B7.out ab))).mono ?_);rintro e w8 ⟨rfl,aB⟩;refine⟨aB,?_⟩;have C8:=aa (bb ab aB);clear aB ab;refine FS aG C8.out [6,7] ?_;by_cases h2:kd=11
   ·subst h2;have ar:=aa (show r=.error (y.pos,252)from aq.out);refine FC 11 aG C8.out (fun w4 ab=>(lq (by rfl) (T7.out.later (bb C8.out ab)) 252).mono ?_);rintro e w9 ⟨rfl,rfl⟩;exact bj (fn:=Tryz.f202) ar.out (bb B7.out (bb C8.out ab)) rfl
   ·have ar:=aa (show r=.ok 2 by have:=aq.out;rw[decide_eq_true h2]at this;exact this);refine FC 11 aG C8.out (fun w4 ab=>(jm (show(kd != 11)=true from bne_iff_ne.2 h2) (T7.out.later (bb C8.out ab)) 252).mono ?_);rintro e w9 ⟨rfl,rfl⟩;refine⟨Below.refl _ _,?_⟩;refine cV 12 (by kernel_rfl) (by kernel_rfl) (bb C8.out ab) (fun wr hwr=>?_);refine FA ?_;go_wp2_with fail;go_ret;rw[ar.out];exact⟨bb (bb (bb B7.out C8.out) ab) hwr,rfl,trivial⟩
  ·have ar:=aa (show r=.error (y.pos,252)by have:=aq.out;rw[decide_eq_false h0e]at this;exact this);have d0:=beq_eq_false_iff_ne.2 h0e;refine FQ (Below.refl _ _) [0,1,2,8,9,10,3,4] ?_;refine FN 5 aG (Below.refl _ _) ?_;refine FQ (Below.refl _ _) [6,7] ?_;refine FC 11 aG (Below.refl _ _) (fun w4 ab=>(lq (by first|rfl|exact d0) (T7.out.later ab) 252).mono ?_);rintro e w9 ⟨rfl,rfl⟩;exact bj (fn:=Tryz.f202) ar.out (bb B7.out ab) rfl
end Go.Proofs.YtlpombjidhloiaaGreat
