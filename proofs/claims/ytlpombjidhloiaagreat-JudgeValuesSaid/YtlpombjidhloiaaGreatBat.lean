/- The judge's parts. The judge's parts upon expressions. Condition: what each theorem says. -/
import Derived.Test.YtlpombjidhloiaaGreatBas
namespace Go.Proofs.YtlpombjidhloiaaGreat
open Go.RowKit
set_option maxRecDepth 100000
attribute [local go_sem ↓] Go.wp_at_zero Go.wp_at_succ
def NQ:World→Jr En→Ending→World→Prop:=sk (fun e=>Vw e.val) (fun e=>.agg (eG e))
theorem YS{fn:Func}{p:Tmp}(hfn:fn.results=#[.cell p 74]){wF:World}(e:En){R:Ending→World→Prop}{tmps:Array Value}{ds:List Deferred}{k:Nat}(X:Bx k (eG e) 74 wF)(hd:ds=[])
 (hp:tmps.getD p undef=.pointer (some ⟨k,0,none⟩)) (hR:R (.returned (.agg (eG e))) wF):bodyPost Tryz.prog fn R .ret ⟨tmps,ds⟩ wF:=by
 have hp':tmps[p]?.getD undef=.pointer (some ⟨k,0,none⟩):=by simpa using hp
 have h1:(results fn (Act.mk tmps ds).tmps).run Tryz.prog wF=.ok (.agg (eG e)) wF:=by
  simp[results,hfn,hp',asAddr,run_loadVar_row wF k _ _ _ (0,0) _ X Tryz.underlying74 rfl (info74.trans rfl)]
 exact bodyPost_ret h1 hd hR
theorem NR{fn:Func}{p:Tmp}(hfn:fn.results=#[.cell p 74]){w wr:World}(e:En){r:Jr En}{tmps:Array Value}{ds:List Deferred}{k:Nat}{y0 y1 y2 y3 y4 y5 y6:Value}(X:Bx k #[y0,y1,y2,y3,y4,y5,y6] 74 wr)(hb:Below w.heap.size w wr)(hk:w.heap.size≤k)(hd:ds=[])
 (hp:tmps.getD p undef=.pointer (some ⟨k,0,none⟩)) (hr:r=.ok e) (hv:Vw e.val):bodyPost Tryz.prog fn (NQ w r) .ret ⟨tmps,ds⟩ (mU wr k e):=by
 subst hr;have h1:Below w.heap.size w (mU wr k e):=by
  unfold mU;iterate 7 (refine Below.setCell ?_ (by exact hk) _)
  exact hb
 exact YS hfn e (NU X e) hd hp ⟨h1,rfl,hv⟩
set_option maxHeartbeats 1000000 in
theorem AM{w:World}{pt pv:Nat}{T:List Ty}{L:List Lv}(h:bO w pt pv T L){b:Nat}{x:ao}(hx:bg w b x)(hn:x.kind=2→0<x.kids.length):Calls Tryz.prog 95 #[qV pt pv,.pointer (some ⟨b,0,none⟩)] w (NQ w (eX (aj T L) x)):=by
 have H:=aa h;have HX:=aa hx;have HN:=aa hn;have HV:=aa (show eX (aj T L) x=(if x.kind=1 then(match jL L x.name with|some e=>.ok e|none=>.error (x.pos,250))else if jn (aj T L) x then(match iU L (kid x 0).name x.name with|some e=>.ok e|none=>.error (x.pos,250))else .error (x.pos,251))from rfl);clear h hx hn;dsimp only[qV,qC];go_enter Tryz.func95,Tryz.ntmps95;go_upto_region 1 with(fail);generalize az:w.alloc _=w1;obtain⟨ae,x1,aE⟩:=made az;generalize aU:w1.alloc _=w2;obtain⟨af,x2,bu⟩:=made aU;rw[aE]at x2;have B2:=aa (bb ae af);have X1:=aa (x1.grow af);have X2:=aa x2;have z1:=X1.out.cell;have l1:=X1.out.lt;clear az ae aE x1 aU af bu x2;obtain⟨Ax,cx,k0x,k1x,k2x,k3x,k4x,hkidx⟩:=(HX.out.later B2.out).cells;have lbx:=aQ k0x;have KIDx:=aa hkidx;clear hkidx;by_cases h1:x.kind=1
 ·rw[h1]at k0x;have hv:=HV.out;rw[if_pos h1]at hv;have aq:=aa hv;clear hv HV;go_upto_region 2 with(fail);refine bh [11,12] [⟨10,5,wL,74⟩] (by kernel_rfl) ?_;refine FQ (Below.refl _ _) [0,1,2,3,4,5] ?_;refine FC 6 (cr lT) (Below.refl _ _) (fun w4 ab=>(AI ((H.out.later B2.out).later ab).env x.name).mono ?_);rintro e w5 ⟨en,q,rfl,hq,hb⟩;refine⟨hb,?_⟩;have B5:=aa (bb ab hb);have HQ:=aa hq;clear hb ab hq;dsimp only[eG];refine FS (cr lT) B5.out [7,8,9] ?_;refine fU 11 (by kernel_rfl) lT (by kernel_rfl) B5.out rfl rfl rfl rfl (fun _=>rfl) (fun _=>rfl) info74 rfl (AJ en) (fun b6 w6 aD x6 aH _=>?_);refine FA ?_;have B6:=ah B2 aH;have X6:=aa x6;have X2:=aa (X2.out.grow aH);have z6:=X6.out.cell;have l6:=X6.out.lt;have z2:=X2.out.cell;have f2:=X2.out.frozen;have l2:=X2.out.lt;have dV:=aa (HX.out.later B6.out);clear x6 aH z1 l1;rcases HQ.out with⟨rfl,hf,rfl⟩|⟨rfl,hf⟩
  ·have ar:=aa (show eX (aj T L) x=.error (x.pos,250)by rw[aq.out,hf]);clear hf aq HQ;go_wp2_with fail;refine(iI false dV.out 250).mono ?_;rintro e w7 ⟨rfl,rfl⟩;exact bj ar.out B6.out rfl
  ·have ar:=aa (show eX (aj T L) x=.ok en by rw[aq.out,hf]);have HVW:=aa (H.out.vals _ _ hf);clear hf aq HQ;go_wp2_with fail;refine(iI true dV.out 250).mono ?_;rintro e w7 ⟨rfl,rfl⟩;go_wp2_with fail;exact NR rfl en X2.out B6.out (by omega) rfl rfl ar.out HVW.out
 have d1:=beq_eq_false_iff_ne.2 h1;have hv:=HV.out;rw[if_neg h1]at hv;have aq:=aa hv;clear hv HV;go_wp2_with fail;refine(AH (H.out.later B2.out) (HX.out.later B2.out) HN.out).mono ?_;rintro e w3 ⟨rfl,ad⟩;have B3:=ah B2 ad;have X1:=aa (X1.out.grow ad);have X2:=aa (X2.out.grow ad);clear ad;have z1:=X1.out.cell;have l1:=X1.out.lt;have z2:=X2.out.cell;have f2:=X2.out.frozen;have l2:=X2.out.lt;obtain⟨Av,cv,k0v,k1v,k2v,k3v,k4v,hkidv⟩:=(HX.out.later B3.out).cells;have lbv:=aQ k0v;have KIDv:=aa hkidv;clear hkidv;clear B2 KIDx;cases hu:jn (aj T L) x
 ·have ar:=aa (show eX (aj T L) x=.error (x.pos,251)by rw[aq.out,hu];rfl);clear hu aq;go_wp2_with fail;exact bj ar.out B3.out rfl
 ·have h2:x.kind=2:=by
   exact NV
  have hv:=aq.out;rw[hu,if_pos rfl]at hv;have ar:=aa hv;clear hv aq hu;obtain⟨gy,oy,yy,rfl,hcy,hpy,hty⟩:=KIDv.out 0 (HN.out h2);have lgy:=aQ hpy;have HTy:=aa hty;clear hty;rw[Nat.add_zero]at hpy;have h0:(0:Int)<(x.kids.length:Int):=by have:=HN.out h2;omega
  have h0n:0<x.kids.length:=HN.out h2;obtain⟨A2,c2,m0,_,m2,_,_,_⟩:=HTy.out.cells;have ly:=aQ m0;go_upto_region 6 with(fail);refine bh [20,21] [⟨19,7,wL,74⟩] (by kernel_rfl) ?_;refine FQ (Below.refl _ _) [0,1,2,3,4,5,6,7,8,9,10,11,12,13,14] ?_;refine FC 15 (cr lT) (Below.refl _ _) (fun w4 ab=>(NW ((H.out.later B3.out).later ab).env (kid x 0).name x.name).mono ?_);rintro e w5 ⟨en,q,rfl,hq,hb⟩;refine⟨hb,?_⟩;have B5:=aa (bb ab hb);have HQ:=aa hq;clear hb ab hq;dsimp only[eG];refine FS (cr lT) B5.out [16,17,18] ?_;refine fU 20 (by kernel_rfl) lT (by kernel_rfl) B5.out rfl rfl rfl rfl (fun _=>rfl) (fun _=>rfl) info74 rfl (AJ en) (fun b6 w6 aD x6 aH _=>?_);refine FA ?_;have B6:=ah B3 aH;have X6:=aa x6;have X2:=aa (X2.out.grow aH);have z6:=X6.out.cell;have l6:=X6.out.lt;have z2:=X2.out.cell;have f2:=X2.out.frozen;have l2:=X2.out.lt;have dV:=aa (HX.out.later B6.out);clear x6 aH z1 l1;rcases HQ.out with⟨rfl,hf,rfl⟩|⟨rfl,hf⟩
  ·have aA:=aa (show eX (aj T L) x=.error (x.pos,250)by rw[ar.out,hf]);clear hf ar HQ;go_wp2_with fail;refine(iI false dV.out 250).mono ?_;rintro e w7 ⟨rfl,rfl⟩;exact bj aA.out B6.out rfl
  ·have aA:=aa (show eX (aj T L) x=.ok en by rw[ar.out,hf]);have HVW:=aa (H.out.ofs _ _ _ hf);clear hf ar HQ;go_wp2_with fail;refine(iI true dV.out 250).mono ?_;rintro e w7 ⟨rfl,rfl⟩;go_wp2_with fail;exact NR rfl en X2.out B6.out (by omega) rfl rfl aA.out HVW.out
set_option maxHeartbeats 1000000 in
theorem NX{w:World}{pt pv:Nat}{T:List Ty}{L:List Lv}(h:bO w pt pv T L){b:Nat}{x:ao}(hx:bg w b x)(hn:x.kind=2→0<x.kids.length):Calls Tryz.prog 63 #[qV pt pv,.pointer (some ⟨b,0,none⟩)] w (jN w (nameJ (aj T L) x)):=by
 have H:=aa h;have HX:=aa hx;have HC:=aa (fun w' (hb:Below w.heap.size w w')=>AM (h.later hb) (hx.later hb) hn);have HV:=aa (nameJ.eq_1 (aj T L) x);clear h hx hn;dsimp only[qV,qC];go_enter Tryz.func63,Tryz.ntmps63;go_upto_region 1 with(fail);generalize az:w.alloc _=w1;obtain⟨ae,x1,aE⟩:=made az;generalize aU:w1.alloc _=w2;obtain⟨af,x2,bu⟩:=made aU;rw[aE]at x2;have B2:=aa (bb ae af);have X1:=aa (x1.grow af);have X2:=aa x2;have z1:=X1.out.cell;have l1:=X1.out.lt;clear az ae aE x1 aU af bu x2;cases hm:eX (aj T L) x with
 |error q=>
  obtain⟨p,c⟩:=q;have aq:=aa (show nameJ (aj T L) x=.error (p,c)by rw[HV.out,hm]);rw[hm]at HC;clear hm HV;go_wp2_with fail;refine(HC.out _ B2.out).mono ?_;exact wN
 |ok en=>
  have hv:=HV.out;rw[hm]at hv;dsimp only at hv;rw[hm]at HC;have aq:=aa hv;clear hm HV hv;go_wp2_with fail;refine(HC.out _ B2.out).mono ?_;rintro e w3 ⟨ad,rfl,hvw⟩;have VW:=aa hvw;have B3:=ah B2 ad;have X1:=aa (X1.out.grow ad);have X2:=aa (X2.out.grow ad);clear ad;have HS:=aa X2.out.lt;clear z1 l1 B2 hvw;dsimp only[eG];go_upto_region 3 with(fail);generalize ab:w3.alloc _=w4;obtain⟨aw,x4,iZ⟩:=made ab;generalize dA:w4.alloc _=w5;obtain⟨au,x5,iw⟩:=made dA;rw[iZ]at x5;have X4:=aa (x4.grow au);have X5:=aa x5;have hb:=bb aw au;clear ab aw x4 iZ dA au x5 iw;have B5:=ah B3 hb;have X1:=aa (X1.out.grow hb);have X2:=aa (X2.out.grow hb);clear hb;have pT:=aa (HX.out.later B5.out);have z4:=X4.out.cell;have l4:=X4.out.lt;have z2:=X2.out.cell;have f2:=X2.out.frozen;have l2:=X2.out.lt;have z5:=X5.out.cell;have f5:=X5.out.frozen;have l5:=X5.out.lt;clear B3;have n1:¬(w.heap.size=w3.heap.size):=by have:=HS.out;omega
  have n2:¬(w3.heap.size=w.heap.size):=by have:=HS.out;omega
  have hbk:∀i v,Below w.heap.size w (w5.setCell ⟨w3.heap.size+1,i,none⟩ v):=fun i v=>B5.out.setCell (show w.heap.size≤w3.heap.size+1 by have:=HS.out;omega) v
  have hxk:∀i v,Bx (w.heap.size+1) _ _ (w5.setCell ⟨w3.heap.size+1,i,none⟩ v):=fun i v=>X2.out.far (by have:=HS.out;show w.heap.size+1≠w3.heap.size+1;omega) v
  have HB:=aa hbk;have HK:=aa hxk;clear hbk hxk;by_cases h1:en.kind=1
  ·rw[h1]at z4;have ar:=aa (show nameJ (aj T L) x=.ok ⟨en.type,en.val,0⟩by rw[aq.out,if_pos h1]);go_wp2_with fail;exact ef rfl ⟨en.type,en.val,0⟩ (HK.out _ _) (HB.out _ _) (by omega) rfl rfl ar.out VW.out
  have d1:=beq_eq_false_iff_ne.2 h1;by_cases h3:en.kind=3
  ·rw[h3]at z4;have ar:=aa (show nameJ (aj T L) x=.ok ⟨en.type,.none,1⟩by rw[aq.out,if_neg h1,if_pos (.inl h3)]);exact NY
  have d3:=beq_eq_false_iff_ne.2 h3;by_cases h4:en.kind=4
  ·rw[h4]at z4;have ar:=aa (show nameJ (aj T L) x=.ok ⟨en.type,.none,1⟩by rw[aq.out,if_neg h1,if_pos (.inr h4)]);exact NY
  have d4:=beq_eq_false_iff_ne.2 h4;have ar:=aa (aq.out.trans ((if_neg h1).trans (if_neg (by rintro(h|h)<;>contradiction))));clear aq;by_cases h5:en.kind=5
  ·rw[h5]at z4;have aA:=aa (show nameJ (aj T L) x=.ok ⟨en.type,.none,2⟩by rw[ar.out,if_pos h5]);go_wp2_with fail;exact ef rfl ⟨en.type,.none,2⟩ (HK.out _ _) (HB.out _ _) (by omega) rfl rfl aA.out trivial
  have d5:=beq_eq_false_iff_ne.2 h5;by_cases h9:en.kind=9
  ·rw[h9]at z4;have hv:=ar.out;rw[if_neg h5,if_pos h9]at hv;by_cases ht:kh en.val=(true,true)
   ·have aA:=aa (show nameJ (aj T L) x=.ok ⟨en.type,.none,2⟩by
     rw[hv,if_pos (by revert ht;cases en.val<;>simp[kh])])
    clear hv;go_wp2_with fail;exact ef rfl ⟨en.type,.none,2⟩ ((HK.out _ _).far (by have:=HS.out;show w.heap.size+1≠w3.heap.size+1;omega) _) ((HB.out _ _).setCell (show w.heap.size≤w3.heap.size+1 by have:=HS.out;omega) _) (by omega) rfl rfl aA.out trivial
   ·have aA:=aa (show nameJ (aj T L) x=.ok ⟨en.type,.none,1⟩by
     rw[hv,if_neg (by intro h;rw[h]at ht;exact ht rfl)])
    clear hv;obtain⟨a1,a2,ha⟩:∃a1 a2,kh en.val=(a1,a2)∧¬(a1=true∧a2=true):=⟨_,_,rfl,fun h=>ht (Prod.ext h.1 h.2)⟩;obtain⟨ha,hna⟩:=ha;clear ht;cases a2
    ·exact NZ
    ·cases a1
     ·exact NZ
     ·exact absurd ⟨rfl,rfl⟩ hna
  have d9:=beq_eq_false_iff_ne.2 h9;by_cases h6:en.kind=6
  ·rw[h6]at z4;have aA:=aa (show nameJ (aj T L) x=.ok ⟨en.type,.none,3⟩by rw[ar.out,if_neg h5,if_neg h9,if_pos h6]);go_wp2_with fail;exact ef rfl ⟨en.type,.none,3⟩ (HK.out _ _) (HB.out _ _) (by omega) rfl rfl aA.out trivial
  have d6:=beq_eq_false_iff_ne.2 h6;have aA:=aa (show nameJ (aj T L) x=.error (x.pos,251)by rw[ar.out,if_neg h5,if_neg h9,if_neg h6]);obtain⟨Ax,cx,k0x,k1x,k2x,k3x,k4x,hkidx⟩:=(HX.out.later B5.out).cells;have lbx:=aQ k0x;have KIDx:=aa hkidx;clear hkidx;go_wp2_with fail;exact bj aA.out B5.out rfl
theorem Oa(k:Int)(w:World):Calls Tryz.prog 138 #[.int .u8 k] w (fun e w'=>e=.returned (.bool (lV k))∧w=w'):=by
 have HV:=aa (show lV k=decide (k∈([14,15,7,16]:List Int))from rfl);go_enter Tryz.func138,Tryz.ntmps138;by_cases h1:k=14
 ·subst h1;go_wp2_with fail;go_ret;exact⟨rfl,rfl⟩
 have d1:=beq_eq_false_iff_ne.2 h1;by_cases h2:k=15
 ·subst h2;go_wp2_with fail;go_ret;exact⟨rfl,rfl⟩
 have d2:=beq_eq_false_iff_ne.2 h2;by_cases h3:k=7
 ·subst h3;go_wp2_with fail;go_ret;exact⟨rfl,rfl⟩
 have d3:=beq_eq_false_iff_ne.2 h3;have aq:=aa (show lV k=(k==16)by rw[HV.out];by_cases h4:k=16<;>simp[h1,h2,h3,h4]);exact AN
theorem YT(n:Int):Go.bits .and .i64 n 1=n% 2:=by
 unfold Go.bits;have h1:(BitVec.ofInt 64 n &&& BitVec.ofInt 64 1).toNat=(n% 2).toNat:=by
  rw[BitVec.toNat_and,BitVec.toNat_ofInt];show(n% ((2^ 64:Nat):Int)).toNat &&& 1=_;rw[Nat.and_one_is_mod];have:((2^ 64:Nat):Int)=18446744073709551616:=rfl;rw[this];omega
 show IntKind.wrap .i64 ((BitVec.ofInt 64 n &&& BitVec.ofInt 64 1).toNat:Int)=_;rw[h1];have:((n% 2).toNat:Int)=n% 2:=by omega
 rw[this];rw[IntKind.wrap_i64];omega
theorem YU(s n:Int)(hn: -1000000≤n∧n≤1000000)(w:World):Calls Tryz.prog 117 #[.int .i64 s,.int .i64 n] w (fun e w'=>e=.returned (.int .i64 (jq s n))∧w=w'):=by
 have HN:=aa (show wrap64 (-n)= -n from Go.IntWalk.wrap64_in _ (by omega));have HNN:=aa hn;clear hn;go_enter Tryz.func117,Tryz.ntmps117;by_cases h1:s=1
 ·subst h1;have HV:=aa (show jq 1 n=max n (-n)from rfl);go_wp2_with fail
  all_goals
   rw[HN.out]at h;go_ret;refine⟨?_,rfl⟩;rw[HV.out]
   first
    |rw[show max n (-n)=n by omega];rfl
    |rw[show max n (-n)=wrap64 (-n)by rw[HN.out];omega];rfl
 have d1:=beq_eq_false_iff_ne.2 h1;by_cases h2:s=2
 ·subst h2;have HV:=aa (show jq 2 n=if 97≤n∧n≤122 then n-32 else n from rfl);by_cases h3:97≤n
  ·by_cases h4:n≤122
   ·have aq:=aa (HV.out.trans (if_pos ⟨h3,h4⟩));exact AN
   ·have aq:=aa (HV.out.trans (if_neg (by omega)));exact AN
  ·have aq:=aa (HV.out.trans (if_neg (by omega)));exact AN
 have d2:=beq_eq_false_iff_ne.2 h2;by_cases h3:s=14
 ·subst h3;have HV:=aa (show jq 14 n=n% 2 from rfl);go_wp2_with fail;go_ret;exact⟨by rw[HV.out,←YT n];rfl,rfl⟩
 have d3:=beq_eq_false_iff_ne.2 h3;have HV:=aa (show jq s n=n by unfold jq;rw[if_neg h1,if_neg h2,if_neg h3]);exact px
theorem AO{w wr:World}(hb:Below w.heap.size w wr){k:Nat}(hk:w.heap.size≤k)(e:En):Below w.heap.size w (mU wr k e):=by
 unfold mU;iterate 7 (refine Below.setCell ?_ (by exact hk) _)
 exact hb
set_option maxHeartbeats 1000000 in
theorem Ob{w:World}{pt pv:Nat}{T:List Ty}{L:List Lv}(h:bO w pt pv T L){b:Nat}{x:ao}(hx:bg w b x)(hn:x.kind=2→0<x.kids.length):Calls Tryz.prog 113 #[qV pt pv,.pointer (some ⟨b,0,none⟩)] w (Pv w (.int .i64 (cG (aj T L) x))):=by
 have H:=aa h;have HX:=aa hx;have HN:=aa hn;have HV:=aa (show cG (aj T L) x=(match(if x.kind=1 then jL L x.name else if jn (aj T L) x then iU L (kid x 0).name x.name else none)with|some e=>if e.kind=8 then e.at_ else 0|none=>0)from rfl);clear h hx hn;dsimp only[qV,qC];go_enter Tryz.func113,Tryz.ntmps113;go_upto_region 2 with(fail);generalize az:w.alloc _=w1;obtain⟨ae,x1,aE⟩:=made az;generalize aU:w1.alloc _=w2;obtain⟨af,x2,bu⟩:=made aU;rw[aE]at x2;have B2:=aa (bb ae af);have X1:=aa (x1.grow af);have X2:=aa x2;have z1:=X1.out.cell;have l1:=X1.out.lt;clear az ae aE x1 aU af bu x2;obtain⟨Ax,cx,k0x,k1x,k2x,k3x,k4x,hkidx⟩:=(HX.out.later B2.out).cells;have lbx:=aQ k0x;have KIDx:=aa hkidx;clear hkidx;by_cases h1:x.kind=1
 ·rw[h1]at k0x;have hv:=HV.out;rw[if_pos h1]at hv;have aq:=aa hv;clear hv HV;go_upto_region 3 with(fail);refine bh [10,11] [] (by kernel_rfl) ?_;refine FQ (Below.refl _ _) [0,1,2,3,4,5] ?_;refine FC 6 aG (Below.refl _ _) (fun w4 ab=>(AI ((H.out.later B2.out).later ab).env x.name).mono ?_);rintro e w5 ⟨en,q,rfl,hq,hb⟩;refine⟨hb,?_⟩;have B5:=aa (bb ab hb);have HQ:=aa hq;clear hb ab hq;dsimp only[eG];refine FS aG B5.out [7,8,9] ?_;refine cV 10 (by kernel_rfl) (by kernel_rfl) B5.out (fun wr hwr=>?_);refine FA ?_;have aD:=bb B5.out hwr;have B6:=ah B2 aD;have X1:=aa (X1.out.grow aD);have X2:=aa (X2.out.grow aD);clear aD;have z2:=X2.out.cell;have f2:=X2.out.frozen;have l2:=X2.out.lt;clear hwr z1 l1 B5;rcases HQ.out with⟨rfl,hf,rfl⟩|⟨rfl,hf⟩
  ·rw[hf]at aq;clear hf HQ;have ar:=aa (show cG (aj T L) x=0 from aq.out);exact Oc
  ·rw[hf]at aq;clear hf HQ;by_cases h8:en.kind=8
   ·have ar:=aa (show cG (aj T L) x=en.at_ from aq.out.trans (if_pos h8));have HE:=aa (fun k (hk:w.heap.size≤k)=>AO B6.out hk en);rw[h8];clear aq;go_wp2_with fail;go_ret;refine⟨by rw[ar.out];rfl,?_⟩;exact Od
   ·have ar:=aa (show cG (aj T L) x=0 from aq.out.trans (if_neg h8));have d8:=beq_eq_false_iff_ne.2 h8;exact Oc
 have d1:=beq_eq_false_iff_ne.2 h1;have hv:=HV.out;rw[if_neg h1]at hv;have aq:=aa hv;clear hv HV;go_wp2_with fail;refine(AH (H.out.later B2.out) (HX.out.later B2.out) HN.out).mono ?_;rintro e w3 ⟨rfl,ad⟩;have B3:=ah B2 ad;have X1:=aa (X1.out.grow ad);have X2:=aa (X2.out.grow ad);clear ad;have z1:=X1.out.cell;have l1:=X1.out.lt;have z2:=X2.out.cell;have f2:=X2.out.frozen;have l2:=X2.out.lt;obtain⟨Av,cv,k0v,k1v,k2v,k3v,k4v,hkidv⟩:=(HX.out.later B3.out).cells;have lbv:=aQ k0v;have KIDv:=aa hkidv;clear hkidv;clear B2 KIDx;cases hu:jn (aj T L) x
 ·have ar:=aa (show cG (aj T L) x=0 by rw[aq.out,hu];rfl);clear hu aq;go_wp2_with fail;go_ret;exact⟨by rw[ar.out];rfl,B3.out⟩
 ·have h2:x.kind=2:=by
   exact NV
  have hv:=aq.out;rw[hu,if_pos rfl]at hv;have ar:=aa hv;clear hv aq hu;obtain⟨gy,oy,yy,rfl,hcy,hpy,hty⟩:=KIDv.out 0 (HN.out h2);have lgy:=aQ hpy;have HTy:=aa hty;clear hty;rw[Nat.add_zero]at hpy;have h0:(0:Int)<(x.kids.length:Int):=by have:=HN.out h2;omega
  have h0n:0<x.kids.length:=HN.out h2;obtain⟨A2,c2,m0,_,m2,_,_,_⟩:=HTy.out.cells;have ly:=aQ m0;go_upto_region 5 with(fail);refine bh [19,20] [] (by kernel_rfl) ?_;refine FQ (Below.refl _ _) [0,1,2,3,4,5,6,7,8,9,10,11,12,13,14] ?_;refine FC 15 aG (Below.refl _ _) (fun w4 ab=>(NW ((H.out.later B3.out).later ab).env (kid x 0).name x.name).mono ?_);rintro e w5 ⟨en,q,rfl,hq,hb⟩;refine⟨hb,?_⟩;have B5:=aa (bb ab hb);have HQ:=aa hq;clear hb ab hq;dsimp only[eG];refine FS aG B5.out [16,17,18] ?_;refine cV 19 (by kernel_rfl) (by kernel_rfl) B5.out (fun wr hwr=>?_);refine FA ?_;have aD:=bb B5.out hwr;have B6:=ah B3 aD;have X1:=aa (X1.out.grow aD);have X2:=aa (X2.out.grow aD);clear aD;have z2:=X2.out.cell;have f2:=X2.out.frozen;have l2:=X2.out.lt;clear hwr z1 l1 B5;rcases HQ.out with⟨rfl,hf,rfl⟩|⟨rfl,hf⟩
  ·rw[hf]at ar;clear hf HQ;have aA:=aa (show cG (aj T L) x=0 from ar.out);exact Oe
  ·rw[hf]at ar;clear hf HQ;by_cases h8:en.kind=8
   ·have aA:=aa (show cG (aj T L) x=en.at_ from ar.out.trans (if_pos h8));have HE:=aa (fun k (hk:w.heap.size≤k)=>AO B6.out hk en);rw[h8];clear ar;go_wp2_with fail;go_ret;refine⟨by rw[aA.out];rfl,?_⟩;exact Od
   ·have aA:=aa (show cG (aj T L) x=0 from ar.out.trans (if_neg h8));have d8:=beq_eq_false_iff_ne.2 h8;exact Oe
mutual
def bq:ao→Nat
 |.mk _ _ _ _ l=>lr l+1
def lr:List ao→Nat
 |[]=>0
 |x::l=>bq x+lr l
end
theorem AP(t:ao):bq t=lr t.kids+1:=by cases t;simp[bq,ao.kids]
theorem lu(t:ao):1≤bq t:=by rw[AP];omega
theorem Of:∀{l:List ao} {y:ao},y∈l→bq y≤lr l
 |x::l,y,h=>by
  rw[lr];rcases List.mem_cons.1 h with rfl|h
  ·omega
  ·have:=Of h;omega
theorem Og{t:ao}{i:Nat}(h:i<t.kids.length):bq (kid t i)+1≤bq t:=by
 rw[AP t];have:=Of (su h);omega
theorem dc{α β:Type}(a:α)(f:α→Jr β):((Except.ok a:Jr α) >>= f)=f a:=rfl
theorem fV{α β:Type}(e:cJ×Int)(f:α→Jr β):((Except.error e:Jr α) >>= f)=.error e:=rfl
theorem lA(x:ao)(c:Int):aI true x c=.ok ():=rfl
theorem Oh(x:ao)(c:Int):aI false x c=.error (x.pos,c):=rfl
def df(pt pv:Nat)(T:List Ty)(L:List Lv)(y:ao):Prop:=∀N,8*bq y≤N→∀w b,bO w pt pv T L→bg w b y→Calls Tryz.prog 37 #[qV pt pv,.pointer (some ⟨b,0,none⟩)] w (jN w (exprJ (aj T L) N y))
set_option maxHeartbeats 2000000 in
theorem AQ{w:World}{pt pv:Nat}{T:List Ty}{L:List Lv}(h:bO w pt pv T L){b:Nat}{x:ao}(E:df pt pv T L x)(f:Nat)(hf:8*bq x≤f)(hx:bg w b x):Calls Tryz.prog 213 #[qV pt pv,.pointer (some ⟨b,0,none⟩)] w (jN w (plainJ (aj T L) (f+1) x)):=by
 have HX:=aa hx;have HC:=aa (fun w' (hb:Below w.heap.size w w')=>E f hf w' b (h.later hb) (hx.later hb));have HV:=aa (show plainJ (aj T L) (f+1) x=(exprJ (aj T L) f x >>= fun j=>aI (decide (j.is≠3)) x 252 >>= fun _=>.ok j)from plainJ.eq_2 (aj T L) x f);generalize plainJ (aj T L) (f+1) x=r at HV ⊢;clear h hx E hf;dsimp only[qV,qC];dsimp only[qV,qC]at HC;go_enter Tryz.func213,Tryz.ntmps213;go_upto_region 1 with(fail);generalize az:w.alloc _=w1;obtain⟨ae,x1,aE⟩:=made az;generalize aU:w1.alloc _=w2;obtain⟨af,x2,bu⟩:=made aU;rw[aE]at x2;have B2:=aa (bb ae af);have X1:=aa (x1.grow af);have X2:=aa x2;have z1:=X1.out.cell;have l1:=X1.out.lt;clear az ae aE x1 aU af bu x2;cases hr:exprJ (aj T L) f x with
 |error q=>
  obtain⟨p,c⟩:=q;have hv:=HV.out;simp only[hr,fV]at hv;have aq:=aa hv;rw[hr]at HC;clear hr HV hv;go_wp2_with fail;refine(HC.out _ B2.out).mono ?_;exact wN
 |ok j=>
  have hv:=HV.out;simp only[hr,dc]at hv;have aq:=aa hv;rw[hr]at HC;clear hr HV hv;obtain⟨t,v,i⟩:=j;go_wp2_with fail;refine(HC.out _ B2.out).mono ?_;rintro e w3 ⟨ad,rfl,hvw⟩;have VW:=aa hvw;have B3:=ah B2 ad;have X1:=aa (X1.out.grow ad);have X2:=aa (X2.out.grow ad);clear ad;clear z1 l1 B2 hvw HC;dsimp only[bU];go_upto_region 2 with(fail);generalize ab:w3.alloc _=w4;obtain⟨aw,x4,iZ⟩:=made ab;have X4:=aa x4;have B4:=ah B3 aw;have X1:=aa (X1.out.grow aw);have X2:=aa (X2.out.grow aw);clear aw;have z4:=X4.out.cell;have l4:=X4.out.lt;have z2:=X2.out.cell;have f2:=X2.out.frozen;have l2:=X2.out.lt;have iP:=aa (HX.out.later B4.out);clear ab x4 iZ B3 HX;by_cases h3:i=3
  ·subst h3;have ar:=aa (show r=.error (x.pos,252)from aq.out);clear aq;go_wp2_with fail;refine(iI false iP.out 252).mono ?_;rintro e w5 ⟨rfl,rfl⟩;exact bj ar.out B4.out rfl
  ·have hv:=aq.out;simp only[decide_eq_true h3,lA,dc]at hv;have ar:=aa hv;have d3:(i != 3)=true:=bne_iff_ne.2 h3;clear aq hv;go_wp2_with fail;refine(iI true iP.out 252).mono ?_;rintro e w5 ⟨rfl,rfl⟩;go_wp2_with fail;exact ef rfl ⟨t,v,i⟩ X2.out B4.out (by omega) rfl rfl ar.out VW.out
set_option maxHeartbeats 2000000 in
theorem Gm{w:World}{pt pv:Nat}{T:List Ty}{L:List Lv}(h:bO w pt pv T L){b:Nat}{x:ao}(E:df pt pv T L x)(f:Nat)(hf:8*bq x≤f)(hx:bg w b x):Calls Tryz.prog 212 #[qV pt pv,.pointer (some ⟨b,0,none⟩)] w (jN w (wholeJ (aj T L) (f+1+1) x)):=by
 have H:=aa h;have HX:=aa hx;have HC:=aa (fun w' (hb:Below w.heap.size w w')=>AQ (h.later hb) E f hf (hx.later hb));have HV:=aa (show wholeJ (aj T L) (f+1+1) x=(plainJ (aj T L) (f+1) x >>= fun j=>aI (bE T j.type) x 252 >>= fun _=>.ok j)from wholeJ.eq_2 (aj T L) x (f+1));generalize wholeJ (aj T L) (f+1+1) x=r at HV ⊢;clear h hx E hf;dsimp only[qV,qC];dsimp only[qV,qC]at HC;go_enter Tryz.func212,Tryz.ntmps212;go_upto_region 1 with(fail);generalize az:w.alloc _=w1;obtain⟨ae,x1,aE⟩:=made az;generalize aU:w1.alloc _=w2;obtain⟨af,x2,bu⟩:=made aU;rw[aE]at x2;have B2:=aa (bb ae af);have X1:=aa (x1.grow af);have X2:=aa x2;have z1:=X1.out.cell;have l1:=X1.out.lt;clear az ae aE x1 aU af bu x2;cases hr:plainJ (aj T L) (f+1) x with
 |error q=>
  obtain⟨p,c⟩:=q;have hv:=HV.out;simp only[hr,fV]at hv;have aq:=aa hv;rw[hr]at HC;clear hr HV hv;go_wp2_with fail;refine(HC.out _ B2.out).mono ?_;exact wN
 |ok j=>
  have hv:=HV.out;simp only[hr,dc]at hv;have aq:=aa hv;rw[hr]at HC;clear hr HV hv;obtain⟨t,v,i⟩:=j;go_wp2_with fail;refine(HC.out _ B2.out).mono ?_;rintro e w3 ⟨ad,rfl,hvw⟩;have VW:=aa hvw;have B3:=ah B2 ad;have X1:=aa (X1.out.grow ad);have X2:=aa (X2.out.grow ad);clear ad;clear z1 l1 B2 hvw HC;dsimp only[bU];go_upto_region 2 with(fail);generalize ab:w3.alloc _=w4;obtain⟨aw,x4,iZ⟩:=made ab;have X4:=aa x4;have B4:=ah B3 aw;have X1:=aa (X1.out.grow aw);have X2:=aa (X2.out.grow aw);clear aw;have z4:=X4.out.cell;have l4:=X4.out.lt;have z1:=X1.out.cell;have l1:=X1.out.lt;clear ab x4 iZ B3;go_wp2_with fail;refine(lU (H.out.later B4.out).tab t).mono ?_;rintro e w5 ⟨rfl,au⟩;have B5:=ah B4 au;have X1:=aa (X1.out.grow au);have X2:=aa (X2.out.grow au);have X4:=aa (X4.out.grow au);clear au;have z4:=X4.out.cell;have l4:=X4.out.lt;have z2:=X2.out.cell;have f2:=X2.out.frozen;have l2:=X2.out.lt;have pT:=aa (HX.out.later B5.out);clear B4 HX z1 l1 H;cases hn:bE T t
  ·have ar:=aa (show r=.error (x.pos,252)by have:=aq.out;simp only[hn]at this;exact this);clear aq hn;go_wp2_with fail;refine(iI false pT.out 252).mono ?_;rintro e w6 ⟨rfl,rfl⟩;exact bj ar.out B5.out rfl
  ·have ar:=aa (show r=.ok ⟨t,v,i⟩by have:=aq.out;simp only[hn]at this;exact this);clear aq hn;go_wp2_with fail;refine(iI true pT.out 252).mono ?_;rintro e w6 ⟨rfl,rfl⟩;go_wp2_with fail;exact ef rfl ⟨t,v,i⟩ X2.out B5.out (by omega) rfl rfl ar.out VW.out
def fW:World→Jr Int→Ending→World→Prop:=sk (fun _=>True) (fun n=>.int .i64 n)
set_option maxHeartbeats 2000000 in
theorem Oi{w:World}{pt pv:Nat}{T:List Ty}{L:List Lv}(h:bO w pt pv T L){b:Nat}{x:ao}(hx:bg w b x)(hn:x.kind=2→0<x.kids.length):Calls Tryz.prog 214 #[qV pt pv,.pointer (some ⟨b,0,none⟩)] w (fW w (ki (aj T L) x)):=by
 have H:=aa h;have HX:=aa hx;have HC:=aa (fun w' (hb:Below w.heap.size w w')=>AM (h.later hb) (hx.later hb) hn);have HV:=aa (show ki (aj T L) x=(eX (aj T L) x >>= fun e=>aI (decide (e.kind=2)) x 251 >>= fun _=>aI (bH T e.type) x 252 >>= fun _=>.ok e.type)from rfl);generalize ki (aj T L) x=r at HV ⊢;clear h hx hn;dsimp only[qV,qC];dsimp only[qV,qC]at HC;go_enter Tryz.func214,Tryz.ntmps214;go_upto_region 1 with(fail);generalize az:w.alloc _=w1;obtain⟨ae,x1,aE⟩:=made az;have B1:=aa ae;have X1:=aa x1;have z1:=X1.out.cell;have l1:=X1.out.lt;clear az ae aE x1;cases hr:eX (aj T L) x with
 |error q=>
  obtain⟨p,c⟩:=q;have hv:=HV.out;simp only[hr,fV]at hv;have aq:=aa hv;rw[hr]at HC;clear hr HV hv;go_wp2_with fail;refine(HC.out _ B1.out).mono ?_;rintro e w3 ⟨ad,rfl⟩;exact bj aq.out (bb B1.out ad) rfl
 |ok en=>
  have hv:=HV.out;simp only[hr,dc]at hv;have aq:=aa hv;rw[hr]at HC;clear hr HV hv;go_wp2_with fail;refine(HC.out _ B1.out).mono ?_;rintro e w3 ⟨ad,rfl,hvw⟩;have B3:=ah B1 ad;have X1:=aa (X1.out.grow ad);clear ad;clear z1 l1 B1 hvw HC;dsimp only[eG];go_upto_region 2 with(fail);generalize ab:w3.alloc _=w4;obtain⟨aw,x4,iZ⟩:=made ab;have X4:=aa x4;have B4:=ah B3 aw;have X1:=aa (X1.out.grow aw);clear aw;have z4:=X4.out.cell;have l4:=X4.out.lt;have z1:=X1.out.cell;have l1:=X1.out.lt;have iP:=aa (HX.out.later B4.out);clear ab x4 iZ B3;by_cases h2:en.kind=2
  ·rw[h2]at z4;have hv:=aq.out;simp only[decide_eq_true h2,lA,dc]at hv;have ar:=aa hv;clear aq hv h2;go_wp2_with fail;refine(iI true iP.out 251).mono ?_;rintro e w5 ⟨rfl,rfl⟩;go_wp2_with fail;refine(mV (H.out.later B4.out).tab en.type).mono ?_;rintro e w5 ⟨rfl,au⟩;have B5:=ah B4 au;have X1:=aa (X1.out.grow au);have X4:=aa (X4.out.grow au);clear au;have z4:=X4.out.cell;have l4:=X4.out.lt;have pT:=aa (HX.out.later B5.out);clear B4 HX z1 l1 H iP;cases ho:bH T en.type
   ·have aA:=aa (show r=.error (x.pos,252)by have:=ar.out;simp only[ho]at this;exact this);clear ar ho;go_wp2_with fail;refine(iI false pT.out 252).mono ?_;rintro e w6 ⟨rfl,rfl⟩;exact bj aA.out B5.out rfl
   ·have aA:=aa (show r=.ok en.type by have:=ar.out;simp only[ho]at this;exact this);clear ar ho;go_wp2_with fail;refine(iI true pT.out 252).mono ?_;rintro e w6 ⟨rfl,rfl⟩;go_wp2_with fail;go_ret;rw[aA.out];exact⟨B5.out,rfl,trivial⟩
  ·have hv:=aq.out;simp only[decide_eq_false h2,Oh,fV]at hv;have ar:=aa hv;have d2:=beq_eq_false_iff_ne.2 h2;clear aq hv;go_wp2_with fail;refine(iI false iP.out 251).mono ?_;rintro e w5 ⟨rfl,rfl⟩;exact bj ar.out B4.out rfl
theorem uB{T:List Ty}{j:Jd}{i:Int}(h:Vw j.val):Vw (bG T j i).val:=by
 obtain⟨t,v,s⟩:=j;unfold bG;split
 ·split
  ·rename_i c _ _;exact c.toNat_lt
  ·exact h
 ·exact h
def YV:World→Jr (Option Int)→Ending→World→Prop:=sk (fun o=>∀n,o=some n→ -1000000≤n∧n≤1000000) (fun o=>.tuple #[.int .i64 (o.getD 0),.bool o.isSome])
theorem fu{v:aL}(h:Vw v):∀n,aR v=some n→ -1000000≤n∧n≤1000000:=by
 intro n hn;unfold aR at hn;split at hn
 ·split at hn
  ·cases hn;omega
  ·cases hn
 ·cases hn;rename_i c;have:c<256:=h;omega
 ·cases hn;split<;>omega
 ·cases hn;exact h
 ·cases hn;rename_i c;have:=c.toNat_lt;omega
 ·cases hn
set_option maxHeartbeats 2000000 in
theorem Gn{w:World}{pt pv:Nat}{T:List Ty}{L:List Lv}(h:bO w pt pv T L){b:Nat}{x:ao}(E:df pt pv T L x)(f:Nat)(hf:8*bq x≤f)(hx:bg w b x)(bt:Int):Calls Tryz.prog 103 #[qV pt pv,.pointer (some ⟨b,0,none⟩),.int .i64 bt] w (YV w (elemJ (aj T L) (f+1) x bt)):=by
 have H:=aa h;have HX:=aa hx;have HC:=aa (fun w' (hb:Below w.heap.size w w')=>E f hf w' b (h.later hb) (hx.later hb));have HV:=aa (show elemJ (aj T L) (f+1) x bt=(exprJ (aj T L) f x >>= fun j=>aI (decide ((bG T j bt).is≠3)&&bH T (bG T j bt).type&&ey T bt (bG T j bt).type) x 252 >>= fun _=>aI (eh T (bG T j bt).val bt) x 254 >>= fun _=>.ok (aR (bG T j bt).val))from elemJ.eq_2 (aj T L) x bt f);generalize elemJ (aj T L) (f+1) x bt=r at HV ⊢;clear h hx E hf;dsimp only[qV,qC];dsimp only[qV,qC]at HC;go_enter Tryz.func103,Tryz.ntmps103;go_upto_region 1 with(fail);generalize az:w.alloc _=w1;obtain⟨ae,x1,aE⟩:=made az;have B1:=aa ae;have X1:=aa x1;have z1:=X1.out.cell;have l1:=X1.out.lt;clear az ae aE x1;have hC:=HC.out;cases hr:exprJ (aj T L) f x with
 |error q=>
  obtain⟨p,c⟩:=q;have hv:=HV.out;simp only[hr,fV]at hv;have aq:=aa hv;rw[hr]at hC;have bJ:=aa hC;clear hr HV hv hC HC;refine bh [7] [⟨6,8,ei,29⟩] (by kernel_rfl) ?_;refine FQ (Below.refl _ _) [0,1,2,4] ?_;refine FC 3 (cr bN) (Below.refl _ _) (fun w4 ab=>(bJ.out _ (bb B1.out ab)).mono ?_);rintro e w3 ⟨ad,rfl⟩;exact bj (fn:=Tryz.f103) aq.out (bb (bb B1.out ab) ad) rfl
 |ok j=>
  have hv:=HV.out;simp only[hr,dc]at hv;have aq:=aa hv;rw[hr]at hC;have bJ:=aa hC;clear hr HV hv hC HC;refine bh [7] [⟨6,8,ei,29⟩] (by kernel_rfl) ?_;refine FQ (Below.refl _ _) [0,1,2,4] ?_;refine FC 3 (cr bN) (Below.refl _ _) (fun w4 ab=>(bJ.out _ (bb B1.out ab)).mono ?_);rintro e w3 ⟨ad,rfl,hvw⟩;refine⟨ad,?_⟩;have VW:=aa (uB (T:=T) (i:=bt) hvw);have B3:=aa (bb ab ad);clear ad ab hvw bJ;refine FC 5 (cr bN) B3.out (fun w4 ab=>(qL ((H.out.later B1.out).later (bb B3.out ab)) j bt).mono ?_);rintro e w5 ⟨rfl,au⟩;refine⟨au,?_⟩;have B5:=aa (bb B3.out (bb ab au));clear au ab B3;generalize bG T j bt=j2 at *;obtain⟨t,v,i⟩:=j2;dsimp only[bU];refine fU 7 (by kernel_rfl) bN (by kernel_rfl) B5.out rfl rfl rfl rfl (fun _=>rfl) (fun _=>rfl) info29 rfl (ig ⟨t,v,i⟩) (fun b6 w6 aD x6 aH _=>?_);refine FA ?_;have sX:=aa (show Vw v from VW.out);have J6:=aa (show Bx b6 #[.int .i64 t,aK v,.int .u8 i] 29 w6 from x6);have B6:=ah B1 aH;have X1:=aa (X1.out.grow aH);have z6:=J6.out.cell;have l6:=J6.out.lt;have z1:=X1.out.cell;have l1:=X1.out.lt;have dV:=aa (HX.out.later B6.out);have HN:=aa (fu sX.out);clear x6 aH aD B5 B1 VW;by_cases h3:i=3
  ·subst h3;have ar:=aa (show r=.error (x.pos,252)from aq.out);clear aq;go_wp2_with fail;refine(eg dV.out 252).mono ?_;rintro e wq ⟨rfl,rfl⟩;exact bj ar.out B6.out rfl
  have e3:(i != 3)=true:=bne_iff_ne.2 h3;have d3:decide (i≠3)=true:=decide_eq_true h3;have hv:=aq.out;simp only[d3,Bool.true_and]at hv;have ar:=aa hv;clear aq hv d3;go_wp2_with fail;refine(mV (H.out.later B6.out).tab t).mono ?_;rintro e w7 ⟨rfl,aC⟩;have B7:=ah B6 aC;have J6:=aa (J6.out.grow aC);have X1:=aa (X1.out.grow aC);clear aC;have z6:=J6.out.cell;have l6:=J6.out.lt;have z1:=X1.out.cell;have l1:=X1.out.lt;have iy:=aa (HX.out.later B7.out);clear B6 dV;cases ho:bH T t
  ·have aA:=aa (show r=.error (x.pos,252)by have:=ar.out;simp only[ho]at this;exact this);clear ar ho;exact Gp
  have hv:=ar.out;simp only[ho,Bool.true_and]at hv;have aA:=aa hv;clear ar hv ho;go_wp2_with fail;refine(wO (H.out.later B7.out).tab bt t).mono ?_;rintro e w8 ⟨rfl,aB⟩;have B8:=ah B7 aB;have J6:=aa (J6.out.grow aB);have X1:=aa (X1.out.grow aB);clear aB;have z6:=J6.out.cell;have l6:=J6.out.lt;have z1:=X1.out.cell;have l1:=X1.out.lt;have fY:=aa (HX.out.later B8.out);clear B7 iy;cases ho:ey T bt t
  ·have aM:=aa (show r=.error (x.pos,252)by have:=aA.out;simp only[ho]at this;exact this);exact Oj
  have hv:=aA.out;simp only[ho,lA,dc]at hv;have aM:=aa hv;clear aA hv ho;go_wp2_with fail;refine(da fY.out 252).mono ?_;rintro e wq ⟨rfl,rfl⟩;go_wp2_with fail;refine(uz (H.out.later B8.out) ⟨t,v,i⟩ sX.out bt).mono ?_;rintro e w9 ⟨rfl,br⟩;have B9:=ah B8 br;have J6:=aa (J6.out.grow br);have X1:=aa (X1.out.grow br);clear br;have z6:=J6.out.cell;have l6:=J6.out.lt;have z1:=X1.out.cell;have l1:=X1.out.lt;have gH:=aa (HX.out.later B9.out);clear B8 fY;dsimp only;cases ho:eh T v bt
  ·have bf:=aa (show r=.error (x.pos,254)by have:=aM.out;simp only[ho]at this;exact this);clear aM ho;go_wp2_with fail;refine(eg gH.out 254).mono ?_;rintro e wq ⟨rfl,rfl⟩;exact bj bf.out B9.out rfl
  have hv:=aM.out;simp only[ho,lA,dc]at hv;have bf:=aa hv;clear aM hv ho;go_wp2_with fail;refine(da gH.out 254).mono ?_;rintro e wq ⟨rfl,rfl⟩;go_wp2_with fail;refine(eH v sX.out _).mono ?_;rintro e w10 ⟨rfl,cN⟩;go_wp2_with fail;go_ret2;rw[bf.out];exact⟨bb B9.out cN,rfl,HN.out⟩
end Go.Proofs.YtlpombjidhloiaaGreat
