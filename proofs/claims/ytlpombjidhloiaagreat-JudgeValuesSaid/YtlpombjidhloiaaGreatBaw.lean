/- konst. The judge's closures on numbers, characters, strings. Condition: what each theorem says. -/
import Derived.Test.YtlpombjidhloiaaGreatQjs
namespace Go.Proofs.YtlpombjidhloiaaGreat
open Go.RowKit
def uH(r:aL×Int):Prop:=r.2=0→Vw r.1
theorem pF(e:Int):uH (.none,e):=fun _=>trivial
theorem uI(q:Bool)(e:Int):uH (.truth q,e):=fun _=>trivial
theorem wU(n:Int):uH (eQ n):=by
 unfold eQ;split
 ·rename_i h;exact fun _=>h
 ·exact pF _
theorem aal{op:Op}{n m:Int}{r:aL×Int}(h:fB op n m=some r):uH r:=by
 unfold fB at h;split at h
 ·cases h;exact wU _
 split at h
 ·cases h;exact wU _
 split at h
 ·cases h;exact wU _
 split at h
 ·cases h;split
  ·exact pF _
  ·exact wU _
 split at h
 ·cases h;split
  ·exact pF _
  ·exact wU _
 ·cases h
theorem aam{op:Op}{x y:Nat}(hx:x<65536)(hy:y<65536):uH ((eY op x y).getD .none,0):=by
 have h1:x ||| y<2^ 16:=Nat.or_lt_two_pow hx hy;have h2:x ^^^ y<2^ 16:=Nat.xor_lt_two_pow hx hy;have h3:x &&& y<65536:=Nat.lt_of_le_of_lt Nat.and_le_left hx;have h4:x &&& (65535-y)<65536:=Nat.lt_of_le_of_lt Nat.and_le_left hx;unfold eY;split
 ·exact fun _=>h1
 split
 ·exact fun _=>h4
 split
 ·exact fun _=>h3
 split
 ·exact fun _=>h2
 split
 ·exact uI _ _
 split
 ·exact uI _ _
 split
 ·exact uI _ _
 exact BF
theorem aan(op:List UInt8)(a b:aL)(ha:Vw a)(hb:Vw b):uH (bC op a b):=by
 have va:=fC ha;have vb:=fC hb;unfold bC;split
 ·exact pF _
 split
 ·exact pF _
 split
 ·exact BF
 dsimp only;generalize aT a=A at *;generalize aT b=B at *;split
 ·split
  ·exact aam va vb
  ·exact pF _
 ·split
  ·exact pF _
  split
  ·exact uI _ _
  split
  ·split
   ·exact aal (by assumption)
   ·split
    ·split
     ·exact uI _ _
     ·exact BF
    ·exact BF
  ·exact pF _
theorem aao:uC:=fun op a b ha hb=>⟨aan op a b ha hb,fun w=>aak op a b ha hb w⟩
end Go.Proofs.YtlpombjidhloiaaGreat
namespace Go.Proofs.YtlpombjidhloiaaGreat
open Go.RowKit
set_option maxRecDepth 100000
attribute [local go_sem ↓] Go.wp_at_zero Go.wp_at_succ
theorem Zu{w:World}{b:Nat}{x:ao}(hx:bg w b x):Calls Tryz.prog 60 #[.pointer (some ⟨b,0,none⟩)] w (Pv w (bU ⟨5,.whole x.n,0⟩)):=by
 obtain⟨A,c,k0,k1,k2,k3,k4,_⟩:=hx.cells;have lb:=aQ k0;clear hx;go_enter Tryz.func60,Tryz.ntmps60;go_wp2_with fail;exact AE rfl ⟨5,.whole x.n,0⟩ (heap_alloc_new _ _) rfl rfl ⟨rfl,cB _ _⟩
theorem Zv{w:World}{b:Nat}{x:ao}(hx:bg w b x):Calls Tryz.prog 61 #[.pointer (some ⟨b,0,none⟩)] w (Pv w (bU ⟨4,.letter (x.n% 256),0⟩)):=by
 obtain⟨A,c,k0,k1,k2,k3,k4,_⟩:=hx.cells;have lb:=aQ k0;clear hx;go_enter Tryz.func61,Tryz.ntmps61;go_wp2_with fail;exact AE rfl ⟨4,.letter (x.n% 256),0⟩ (heap_alloc_new _ _) rfl rfl ⟨rfl,cB _ _⟩
theorem Zw{w:World}{b:Nat}{x:ao}(hx:bg w b x):Calls Tryz.prog 62 #[.pointer (some ⟨b,0,none⟩)] w (Pv w (bU ⟨6,.str x.name,0⟩)):=by
 obtain⟨A,c,k0,k1,k2,k3,k4,_⟩:=hx.cells;have lb:=aQ k0;clear hx;go_enter Tryz.func62,Tryz.ntmps62;go_wp2_with fail;exact AE rfl ⟨6,.str x.name,0⟩ (heap_alloc_new _ _) rfl rfl ⟨rfl,cB _ _⟩
def Oy:World→Jr Unit→Ending→World→Prop:=sk (fun _=>True) (fun _=>.tuple #[])
set_option maxHeartbeats 4000000 in
theorem Za{w:World}{pt pv:Nat}{T:List Ty}{L:List Lv}(h:bO w pt pv T L){b:Nat}{x:ao}(hx:bg w b x)(E:df pt pv T L x)(f:Nat)(hf:8*bq x≤f)(q:Bool)(ptt:Int):Calls Tryz.prog 145 #[qV pt pv,.pointer (some ⟨b,0,none⟩),.agg #[.bool q,.int .i64 ptt]] w (Oy w (exprJ (aj T L) f x >>= fun j=>aI (!q||decide (j.is=1)) x 256 >>= fun _=>aI (qN T (q,ptt) (bG T j ptt).type (bG T j ptt).val) x 252 >>= fun _=>aI (decide ((bG T j ptt).is≠3)||eN (aj T L) x) x 252)):=by
 have H:=aa h;have HX:=aa hx;have HC:=aa (fun w' (hb:Below w.heap.size w w')=>E f hf w' b (h.later hb) (hx.later hb));generalize cT:(exprJ (aj T L) f x >>= fun j=>aI (!q||decide (j.is=1)) x 256 >>= fun _=>aI (qN T (q,ptt) (bG T j ptt).type (bG T j ptt).val) x 252 >>= fun _=>aI (decide ((bG T j ptt).is≠3)||eN (aj T L) x) x 252)=r;have HV:=aa cT.symm;clear h hx E hf cT;dsimp only[qV,qC];dsimp only[qV,qC]at HC;go_enter Tryz.func145,Tryz.ntmps145;go_upto_region 1 with(fail);generalize az:w.alloc _=w1;obtain⟨ae,x1,aE⟩:=made az;generalize aU:w1.alloc _=w2;obtain⟨af,x2,bu⟩:=made aU;rw[aE]at x2;have B2:=aa (bb ae af);have X1:=aa (x1.grow af);have P2:=aa x2;have z1:=X1.out.cell;have l1:=X1.out.lt;clear az ae aE x1 aU af bu x2;have hC:=HC.out;cases hr:exprJ (aj T L) f x with
 |error q=>
  obtain⟨p,c⟩:=q;have hv:=HV.out;simp only[hr,fV]at hv;have aq:=aa hv;rw[hr]at hC;have bJ:=aa hC;clear hr HV hv HC hC;go_wp2_with fail;refine(bJ.out _ B2.out).mono ?_;exact wN
 |ok j=>
  have hv:=HV.out;simp only[hr,dc]at hv;have aq:=aa hv;rw[hr]at hC;have bJ:=aa hC;clear hr HV hv HC hC;have HL:=aa (fun w (h:bO w pt pv T L)=>qL h j ptt);obtain⟨t,v,i⟩:=j;go_wp2_with fail;refine(bJ.out _ B2.out).mono ?_;rintro e w3 ⟨ad,rfl,hvw⟩;have VW:=aa (uB (T:=T) (i:=ptt) hvw);have B3:=ah B2 ad;have X1:=aa (X1.out.grow ad);have P2:=aa (P2.out.grow ad);clear ad;have NP:=aa P2.out.lt;clear hvw bJ;dsimp only[bU]at HL;dsimp only[bU];go_upto_region 2 with(fail);generalize ab:w3.alloc _=w4;obtain⟨aw,x4,iZ⟩:=made ab;have J4:=aa x4;have B4:=ah B3 aw;have X1:=aa (X1.out.grow aw);have P2:=aa (P2.out.grow aw);clear aw;have z2:=P2.out.cell;have l2:=P2.out.lt;have z1:=X1.out.cell;have l1:=X1.out.lt;have z4:=J4.out.cell;have f4:=J4.out.frozen;have l4:=J4.out.lt;have iP:=aa (HX.out.later B4.out);clear ab x4 iZ B3;generalize vr:bG T ⟨t,v,i⟩ ptt=j2 at *;go_cut [17] (fun _ w'=>(!q||decide (i=1))=true∧w'=w4);case first=>
   cases q;case false=>
    go_wp2_with fail;refine(da iP.out 256).mono ?_;rintro e wq ⟨rfl,rfl⟩;exact py
   by_cases h1:i=1
   ·subst h1;go_wp2_with fail;refine(da iP.out 256).mono ?_;rintro e wq ⟨rfl,rfl⟩;exact py
   ·have ar:=aa (show r=.error (x.pos,256)by have:=aq.out;rw[decide_eq_false h1]at this;exact this);have d1:=beq_eq_false_iff_ne.2 h1;clear aq;go_wp2_with fail;refine(eg iP.out 256).mono ?_;rintro e wq ⟨rfl,rfl⟩;exact bj ar.out B4.out rfl
  case rest=>
  obtain⟨hcond,rfl⟩:=hcut;have hv:=aq.out;rw[hcond]at hv;have ar:=aa ((show _=_ from hv).trans (dc () _));clear aq hv hcond;obtain⟨t2,v2,i2⟩:=j2;go_wp2_with fail;refine(HL.out _ (H.out.later B4.out)).mono ?_;rintro e w5 ⟨rfl,au⟩;have B5:=ah B4 au;have X1:=aa (X1.out.grow au);have P2:=aa (P2.out.grow au);have J4:=aa (J4.out.grow au);clear au;have z2:=P2.out.cell;have l2:=P2.out.lt;have z1:=X1.out.cell;have l1:=X1.out.lt;have z4:=J4.out.cell;have f4:=J4.out.frozen;have l4:=J4.out.lt;clear HL iP;dsimp only[bU];go_upto_region 4 with(fail);have hj:=pw J4.out ⟨t2,v2,i2⟩;have aD:Below w.heap.size w _:=mS (v0:=.int .i64 t2) (v1:=aK v2) (v2:=.int .u8 i2) (k:=w3.heap.size) B5.out (by have:=NP.out;omega);have JS:∀k,k≠w3.heap.size→((((w5.setCell ⟨w3.heap.size,0,none⟩ (.int .i64 t2)).setCell ⟨w3.heap.size,1,none⟩ (aK v2)).setCell ⟨w3.heap.size,2,none⟩ (.int .u8 i2))).heap[k]? =w5.heap[k]? :=fun k hk=>(Below.heap_setCell _ _ _ k hk).trans ((Below.heap_setCell _ _ _ k hk).trans (Below.heap_setCell _ _ _ k hk))
  dsimp only[kJ]at hj;generalize((w5.setCell _ _).setCell _ _).setCell _ _=w6 at *;have X1:=aa (show Bx w.heap.size _ _ w6 from(JS _ (by have:=NP.out;omega)).trans X1.out);have P2:=aa (show Bx (w.heap.size+1) _ _ w6 from(JS _ (by have:=NP.out;omega)).trans P2.out);have J4:=aa hj;have B6:=aa aD;have dV:=aa (HX.out.later aD);have z2:=P2.out.cell;have l2:=P2.out.lt;have z1:=X1.out.cell;have l1:=X1.out.lt;have z4:=J4.out.cell;have l4:=J4.out.lt;clear hj aD JS B5 f4;go_wp2_with fail;refine(Zb (H.out.later B6.out).tab (Gs H.out.tab.ok) q ptt t2 v2 VW.out).mono ?_;rintro e w7 ⟨rfl,aC⟩;have iy:=aa (dV.out.later aC);have B7:=ah B6 aC;have X1:=aa (X1.out.grow aC);have J4:=aa (J4.out.grow aC);clear aC;have z1:=X1.out.cell;have l1:=X1.out.lt;have z4:=J4.out.cell;have l4:=J4.out.lt;clear dV;cases hp:qN T (q,ptt) t2 v2
  ·have aA:=aa (show r=.error (x.pos,252)by have:=ar.out;simp only[hp]at this;exact this);clear ar hp;exact Gp
  have hv:=ar.out;simp only[hp,lA,dc]at hv;have aA:=aa hv;clear ar hv hp;go_wp2_with fail;refine(da iy.out 252).mono ?_;rintro e wq ⟨rfl,rfl⟩;by_cases h3:i2=3
  ·subst h3;go_wp2_with fail;refine(Gk (H.out.later B7.out) iy.out).mono ?_;rintro e w8 ⟨rfl,aB⟩;have fY:=aa (iy.out.later aB);have B8:=ah B7 aB;have X1:=aa (X1.out.grow aB);clear aB;clear iy;cases ho:eN (aj T L) x
   ·have aM:=aa (show r=.error (x.pos,252)by have:=aA.out;rw[ho]at this;exact this);exact Oj
   ·have aM:=aa (show r=.ok ()by have:=aA.out;rw[ho]at this;exact this);clear aA ho;go_wp2_with fail;refine(da fY.out 252).mono ?_;rintro e wq ⟨rfl,rfl⟩;go_wp2_with fail;rw[aM.out];exact sm rfl rfl ⟨B8.out,rfl,trivial⟩
  ·have aM:=aa (show r=.ok ()by have:=aA.out;rw[decide_eq_true h3]at this;exact this);have e3:(i2 != 3)=true:=bne_iff_ne.2 h3;clear aA;go_wp2_with fail;refine(da iy.out 252).mono ?_;rintro e wq ⟨rfl,rfl⟩;go_wp2_with fail;rw[aM.out];exact sm rfl rfl ⟨B7.out,rfl,trivial⟩
set_option maxHeartbeats 4000000 in
theorem OE{w:World}{pt pv:Nat}{T:List Ty}{L:List Lv}(h:bO w pt pv T L){b:Nat}{x:ao}(hx:bg w b x)(hn:x.kind=2→0<x.kids.length)(E:df pt pv T L x)(f:Nat)(hf:8*bq x≤f):Calls Tryz.prog 116 #[qV pt pv,.pointer (some ⟨b,0,none⟩)] w (fW w (sizedJ (aj T L) (f+1) x)):=by
 have H:=aa h;have HX:=aa hx;have HN:=aa hn;have HC:=aa (fun w' (hb:Below w.heap.size w w')=>E f hf w' b (h.later hb) (hx.later hb));have HM:=aa (fun w' (hb:Below w.heap.size w w')=>AM (h.later hb) (hx.later hb) hn);have HU:=aa (fun w' (hb:Below w.heap.size w w')=>AH (h.later hb) (hx.later hb) hn);have HV:=aa (show sizedJ (aj T L) (f+1) x=(if x.kind=1∨jn (aj T L) x then(match eX (aj T L) x with|.error e=>.error e|.ok e=>if e.kind=2 then .ok e.type else(exprJ (aj T L) f x >>= fun j=>aI (gj j) x 252 >>= fun _=>.ok j.type))else(exprJ (aj T L) f x >>= fun j=>aI (gj j) x 252 >>= fun _=>.ok j.type))from sizedJ.eq_2 (aj T L) x f);generalize sizedJ (aj T L) (f+1) x=r at HV ⊢;generalize exprJ (aj T L) f x=re at HV HC;generalize eX (aj T L) x=rn at HV HM;generalize jn (aj T L) x=ru at HV HU;clear h hx E hf hn;dsimp only[qV,qC];dsimp only[qV,qC]at HC HM HU;go_enter Tryz.func116,Tryz.ntmps116;go_upto_region 1 with(fail);generalize az:w.alloc _=w1;obtain⟨ae,x1,aE⟩:=made az;have B1:=aa ae;have X1:=aa x1;have z1:=X1.out.cell;have l1:=X1.out.lt;clear az ae aE x1;obtain⟨Ax,cx,k0x,k1x,k2x,k3x,k4x,hkidx⟩:=(HX.out.later B1.out).cells;have lbx:=aQ k0x;have KIDx:=aa hkidx;clear hkidx;generalize hcc:(decide (x.kind=1)||ru)=cc at *;have HCC:=aa hcc;clear hcc;go_cut [16] (fun u w'=>u=.bool cc∧Below w1.heap.size w1 w');case first=>
  by_cases h1:x.kind=1
  ·rw[h1]at k0x;go_wp2_with fail;go_meet;exact⟨by rw[←HCC.out,decide_eq_true h1];rfl,Below.refl _ _⟩
  ·have d1:=beq_eq_false_iff_ne.2 h1;go_wp2_with fail;refine(HU.out _ B1.out).mono ?_;rintro e w2 ⟨rfl,af⟩;go_wp2_with fail;go_meet;exact⟨by rw[←HCC.out,decide_eq_false h1];rfl,af⟩
 case rest=>
 obtain⟨rfl,af⟩:=hcut;have B2:=ah B1 af;have X1:=aa (X1.out.grow af);clear af;have z1:=X1.out.cell;have l1:=X1.out.lt;clear HU;have aq:=aa (show r=if cc then(match(generalizing:=false) rn with|.error e=>.error e|.ok e=>if e.kind=2 then .ok e.type else(re >>= fun j=>aI (gj j) x 252 >>= fun _=>.ok j.type))else(re >>= fun j=>aI (gj j) x 252 >>= fun _=>.ok j.type)by
  refine HV.out.trans ?_;have hc:=HCC.out;by_cases h1:x.kind=1
  ·rw[decide_eq_true h1,Bool.true_or]at hc;subst hc;rw[if_pos (.inl h1),if_pos rfl]
  ·rw[decide_eq_false h1,Bool.false_or]at hc;subst hc;by_cases h2:ru=true
   ·rw[if_pos (.inr h2),if_pos h2]
   ·rw[if_neg (by rintro(h|h)<;>contradiction),if_neg h2])
 clear HV HCC;generalize VI:(re >>= fun j=>aI (gj j) x 252 >>= fun _=>.ok j.type)=rr at *;have HRR:=aa VI;clear VI;go_upto_if 16 with(fail)
 go_cut [] (fun w'=>r=rr∧Below wc.heap.size wc w');case first=>
  cases cc;case false=>
   go_wp2_with fail;go_meet;exact⟨aq.out,Below.refl _ _⟩
  cases rn with
  |error q=>
   obtain⟨p,c⟩:=q;have ar:=aa (show r=.error (p,c)from aq.out);clear aq;go_wp2_with fail;refine(HM.out _ B2.out).mono ?_;exact Oo
  |ok en=>
   have ar:=aa (show r=if en.kind=2 then .ok en.type else rr from aq.out);clear aq;go_wp2_with fail;refine(HM.out _ B2.out).mono ?_;rintro e w3 ⟨ad,rfl,hvw⟩;have C3:=aa ad;have B3:=ah B2 ad;have X1:=aa (X1.out.grow ad);clear ad;dsimp only[eG];go_upto_region 3 with(fail);generalize ab:w3.alloc _=w4;obtain⟨aw,x4,iZ⟩:=made ab;have X4:=aa x4;have C4:=ah C3 aw;have B4:=ah B3 aw;have X1:=aa (X1.out.grow aw);clear aw;have z4:=X4.out.cell;have l4:=X4.out.lt;clear ab x4 iZ hvw;by_cases h2:en.kind=2
   ·rw[h2]at z4;have aA:=aa (ar.out.trans (if_pos h2));clear ar;go_wp2_with fail;go_ret;rw[aA.out];exact⟨B4.out,rfl,trivial⟩
   ·have d2:=beq_eq_false_iff_ne.2 h2;go_wp2_with fail;go_meet;exact⟨ar.out.trans (if_neg h2),C4.out⟩
 case rest=>
 obtain⟨rfl,aw⟩:=hcut;have B4:=ah B2 aw;have X1:=aa (X1.out.grow aw);clear aw;have z1:=X1.out.cell;have l1:=X1.out.lt;clear aq HM;have hC:=HC.out;cases re with
 |error q=>
  obtain⟨p,c⟩:=q;have ar:=aa (show r=.error (p,c)from HRR.out.symm);clear HRR;go_wp2_with fail;refine(HC.out _ B4.out).mono ?_;rintro e w5 ⟨au,rfl⟩;exact bj ar.out (bb B4.out au) rfl
 |ok j=>
  have ar:=aa (show r=(aI (gj j) x 252 >>= fun _=>.ok j.type)from HRR.out.symm);have HP:=aa (fun w=>AF j w);generalize gj j=pl at *;obtain⟨t,v,i⟩:=j;clear HRR;dsimp only[bU]at HP;go_wp2_with fail;refine(HC.out _ B4.out).mono ?_;rintro e w5 ⟨au,rfl,hvw⟩;have B5:=ah B4 au;have X1:=aa (X1.out.grow au);clear au;dsimp only[bU];go_upto_region 6 with(fail);generalize aH:w5.alloc _=w6;obtain⟨aD,x6,pV⟩:=made aH;have J6:=aa x6;have B6:=ah B5 aD;have X1:=aa (X1.out.grow aD);clear aD;have z6:=J6.out.cell;have l6:=J6.out.lt;clear aH x6 pV hvw;go_wp2_with fail;refine(HP.out _).mono ?_;rintro e w7 ⟨rfl,aC⟩;have B7:=ah B6 aC;have J6:=aa (J6.out.grow aC);clear aC;have z6:=J6.out.cell;have l6:=J6.out.lt;have iy:=aa (HX.out.later B7.out);cases pl
  ·have aA:=aa (show r=.error (x.pos,252)from ar.out);clear ar;exact Gp
  ·have aA:=aa (show r=.ok t from ar.out);clear ar;go_wp2_with fail;refine(da iy.out 252).mono ?_;rintro e wq ⟨rfl,rfl⟩;go_wp2_with fail;go_ret;rw[aA.out];exact⟨B7.out,rfl,trivial⟩
def sw(w:World)(A:Option Addr)(c:Nat)(l:List ao):Prop:=∀(i:Nat) (y:ao),l[i]? =some y→∃g o x,A=some ⟨g,o,none⟩∧l.length≤c∧w.cell? ⟨g,o+i,none⟩=some (.pointer (some ⟨x,0,none⟩))∧bg w x y
theorem sw.later{w w':World}{A:Option Addr}{c:Nat}{l:List ao}(h:sw w A c l)(hb:Below w.heap.size w w'):sw w' A c l:=fun i y hi=>by
 obtain⟨g,o,x,h1,h2,h3,h4⟩:=h i y hi;exact⟨g,o,x,h1,h2,bo h3 hb,h4.later hb⟩
theorem Zp{ops:Array Oper}{Q:Exit→Act→World→Prop}{w0 w:World}{late:List Nat}{m:Al}{listed:Array Bool}{a:Act}(k:Nat){o:Oper}{x y:Operand}{cs':Array Value}(hf:eE ops late [m]=true)(hal:fN Tryz.prog ops m)(hB:qz ops late [m] listed k=true)(hw:Below w0.heap.size w0 w)
 (ho:ops[k]? =some o) (hg:o.guard=none) (hop:o.op=.store m.ty x y) (hd:o.dst=none) (hx:∀p,(a.put (some m.slot) p).eval x=p) (hy:∀p,(a.put (some m.slot) p).eval y=.agg cs') (hi:(Tryz.prog.info? m.ty).map (·.size)=some cs'.size) (hs:m.cells.size=cs'.size) (h1:cs'.all (·.oneCell')=true)
 (h:∀b w6,w0.heap.size≤b→Bx b cs' m.ty w6→Below w0.heap.size w0 w6→(∀k i v,k≠b→w.cell? ⟨k,i,none⟩=some v→w6.cell? ⟨k,i,none⟩=some v)→(∀i v,w.cell? ⟨b,i,none⟩=some v→m.cells[i]? =some v)→w.heap.size≤w6.heap.size→wpList Tryz.prog ops Q (ops.toList.drop (k+1)) (a.put (some m.slot) (.pointer (some ⟨b,0,none⟩))) w6):cZ Tryz.prog ops Q w0 late [m] w listed a:=
 Mz k hf hal hB hw fun wr hwr b hb hbl=>by
  obtain⟨w6,st,hbx,aD,hsz,hot⟩:=AY (cs':=cs') hb (hw.trans (hwr.mono hw.size)) hbl hi hs h1;have hk:ops.toList.drop k=o::ops.toList.drop (k+1):=by
   exact OU
  rw[hk];refine wpList_plain hg fun K hK=>?_
  unfold Oper.wp execOp;simp only[hop,hx,hy,Sem.run_bind,st,Result.andThen_ok,Sem.run_pure];show K ((a.put (some m.slot) (.pointer (some ⟨b,0,none⟩))).put o.dst undef) w6;rw[hd];refine hK _ _ (h b w6 hb hbx aD (fun k i v hkb hc=>?_) (fun i v hc=>?_) (by rw[hsz];exact hwr.size))
  ·rw[←bo hc hwr];unfold World.cell?;rw[hot k hkb]
  ·have h2:=bo hc hwr;have h3:Bx b m.cells m.ty wr:=hbl;rw[h3.cell]at h2;exact h2
theorem Zq{w w':World}{b:Nat}{A:Option Addr}{c:Nat}{ps:List (Bool×Int)}(h:Rw w (.slice A ps.length c) ps.length (kg ps))(hk:∀k i v,k≠b→w.cell? ⟨k,i,none⟩=some v→w'.cell? ⟨k,i,none⟩=some v)(hz:∀i v,w.cell? ⟨b,i,none⟩=some v→zTy[i]? =some v)(hs:w.heap.size≤w'.heap.size):Rw w' (.slice A ps.length c) ps.length (kg ps):=by
 refine h.imp id ?_;rintro⟨g,o,c',h1,h0,h2,h3⟩;refine⟨g,o,c',h1,h0,Nat.lt_of_lt_of_le h2 hs,fun j u hj=>?_⟩;have hne:g≠b:=by
  rintro rfl;cases ps with
  |nil=>cases hj
  |cons p ps=>
   have:=hz _ _ (h3 0 (.bool p.1) rfl);rw[Nat.add_zero]at this;obtain⟨hlt,he⟩:=Array.getElem?_eq_some_iff.1 this;have hm:Value.bool p.1∈zTy.toList:=by rw[←he];simp
   simp[zTy]at hm
 exact hk _ _ _ hne (h3 j u hj)
def Zr(pt pv:Nat)(T:List Ty)(L:List Lv)(x:ao)(l:List ao)(f:Nat):Prop:=∀(w:World) (b:Nat) (A:Option Addr) (c:Nat),bO w pt pv T L→bg w b x→sw w A c l→0<cG (aj T L) x→Calls Tryz.prog 144 #[qV pt pv,.pointer (some ⟨b,0,none⟩),.int .i64 (cG (aj T L) x),.slice A l.length c,.bool false] w (fW w (stdCallJ (aj T L) f x (cG (aj T L) x) l false))
def wP(V:ea)(f:Nat)(y:ao)(q:Bool)(pt:Int):Jr Unit:=exprJ V f y >>= fun j=>aI (!q||decide (j.is=1)) y 256 >>= fun _=>aI (qN V.T (q,pt) (bG V.T j pt).type (bG V.T j pt).val) y 252 >>= fun _=>aI (decide ((bG V.T j pt).is≠3)||eN V y) y 252
theorem Zs(V:ea)(f:Nat)(y:ao)(l:List ao)(p:Bool×Int)(ps:List (Bool×Int)):gD V (f+1) (y::l) (p::ps)=(wP V f y p.1 p.2 >>= fun _=>gD V f l ps):=by
 obtain⟨q,pt⟩:=p;unfold wP;rw[gD];simp only[bind_assoc]
@[go_sem] theorem ahG(a0 a1 a2:Value)(w:World):(Instr.field 29 (.agg #[a0,a1,a2]) 0).run Tryz.prog w=.ok a0 w:=by kernel_rfl
set_option maxHeartbeats 8000000 in
theorem Zt{w:World}{pt pv:Nat}{T:List Ty}{L:List Lv}(h:bO w pt pv T L){b:Nat}{x:ao}(hx:bg w b x)(hn:x.kind=2→0<x.kids.length){A:Option Addr}{c:Nat}{l:List ao}(hl:sw w A c l)(hlen:l.length≤1000000)(f:Nat)(E:df pt pv T L x)(hf:8*bq x≤f)(El:∀(i:Nat) (y:ao),l[i]? =some y→df pt pv T L y∧8*bq y+1+i≤f)(SD:Zr pt pv T L x l f):Calls Tryz.prog 112 #[qV pt pv,.pointer (some ⟨b,0,none⟩),.slice A l.length c,.bool false] w (fW w (callJ (aj T L) (f+1) x l false)):=by
 have H:=aa h;have HX:=aa hx;have HL:=aa hl;have HLN:=aa hlen;have HEL:=aa El;have Ka:=aa (show 1≤f by have:=lu x;omega);have HC:=aa (fun w' (hb:Below w.heap.size w w')=>E f hf w' b (h.later hb) (hx.later hb));have HS:=aa (fun w' (hb:Below w.heap.size w w')=>Ob (h.later hb) (hx.later hb) hn);have HSD:=aa (fun w' (hb:Below w.heap.size w w')=>SD w' b A c (h.later hb) (hx.later hb) (hl.later hb));have HV:=aa (show callJ (aj T L) (f+1) x l false=(if 0<cG (aj T L) x then stdCallJ (aj T L) f x (cG (aj T L) x) l false else(exprJ (aj T L) f x >>= fun j=>aI (decide ((aF T j.type).kind=16)) x 252 >>= fun _=>aI (decide (l.length=(aF T j.type).params.length)) x 255 >>= fun _=>aI (decide (decide ((aF T j.type).result=0)=false)) x 251 >>= fun _=>gD (aj T L) f l (aF T j.type).params >>= fun _=>.ok (aF T j.type).result))from callJ.eq_2 (aj T L) x l false f);generalize callJ (aj T L) (f+1) x l false=r at HV ⊢;generalize hsd:stdCallJ (aj T L) f x (cG (aj T L) x) l false=rs at HV HSD;clear hsd;generalize cG (aj T L) x=sd at HV HSD HS;clear h hx E hf hn hl hlen El SD;dsimp only[qV,qC];dsimp only[qV,qC]at HC HS HSD;go_enter Tryz.func112,Tryz.ntmps112;go_upto_region 1 with(fail);generalize az:w.alloc _=w1;obtain⟨ae,x1,aE⟩:=made az;have B1:=aa ae;have X1:=aa x1;have z1:=X1.out.cell;have l1:=X1.out.lt;clear az ae aE x1;go_wp2_with fail;refine(HS.out _ B1.out).mono ?_;rintro e w2 ⟨rfl,af⟩;have B2:=ah B1 af;have X1:=aa (X1.out.grow af);clear af;have z1:=X1.out.cell;have l1:=X1.out.lt;clear HS;by_cases hs:0<sd
 ·have aq:=aa (HV.out.trans (if_pos hs));have hsd:=HSD.out;have VL:=aa (fun w' hb=>hsd w' hb hs);clear hsd HSD HV;cases rs with
  |error q=>
   obtain⟨p,cc⟩:=q;go_wp2_with fail;refine(VL.out _ B2.out).mono ?_;exact wN
  |ok n=>
   go_wp2_with fail;refine(VL.out _ B2.out).mono ?_;rintro e w3 ⟨ad,rfl,_⟩;go_wp2_with fail;go_ret;rw[aq.out];exact⟨bb B2.out ad,rfl,trivial⟩
 have aq:=aa (HV.out.trans (if_neg hs));clear HV HSD;have hC:=HC.out;cases hr:exprJ (aj T L) f x with
 |error q=>
  obtain⟨p,cc⟩:=q;have hv:=aq.out;simp only[hr,fV]at hv;have ar:=aa hv;rw[hr]at hC;have bJ:=aa hC;clear hr aq hv hC HC;go_upto_region 4 with(fail);refine bh [8] [⟨7,10,zTy,47⟩] (by kernel_rfl) ?_;refine FQ (Below.refl _ _) [0,1,2,3] ?_;refine FC 4 (cr mW) (Below.refl _ _) (fun w4 ab=>(bJ.out _ (bb B2.out ab)).mono ?_);rintro e w3 ⟨ad,rfl⟩;exact bj (fn:=Tryz.f112) ar.out (bb (bb B2.out ab) ad) rfl
 |ok j=>
 have hv:=aq.out;simp only[hr,dc]at hv;rw[hr]at hC;have bJ:=aa hC;clear hr hC HC aq;obtain⟨jt,jv,ji⟩:=j;have HG:=aa (fun w (h:cF w pt T)=>nO h jt);have HPF:=aa (OV H.out.tab.ok jt);dsimp only at hv;generalize aF T jt=tt at *;have ar:=aa hv;clear hv;go_upto_region 4 with(fail);refine bh [8] [⟨7,10,zTy,47⟩] (by kernel_rfl) ?_;refine FQ (Below.refl _ _) [0,1,2,3] ?_;refine FC 4 (cr mW) (Below.refl _ _) (fun w4 ab=>(bJ.out _ (bb B2.out ab)).mono ?_);rintro e w3 ⟨ad,rfl,_⟩;refine⟨ad,?_⟩;have C3:=aa (bb ab ad);clear ad ab bJ;dsimp only[bU];refine FS (cr mW) C3.out [5] ?_;refine FC 6 (cr mW) C3.out (fun w4 ab=>(HG.out _ (H.out.later (bb B2.out (bb C3.out ab))).tab).mono ?_);rintro e w5 ⟨⟨A1,c1,A2,c2,A3,c3,A4,c4⟩,rfl,hown,au⟩;refine⟨au,?_⟩;have C5:=aa (bb C3.out (bb ab au));have TP:=aa hown.tyIn.params;clear au ab hown HG;dsimp only[bX];refine Zp 8 (by kernel_rfl) mW (by kernel_rfl) C5.out rfl rfl rfl rfl (fun _=>rfl) (fun _=>rfl) info47 rfl (Gt tt ⟨A1,c1,A2,c2,A3,c3,A4,c4⟩) (fun b6 w6 aD x6 aH hkeep hzero VM=>?_);refine FA ?_;have TP6:=aa (Zq TP.out hkeep hzero VM);have T6:=aa (show Bx b6 (bX tt ⟨A1,c1,A2,c2,A3,c3,A4,c4⟩) 47 w6 from x6);have B6:=ah B2 aH;have X1:=aa (X1.out.grow aH);clear aH;have dV:=aa (HX.out.later B6.out);have z6:=T6.out.cell;have l6:=T6.out.lt;have z1:=X1.out.cell;have l1:=X1.out.lt;dsimp only[bX]at z6;clear x6 hkeep hzero VM aD C5 TP;by_cases h16:tt.kind=16;case neg=>
  have aA:=aa (show r=.error (x.pos,252)by have:=ar.out;rw[decide_eq_false h16]at this;exact this);have d16:=beq_eq_false_iff_ne.2 h16;clear ar;go_wp2_with fail;refine(eg dV.out 252).mono ?_;rintro e wq ⟨rfl,rfl⟩;exact bj aA.out B6.out rfl
 have aA:=aa (show r=(aI (decide (l.length=tt.params.length)) x 255 >>= fun _=>aI (decide (decide (tt.result=0)=false)) x 251 >>= fun _=>gD (aj T L) f l tt.params >>= fun _=>.ok tt.result)by have:=ar.out;rw[decide_eq_true h16]at this;exact this);have agB:=aa h16;rw[h16]at z6;clear ar h16;go_wp2_with fail;refine(da dV.out 252).mono ?_;rintro e wq ⟨rfl,rfl⟩;by_cases hlp:l.length=tt.params.length;case neg=>
  have aM:=aa (show r=.error (x.pos,255)by have:=aA.out;rw[decide_eq_false hlp]at this;exact this);have dlp:¬((l.length:Int)=(tt.params.length:Int)):=by omega
  have elp:((l.length:Int)==(tt.params.length:Int))=false:=beq_eq_false_iff_ne.2 dlp;clear aA;go_wp2_with fail;refine(eg dV.out 255).mono ?_;exact AU
 have aM:=aa (show r=(aI (decide (decide (tt.result=0)=false)) x 251 >>= fun _=>gD (aj T L) f l tt.params >>= fun _=>.ok tt.result)by have:=aA.out;rw[decide_eq_true hlp]at this;exact this);have HLP:=aa hlp;have elp:((l.length:Int)==(tt.params.length:Int))=true:=beq_iff_eq.2 (by omega);clear aA hlp;go_wp2_with fail;refine(da dV.out 255).mono ?_;rintro e wq ⟨rfl,rfl⟩;by_cases cT:tt.result=0;case pos=>
  have bf:=aa (show r=.error (x.pos,251)by have:=aM.out;rw[decide_eq_true cT]at this;exact this);rw[cT]at z6;clear aM;go_wp2_with fail;refine(eg dV.out 251).mono ?_;rintro e wq ⟨rfl,rfl⟩;exact bj bf.out B6.out rfl
 have bf:=aa (show r=(gD (aj T L) f l tt.params >>= fun _=>.ok tt.result)by have:=aM.out;rw[decide_eq_false cT]at this;exact this);have er0:=beq_eq_false_iff_ne.2 cT;clear aM;go_wp2_with fail;refine(da dV.out 251).mono ?_;rintro e wq ⟨rfl,rfl⟩;have HFL:=aa (show l.length+1≤f by
  cases hll:l.length with
  |zero=>have:=Ka.out;omega
  |succ m=>
   obtain⟨y,hy⟩:∃y,l[m]? =some y:=⟨l[m]'(by omega),by simp⟩;have:=(HEL.out m y hy).2;have:=lu y;omega)
 clear agB;go_wp2_with fail
 go_loopg [11,12,53] l.length (fun gg _ _ s53 wr=>∃kk:Nat,kk≤l.length∧gg=l.length-kk∧s53=.int .i64 kk∧Below w6.heap.size w6 wr∧r=(gD (aj T L) (f-kk) (l.drop kk) (tt.params.drop kk) >>= fun _=>.ok tt.result))
 case atStart=>exact⟨0,Nat.zero_le _,by omega,rfl,Below.refl _ _,bf.out⟩
 case round=>
  obtain⟨kk,hkk,hgk,rfl,hbr,hvr⟩:=hrel;have HVr:=aa hvr;have Cr:=aa hbr;have TPr:=aa (TP6.out.later hbr);have Br:=ah B6 hbr;have X1:=aa (X1.out.grow hbr);have T6:=aa (T6.out.grow hbr);clear hbr;have z6:=T6.out.cell;have l6:=T6.out.lt;have z1:=X1.out.cell;have l1:=X1.out.lt;dsimp only[bX]at z6;clear hvr;by_cases hlt:kk<l.length
  ·have hltz:(kk:Int)<(l.length:Int):=by omega
   have agC:kk<tt.params.length:=by have:=HLP.out;omega
   have hlpz:(kk:Int)<(tt.params.length:Int):=by omega
   obtain⟨y,hy⟩:∃y,l[kk]? =some y:=⟨l[kk],by simp⟩;obtain⟨p,hp⟩:∃p,tt.params[kk]? =some p:=⟨tt.params[kk],by simp⟩;obtain⟨g,o,yb,rfl,hnc,hyp,hyt⟩:=(HL.out.later Br.out) kk y hy;obtain⟨bp,op,rfl,hbw,hpc,p0,p1⟩:=Gu TPr.out rfl hp;have lg:=aQ hyp;have HY:=aa hyt;have HYE:=aa (HEL.out kk y hy);have HD:=aa (show l.drop kk=y::l.drop (kk+1)by
    obtain⟨h1,rfl⟩:=List.getElem?_eq_some_iff.1 hy;exact List.drop_eq_getElem_cons h1)
   have HD':=aa (show tt.params.drop kk=p::tt.params.drop (kk+1)by
    obtain⟨h1,rfl⟩:=List.getElem?_eq_some_iff.1 hp;exact List.drop_eq_getElem_cons h1)
   have HW:=aa (show wrap64 ((kk:Int)+1)=((kk+1:Nat):Int)by rw[Go.IntWalk.wrap64_in _ (by have:=HLN.out;omega)];omega);obtain⟨q,ptt⟩:=p;have bz:=aa (show r=(wP (aj T L) (f-kk-1) y q ptt >>= fun _=>gD (aj T L) (f-(kk+1)) (l.drop (kk+1)) (tt.params.drop (kk+1))) >>= fun _=>.ok tt.result by
    rw[HVr.out,HD.out,HD'.out,show f-kk=(f-kk-1)+1 by have:=HFL.out;omega,Zs];rfl)
   have HAR:=aa (fun w' (hb:Below wr.heap.size wr w')=>Za ((H.out.later Br.out).later hb) (HY.out.later hb) HYE.out.1 (f-kk-1) (by have:=HYE.out.2;omega) q ptt);have har:=HAR.out;clear hy hp hyt HVr HAR hlt agC;change ∀w' (hb:Below wr.heap.size wr w'),Calls _ _ _ w' (Oy w' (wP (aj T L) (f-kk-1) y q ptt))at har;go_upto_region 11 with(fail);refine bh [] [] (by kernel_rfl) ?_;refine FQ (Below.refl _ _) [0,1,2,3,4,5,6] ?_;cases hra:wP (aj T L) (f-kk-1) y q ptt with
   |error e9=>
    obtain⟨p9,c9⟩:=e9;rw[hra]at har;have HAR:=aa har;have cH:=aa (show r=.error (p9,c9)by have:=bz.out;rw[hra]at this;exact this);clear hra har bz;refine FC 7 aG (Below.refl _ _) (fun w4 ab=>(HAR.out _ ab).mono ?_);rintro e wa ⟨hba,rfl⟩;exact bj (fn:=Tryz.f112) cH.out (bb (bb Br.out ab) hba) rfl
   |ok u=>
    rw[hra]at har;have HAR:=aa har;have cH:=aa (show r=(gD (aj T L) (f-(kk+1)) (l.drop (kk+1)) (tt.params.drop (kk+1)) >>= fun _=>.ok tt.result)by have:=bz.out;rw[hra]at this;exact this);clear hra har bz;refine FC 7 aG (Below.refl _ _) (fun w4 ab=>(HAR.out _ ab).mono ?_);rintro e wa ⟨hba,rfl,_⟩;refine⟨hba,?_⟩;have Ca:=aa (bb ab hba);clear hba ab;refine cV 8 (by kernel_rfl) (by kernel_rfl) Ca.out (fun wq hwq=>?_);refine FA ?_;have CQ:=aa (bb Cr.out (bb Ca.out hwq));go_wp2_with fail
    go_roundg (gk-1)
    case measure=>omega
    exact⟨kk+1,by omega,by omega,by rw[HW.out],CQ.out,cH.out⟩
  ·obtain rfl:kk=l.length:=by omega
   have hltz:¬((l.length:Int)<(l.length:Int)):=by omega
   have bz:=aa (show r=.ok tt.result by
    rw[HVr.out,List.drop_length,show tt.params.drop l.length=[]from by rw[HLP.out,List.drop_length],show f-l.length=(f-l.length-1)+1 by have:=HFL.out;omega];rfl)
   go_wp2_with fail;go_ret;rw[bz.out];exact⟨Br.out,rfl,trivial⟩
end Go.Proofs.YtlpombjidhloiaaGreat
namespace Go.Proofs.YtlpombjidhloiaaGreat
theorem Qy{α β:Type} [DecidableEq α](l:List (α×β))(x:α)(v:β):(fh l x v).map (·.1)=if x∈l.map (·.1)then l.map (·.1)else l.map (·.1)++[x]:=by
 induction l with
 |nil=>rfl
 |cons y l ih=>
  unfold fh;by_cases h:y.1=x
  ·rw[if_pos h,if_pos (by simp[h])];simp[h]
  ·rw[if_neg h,List.map_cons,ih];have hx:¬x=y.1:=fun e=>h e.symm
   by_cases h2:x∈l.map (·.1)
   ·rw[if_pos h2,if_pos (by rw[List.map_cons];exact List.mem_cons_of_mem _ h2)];rfl
   ·rw[if_neg h2,if_neg (by rw[List.map_cons];intro hm;rcases List.mem_cons.1 hm with e|e;exact hx e;exact h2 e)];rfl
theorem abv{α β:Type} [DecidableEq α]{l:List (α×β)}{x:α}(h:bm l x=none):x∉l.map (·.1):=by
 unfold bm at h;rw[Option.map_eq_none_iff,List.find?_eq_none]at h;intro hm;obtain⟨p,hp,e⟩:=List.mem_map.1 hm;exact h p hp (decide_eq_true e)
def sE(T:List Ty)(i:Int):Bool:=decide (0≤i)&&decide (i<T.length)
def iL(T:List Ty)(K:List (Int×Int×Int)):Nat:=((K.map (·.1)).filter (sE T)).length
theorem abw{T:List Ty}{K:List (Int×Int×Int)}(h:(K.map (·.1)).Nodup):iL T K≤T.length:=by
 unfold iL;have h1:=BQ T.length (((K.map (·.1)).filter (sE T)).map Int.toNat) ?_ ?_
 ·simpa using h1
 ·have hp:((K.map (·.1)).filter (sE T)).Nodup:=h.filter _;rw[List.Nodup,List.pairwise_map];refine List.Pairwise.imp_of_mem ?_ hp;intro a b ha hb hne he;have ha:=(List.mem_filter.1 ha).2;have hb:=(List.mem_filter.1 hb).2;simp only[sE,Bool.and_eq_true,decide_eq_true_eq]at ha hb;exact hne (by omega)
 ·intro x hx;obtain⟨a,ha,rfl⟩:=List.mem_map.1 hx;have ha:=(List.mem_filter.1 ha).2;simp only[sE,Bool.and_eq_true,decide_eq_true_eq]at ha;omega
theorem Qz(T:List Ty){K:List (Int×Int×Int)}(h:(K.map (·.1)).Nodup)(i:Int)(v:Int×Int):((fh K i v).map (·.1)).Nodup∧iL T K≤iL T (fh K i v):=by
 unfold iL;rw[Qy];split
 ·exact⟨h,Nat.le_refl _⟩
 ·rename_i hm;refine⟨?_,by rw[List.filter_append,List.length_append];omega⟩;rw[List.nodup_append];refine⟨h,by simp,?_⟩;intro x hx y hy e;rw[List.mem_singleton]at hy;subst hy e;exact hm hx
def QA(i:Int)(X:Option ((Int×Int)×List (Int×Int×Int))):Option ((Int×Int)×List (Int×Int×Int)):=match X with
 |none=>none
 |some (r,K)=>some (r,fh K i r)
theorem He(T:List Ty):∀(f:Nat) (K:List (Int×Int×Int)) (i:Int),(K.map (·.1)).Nodup→T.length+1≤f+iL T K→∃r K',jr T f K i=some (r,K')∧(K'.map (·.1)).Nodup∧iL T K≤iL T K'
 |0,K,i,h,hf=>by have:=abw (T:=T) h;omega
 |f+1,K,i,h,hf=>by
  unfold jr;cases hk:bm K i with
  |some r=>exact⟨r,K,rfl,h,Nat.le_refl _⟩
  |none=>
   have hn:=abv hk;obtain⟨h1,h2⟩:=Qz T h i (0,2);have hin:(aF T i).kind≠0→iL T (fh K i (0,2))=iL T K+1:=by
    intro h0;obtain⟨i1,i2⟩:=GX h0;unfold iL;rw[Qy,if_neg hn,List.filter_append,List.length_append];have:sE T i=true:=by simp[sE,i1,i2]
    simp[this]
   simp only;generalize fh K i (0,2)=K1 at *;have gen:∀X:Option ((Int×Int)×List (Int×Int×Int)),(∃r K',X=some (r,K')∧(K'.map (·.1)).Nodup∧iL T K1≤iL T K')→∃r K',QA i X=some (r,K')∧(K'.map (·.1)).Nodup∧iL T K≤iL T K':=by
    rintro X ⟨r,K',rfl,e2,e3⟩;obtain⟨e4,e5⟩:=Qz T e2 i r;exact⟨r,_,rfl,e4,by omega⟩
   refine gen _ ?_;split
   ·exact wY
   split
   ·exact wY
   split
   ·exact wY
   split
   ·rename_i h10;split
    ·exact wY
    ·obtain⟨⟨n,e⟩,K',e1,e2,e3⟩:=He T f K1 (aF T i).base h1 (by have:=hin (by omega);omega);rw[e1];simp only;split
     ·exact BV
     ·exact BV
   split
   ·rename_i h12;have hK:=hin (by omega);have fl:∀(l:List (List UInt8×Int×Int)) (K:List (Int×Int×Int)) (n:Int),(K.map (·.1)).Nodup→iL T K1≤iL T K→∃r K',nV (jr T f) K n l=some (r,K')∧(K'.map (·.1)).Nodup∧iL T K≤iL T K':=by
     intro l
     induction l with
     |nil=>intro K n hn hc;exact⟨_,_,rfl,hn,Nat.le_refl _⟩
     |cons p l ih=>
      intro K n hn hc;unfold nV;obtain⟨⟨m,e⟩,K',e1,e2,e3⟩:=He T f K p.2.1 hn (by omega);rw[e1];simp only;split
      ·exact BV
      split
      ·exact BV
      ·obtain⟨r,K'',e4,e5,e6⟩:=ih K' (fitsW (n+m)).1 e2 (by omega);exact⟨r,K'',e4,e5,by omega⟩
    exact fl _ K1 0 h1 (Nat.le_refl _)
   ·exact wY
theorem abx(T:List Ty)(i:Int):∃K,jr T (T.length+2) [] i=some (aN T i,K):=by
 obtain⟨r,K,e,_,_⟩:=He T (T.length+2) [] i List.nodup_nil (by omega);refine⟨K,?_⟩;unfold aN;rw[e]
end Go.Proofs.YtlpombjidhloiaaGreat
namespace Go.Proofs.YtlpombjidhloiaaGreat
open Go.RowKit
set_option maxRecDepth 100000
attribute [local go_sem ↓] Go.wp_at_zero Go.wp_at_succ
theorem Tg(n:Int)(w:World):Calls Tryz.prog 225 #[.int .i64 n] w (fun e w'=>e=.returned (.tuple #[.int .i64 (fitsW n).1,.int .i64 (fitsW n).2])∧w=w'):=by
 have HR:=aa (fitsW.eq_1 n);by_cases h:32767<n
 ·have HV:=aa (HR.out.trans (if_pos h));exact Th
 ·have HV:=aa (HR.out.trans (if_neg h));exact Th
def sM(p:Int×Int):Value:=.agg #[.int .i64 p.1,.int .i64 p.2]
def pP(K:List (Int×Int×Int)):List (Int×Value):=K.map fun q=>(q.1,sM q.2)
theorem adW(K:List (Int×Int×Int))(i:Int)(v:Int×Int):pP (fh K i v)=fh (pP K) i (sM v):=by
 induction K with
 |nil=>rfl
 |cons q K ih=>
  show pP (if q.1=i then(i,v)::K else q::fh K i v)=if q.1=i then(i,sM v)::pP K else(q.1,sM q.2)::fh (pP K) i (sM v)
  by_cases h:q.1=i
  ·rw[if_pos h,if_pos h];rfl
  ·rw[if_neg h,if_neg h,←ih];rfl
theorem Ti(K:List (Int×Int×Int))(i:Int):bm (pP K) i=(bm K i).map sM:=by
 unfold bm
 induction K with
 |nil=>rfl
 |cons q K ih=>
  show((pP (q::K)).find? _).map _=_;unfold pP at ih ⊢;rw[List.map_cons,List.find?_cons,List.find?_cons];by_cases h:q.1=i
  ·simp[h]
  ·simp[h];simpa using ih
structure eA(r:Nat)(w w':World):Prop where
 size:w.heap.size≤w'.heap.size
 block:∀b,b<w.heap.size→b≠r→w'.heap[b]? =w.heap[b]?
theorem eA.refl(r:Nat)(w:World):eA r w w:=⟨Nat.le_refl _,fun _ _ _=>rfl⟩
theorem eA.trans{r:Nat}{a b c:World}(h:eA r a b)(k:eA r b c):eA r a c:=
 ⟨Nat.le_trans h.size k.size,fun i hi hr=>(k.block i (Nat.lt_of_lt_of_le hi h.size) hr).trans (h.block i hi hr)⟩
theorem eA.of{r:Nat}{w w':World}(h:Below w.heap.size w w'):eA r w w':=⟨h.size,fun b hb _=>h.block b hb⟩
theorem eA.put(r:Nat)(w:World)(o:Obj):eA r w (iX w r o):=⟨by rw[Hg];exact Nat.le_refl _,fun _ _ hr=>sB w r o (Ne.symm hr)⟩
theorem eA.cell{r:Nat}{w w':World}(h:eA r w w'){l:List (Int×Value)}(k:KM dC w r l){b i:Nat}{v:Value}(hc:w.cell? ⟨b,i,none⟩=some v):w'.cell? ⟨b,i,none⟩=some v:=by
 have hne:b≠r:=by
  rintro rfl;obtain⟨es,cl,hm,_⟩:=k;unfold World.cell? at hc;rw[show w.heap[b]? =_ from hm]at hc;cases hc
 rw[←hc];unfold World.cell?;rw[h.block b (aQ hc) hne]
theorem Rw.kept{r:Nat}{w w':World}{l:List (Int×Value)}{v:Value}{n:Nat}{cs:List Value}(h:Rw w v n cs)(hk:eA r w w')(k:KM dC w r l):Rw w' v n cs:=by
 refine h.imp id ?_;rintro⟨b,o,c,h1,h0,h2,h3⟩;exact⟨b,o,c,h1,h0,Nat.lt_of_lt_of_le h2 hk.size,fun j u hj=>hk.cell k (h3 j u hj)⟩
structure iu(w0:World)(p:Nat)(T:List Ty)(r:Nat)(K:List (Int×Int×Int))(w:World):Prop where
 tab:cF w0 p T
 below:Below w0.heap.size w0 w
 old:w0.heap.size≤r
 km:KM dC w r (pP K)
 fine:∀q∈K,0≤q.2.1∧q.2.1≤32767
theorem adX{K:List (Int×Int×Int)}{i:Int}{v:Int×Int}(h:∀q∈K,0≤q.2.1∧q.2.1≤32767)(hv:0≤v.1∧v.1≤32767):∀q∈fh K i v,0≤q.2.1∧q.2.1≤32767:=by
 induction K with
 |nil=>intro q hq;unfold fh at hq;rw[List.mem_singleton]at hq;subst hq;exact hv
 |cons x K ih=>
  intro q hq;unfold fh at hq;split at hq
  ·rcases List.mem_cons.1 hq with rfl|hq
   ·exact hv
   ·exact h q (List.mem_cons_of_mem _ hq)
  ·rcases List.mem_cons.1 hq with rfl|hq
   ·exact h _ (List.mem_cons_self ..)
   ·exact ih (fun q hq=>h q (List.mem_cons_of_mem _ hq)) q hq
theorem adY{K:List (Int×Int×Int)}{i:Int}{x:Int×Int}(h:∀q∈K,0≤q.2.1∧q.2.1≤32767)(hf:bm K i=some x):0≤x.1∧x.1≤32767:=by
 unfold bm at hf;obtain⟨q,hq,rfl⟩:=Option.map_eq_some_iff.1 hf;exact h q (List.mem_of_find?_eq_some hq)
theorem iu.later{w0:World}{p:Nat}{T:List Ty}{r:Nat}{K:List (Int×Int×Int)}{w w':World}(h:iu w0 p T r K w)(hb:Below w.heap.size w w'):iu w0 p T r K w':=
 ⟨h.tab,h.below.trans (hb.mono h.below.size),h.old,h.km.later hb,h.fine⟩
theorem iu.tabNow{w0:World}{p:Nat}{T:List Ty}{r:Nat}{K:List (Int×Int×Int)}{w:World}(h:iu w0 p T r K w):cF w p T:=h.tab.later h.below
theorem iu.put{w0:World}{p:Nat}{T:List Ty}{r:Nat}{K:List (Int×Int×Int)}{w:World}(h:iu w0 p T r K w)(i:Int)(v:Int×Int)(hv:0≤v.1∧v.1≤32767):
 ∃w',(Instr.mapUpdate 241 (.map (some r)) (.int .i64 i) (.agg #[.int .i64 v.1,.int .i64 v.2])).run Tryz.prog w=.ok () w'∧iu w0 p T r (fh K i v) w'∧eA r w w':=by
 obtain⟨o,h1,h2⟩:=BA Tryz.underlying241 (ij Tryz.underlying3) h.km i (sM v);rw[←adW]at h2;exact⟨_,h1,⟨h.tab,wT h.below h.old o,h.old,h2,adX h.fine hv⟩,eA.put r w o⟩
theorem iu.look{w0:World}{p:Nat}{T:List Ty}{r:Nat}{K:List (Int×Int×Int)}{w:World}(h:iu w0 p T r K w)(i:Int)(x:Int×Int)(hf:bm K i=some x):
 (Instr.lookup 241 (.map (some r)) (.int .i64 i) true).run Tryz.prog w=.ok (.tuple #[.agg #[.int .i64 x.1,.int .i64 x.2],.bool true]) w:=
 (ej Tryz.underlying241 (ij Tryz.underlying3) h.km i (by rw[Ti,hf];rfl)).1
theorem iu.miss{w0:World}{p:Nat}{T:List Ty}{r:Nat}{K:List (Int×Int×Int)}{w:World}(h:iu w0 p T r K w)(i:Int)(hf:bm K i=none):
 (Instr.lookup 241 (.map (some r)) (.int .i64 i) true).run Tryz.prog w=.ok (.tuple #[.agg #[.int .i64 0,.int .i64 0],.bool false]) w:=
 (lY (z:=.agg #[.int .i64 0,.int .i64 0]) Tryz.underlying241 (ij Tryz.underlying3) (fun w=>by kernel_rfl) h.km i (by rw[Ti,hf];rfl)).1
def uX(w0:World)(p:Nat)(T:List Ty)(r:Nat)(w:World)(out:Int×Int)(K:List (Int×Int×Int))(e:Ending)(w':World):Prop:=e=.returned (.tuple #[.int .i64 out.1,.int .i64 out.2])∧iu w0 p T r K w'∧eA r w w'∧0≤out.1∧out.1≤32767
def sN(w0:World)(p:Nat)(T:List Ty)(r:Nat)(sz:List (Int×Int×Int)→Int→Option ((Int×Int)×List (Int×Int×Int))):Prop:=
 ∀K i out K' w,sz K i=some (out,K')→iu w0 p T r K w→Calls Tryz.prog 146 #[.agg #[.pointer (some ⟨p,0,none⟩),.map (some r)],.int .i64 i] w (uX w0 p T r w out K')
def CR(T:List Ty)(sz:List (Int×Int×Int)→Int→Option ((Int×Int)×List (Int×Int×Int)))(K:List (Int×Int×Int))(x:Ty):Option ((Int×Int)×List (Int×Int×Int)):=
 if !(rangeT T x.index).2.2 then some ((0,2),K)else match sz K x.base with
  |none=>none
  |some ((n,e),K)=>if e≠0 then some ((0,e),K)else some (fitsW (max ((rangeT T x.index).2.1-(rangeT T x.index).1+1) 0*n),K)
def xG(T:List Ty)(f:Nat)(K:List (Int×Int×Int))(i:Int):Option ((Int×Int)×List (Int×Int×Int)):=
 if bH T i∧(aF T i).kind≠5 then some ((1,0),K)
 else if(aF T i).kind=13∨(aF T i).kind=14∨(aF T i).kind=15∨(aF T i).kind=16 then some ((1,0),K)
 else if(aF T i).kind=11 then some ((2,0),K)
 else if(aF T i).kind=10 then CR T (jr T f) K (aF T i)
 else if(aF T i).kind=12 then nV (jr T f) K 0 (aF T i).fields
 else some ((0,2),K)
theorem adZ(T:List Ty)(f:Nat)(K:List (Int×Int×Int))(i:Int)(h:bm K i=none):jr T (f+1) K i=QA i (xG T f (fh K i (0,2)) i):=by
 unfold jr;rw[h];rfl
def Tj(w0:World)(p:Nat)(T:List Ty)(r:Nat)(sz:List (Int×Int×Int)→Int→Option ((Int×Int)×List (Int×Int×Int))):Prop:=
 ∀K i out K' w,sz K i=some (out,K')→iu w0 p T r K w→Calls Tryz.prog 205 #[.agg #[.pointer (some ⟨p,0,none⟩),.map (some r)],.int .i64 i] w (uX w0 p T r w out K')
set_option maxHeartbeats 1000000 in
theorem ad0{w0:World}{p:Nat}{T:List Ty}{r:Nat}(f:Nat)(hre:Tj w0 p T r (xG T f)):sN w0 p T r (jr T (f+1)):=by
 intro K i out K' w he h;cases hk:bm K i with
 |some x=>
  have rj:some (x,K)=some (out,K'):=by rw[←he];unfold jr;rw[hk]
  obtain⟨rfl,rfl⟩:=Prod.mk.inj (Option.some.inj rj);have H:=aa h;have HF:=aa hk;clear h he rj hre hk;go_enter Tryz.func146,Tryz.ntmps146;go_upto_region 1 with(fail);generalize az:w.alloc _=w1;obtain⟨ae,x1,aE⟩:=made az;have aO:=aa ae;have H1:=aa (H.out.later ae);have lk:=H1.out.look i x HF.out;have z1:=fun j=>x1.cell j
  clear az ae aE x1;go_upto_region 3 with(fail);refine mQ (by kernel_rfl) (by kernel_rfl) ?_;repeat (go_big_quiet_step (fail))
  refine wpQuiet_nil ?_;rintro wz ⟨x9,rfl⟩;go_wp2_with fail;go_ret2;have ae:Below w.heap.size w _:=aO.out.alloc aO.out.size (.cells #[.int .i64 x.1,.int .i64 x.2] 269);have hb:=ae.trans ((lO _ x9).mono ae.size);have hn:=adY H.out.fine HF.out;exact⟨rfl,H.out.later hb,eA.of hb,hn.1,hn.2⟩
 |none=>
  rw[adZ T f K i hk]at he;cases hr:xG T f (fh K i (0,2)) i with
  |none=>rw[hr]at he;cases he
  |some o=>
   obtain⟨rH,K1⟩:=o;rw[hr]at he;obtain⟨rfl,rfl⟩:=Prod.mk.inj (Option.some.inj (show some (rH,fh K1 i rH)=some (out,K')from he));have H:=aa h;have HF:=aa hk;have HR:=aa hr;have HRE:=aa hre;clear h he hre hk hr;go_enter Tryz.func146,Tryz.ntmps146;go_upto_region 1 with(fail);generalize az:w.alloc _=w1;obtain⟨ae,x1,aE⟩:=made az;have aO:=aa ae;have H1:=aa (H.out.later ae);have X1:=aa x1;have lk:=H1.out.miss i HF.out;have z1:=fun j=>x1.cell j
   clear az ae aE x1;go_upto_region 2 with(fail);generalize aU:w1.alloc _=w2;obtain⟨af,_,_⟩:=made aU;have x2:=X1.out.grow af;have aV:=aa (aO.out.trans (af.mono aO.out.size));have h2:=H1.out.later af;obtain⟨w3,hput,h3,k3⟩:=h2.put i (0,2) (by decide);have c0:=k3.cell h2.km (x2.cell 0);have c1:=k3.cell h2.km (x2.cell 1);have z2:=fun j=>x2.cell j
   have l2:=x2.lt;have l3:=aQ c0;have H3:=aa h3;have K3:=aa ((eA.of aV.out).trans k3);have C0:=aa c0;have C1:=aa c1;dsimp only at hput;clear aU af x2 h2 h3 k3 z1 lk aO aV H1 X1;go_wp2_with fail;refine(HRE.out _ _ _ _ _ HR.out H3.out).mono ?_;rintro e w4 ⟨rfl,h4,k4,n0,n1⟩;have c0:=k4.cell H3.out.km C0.out;have c1:=k4.cell H3.out.km C1.out;have l4:=aQ c0;have K4:=aa (K3.out.trans k4);obtain⟨w5,aj9,h5,k5⟩:=h4.put i rH ⟨n0,n1⟩;have H5:=aa h5;have K5:=aa (K4.out.trans k5);have N:=aa (And.intro n0 n1);clear h4 k4 n0 n1 h5 k5 hput;go_wp2_with fail;go_ret2;exact⟨rfl,H5.out,K5.out,N.out.1,N.out.2⟩
end Go.Proofs.YtlpombjidhloiaaGreat
