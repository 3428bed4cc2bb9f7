/- The judge's standard functions. The judge's parts upon expressions. Condition: what each theorem says. -/
import Derived.Test.YtlpombjidhloiaaGreatBax
namespace Go.Proofs.YtlpombjidhloiaaGreat
open Go.RowKit
set_option maxRecDepth 100000
attribute [local go_sem ↓] Go.wp_at_zero Go.wp_at_succ
set_option maxHeartbeats 4000000 in
theorem Zo{w:World}{pt pv:Nat}{T:List Ty}{L:List Lv}(h:bO w pt pv T L){g o n c yb zb:Nat}{y z:ao}(hn:1<n)(hc:n≤c)(hp:w.cell? ⟨g,o,none⟩=some (.pointer (some ⟨yb,0,none⟩)))(hp2:w.cell? ⟨g,o+1,none⟩=some (.pointer (some ⟨zb,0,none⟩)))(ht:bg w yb y)(hz:bg w zb z)(hk:y.kind=2→0<y.kids.length)(E:df pt pv T L z)(f:Nat)(hf:8*bq z≤f):Calls Tryz.prog 203 #[qV pt pv,.slice (some ⟨g,o,none⟩) n c] w (fW w (ki (aj T L) y >>= fun t=>plainJ (aj T L) (f+1) z >>= fun j=>aI (bH T j.type) z 252 >>= fun _=>.ok t)):=by
 have H:=aa h;have HP:=aa hp;have vu:=aa hp2;have HZ:=aa hz;have HNC:=aa (And.intro hn hc);have HC:=aa (fun w' (hb:Below w.heap.size w w')=>Oi (h.later hb) (ht.later hb) hk);have HD:=aa (fun w' (hb:Below w.heap.size w w')=>AQ (h.later hb) E f hf (hz.later hb));generalize hrr:(ki (aj T L) y >>= fun t=>plainJ (aj T L) (f+1) z >>= fun j=>aI (bH T j.type) z 252 >>= fun _=>.ok t)=r;have HV:=aa hrr.symm;clear h ht hp hp2 hz E hf hk hrr hn hc;dsimp only[qV,qC];dsimp only[qV,qC]at HC HD;go_enter Tryz.func203,Tryz.ntmps203;go_upto_region 1 with(fail);generalize az:w.alloc _=w1;obtain⟨ae,x1,aE⟩:=made az;have B1:=aa ae;have X1:=aa x1;have z1:=X1.out.cell;have l1:=X1.out.lt;clear az ae aE x1;have hp1:=bo HP.out B1.out;have rB:=aQ hp1;have h0:(0:Int)<(n:Int):=by have:=HNC.out;omega
 have h1:(1:Int)<(n:Int):=by have:=HNC.out;omega
 have hC:=HC.out;cases hr:ki (aj T L) y with
 |error q=>
  obtain⟨p,c⟩:=q;have hv:=HV.out;simp only[hr,fV]at hv;have aq:=aa hv;rw[hr]at hC;have bJ:=aa hC;clear hr HV hv hC HC HD;go_upto_region 1 with(fail);refine bh [5] [] (by kernel_rfl) ?_;refine FQ (Below.refl _ _) [0,1,2,3] ?_;refine FC 4 aG (Below.refl _ _) (fun w4 ab=>(bJ.out _ (bb B1.out ab)).mono ?_);rintro e w3 ⟨ad,rfl⟩;exact bj (fn:=Tryz.f203) aq.out (bb (bb B1.out ab) ad) rfl
 |ok ty=>
  have hv:=HV.out;simp only[hr,dc]at hv;rw[hr]at hC;have bJ:=aa hC;have aq:=aa hv;clear hr HV hv hC HC;go_upto_region 1 with(fail);refine bh [5] [] (by kernel_rfl) ?_;refine FQ (Below.refl _ _) [0,1,2,3] ?_;refine FC 4 aG (Below.refl _ _) (fun w4 ab=>(bJ.out _ (bb B1.out ab)).mono ?_);rintro e w3 ⟨ad,rfl,_⟩;refine⟨ad,?_⟩;have C3:=aa (bb ab ad);clear ad ab;refine cV 5 (by kernel_rfl) (by kernel_rfl) C3.out (fun wr hwr=>?_);refine FA ?_;have af:=bb C3.out hwr;have B2:=ah B1 af;have X1:=aa (X1.out.grow af);clear af;have z1:=X1.out.cell;have l1:=X1.out.lt;have jd:=bo vu.out B2.out;have lq2:=aQ jd;clear C3 hwr;have hD:=HD.out;cases hr:plainJ (aj T L) (f+1) z with
  |error q=>
   obtain⟨p,c⟩:=q;have hv:=aq.out;simp only[hr,fV]at hv;have ar:=aa hv;rw[hr]at hD;have JZ:=aa hD;clear hr aq hv hD HD;go_upto_region 2 with(fail);refine bh [6] [⟨5,6,ei,29⟩] (by kernel_rfl) ?_;refine FQ (Below.refl _ _) [0,1,2,3] ?_;refine FC 4 (cr bN) (Below.refl _ _) (fun w4 ab=>(JZ.out _ (bb B2.out ab)).mono ?_);rintro e w3 ⟨ad,rfl⟩;exact bj (fn:=Tryz.f203) ar.out (bb (bb B2.out ab) ad) rfl
  |ok j=>
   have hv:=aq.out;simp only[hr,dc]at hv;rw[hr]at hD;have JZ:=aa hD;obtain⟨t,v,i⟩:=j;have HOR:=aa (fun w (h:cF w pt T)=>mV h t);dsimp only at hv;generalize bH T t=oq at *;have ar:=aa hv;clear hr aq hv hD HD;go_upto_region 2 with(fail);refine bh [6] [⟨5,6,ei,29⟩] (by kernel_rfl) ?_;refine FQ (Below.refl _ _) [0,1,2,3] ?_;refine FC 4 (cr bN) (Below.refl _ _) (fun w4 ab=>(JZ.out _ (bb B2.out ab)).mono ?_);rintro e w3 ⟨ad,rfl,hvw⟩;refine⟨ad,?_⟩;have C3:=aa (bb ab ad);clear ad ab hvw;dsimp only[bU];refine fU 6 (by kernel_rfl) bN (by kernel_rfl) C3.out rfl rfl rfl rfl (fun _=>rfl) (fun _=>rfl) info29 rfl (ig ⟨t,v,i⟩) (fun b6 w6 aD x6 aH _=>?_);refine FA ?_;have J6:=aa (show Bx b6 #[.int .i64 t,aK v,.int .u8 i] 29 w6 from x6);have B6:=ah B2 aH;have X1:=aa (X1.out.grow aH);clear aH;have T6:=aa (HZ.out.later B6.out);have pW:=bo vu.out B6.out;have JV:=aQ pW;have z6:=J6.out.cell;have l6:=J6.out.lt;have z1:=X1.out.cell;have l1:=X1.out.lt;clear x6 aD C3;go_upto_region 3 with(fail);refine bh [] [] (by kernel_rfl) ?_;refine FQ (Below.refl _ _) [0,1,2,3,5,6,7] ?_;refine FC 4 aG (Below.refl _ _) (fun w4 ab=>(HOR.out _ (H.out.later (bb B6.out ab)).tab).mono ?_);rintro e w7 ⟨rfl,aC⟩;refine⟨aC,?_⟩;have C7:=aa (bb ab aC);clear aC ab;cases oq
   ·have aA:=aa (show r=.error (z.pos,252)from ar.out);refine FC 8 aG C7.out (fun w4 ab=>(lq rfl (T6.out.later (bb C7.out ab)) 252).mono ?_);rintro e w8 ⟨rfl,rfl⟩;exact bj (fn:=Tryz.f203) aA.out (bb B6.out (bb C7.out ab)) rfl
   ·have aA:=aa (show r=.ok ty from ar.out);refine FC 8 aG C7.out (fun w4 ab=>(jm rfl (T6.out.later (bb C7.out ab)) 252).mono ?_);rintro e w8 ⟨rfl,rfl⟩;refine⟨Below.refl _ _,?_⟩;refine cV 9 (by kernel_rfl) (by kernel_rfl) (bb C7.out ab) (fun wr hwr=>?_);refine FA ?_;go_wp2_with fail;go_ret;rw[aA.out];exact⟨bb (bb (bb B6.out C7.out) ab) hwr,rfl,trivial⟩
set_option maxHeartbeats 4000000 in
theorem Zx{w:World}{pt pv:Nat}{T:List Ty}{L:List Lv}(h:bO w pt pv T L){g o n c yb:Nat}{y:ao}(hn:0<n)(hc:n≤c)(hp:w.cell? ⟨g,o,none⟩=some (.pointer (some ⟨yb,0,none⟩)))(ht:bg w yb y)(E:df pt pv T L y)(f:Nat)(hf:8*bq y≤f):Calls Tryz.prog 198 #[qV pt pv,.slice (some ⟨g,o,none⟩) n c] w (fW w (exprJ (aj T L) f y >>= fun j=>aI (gj j&&decide (aJ T j.type=10∨aJ T j.type=11)) y 252 >>= fun _=>.ok (2:Int))):=by
 have H:=aa h;have HT:=aa ht;have HP:=aa hp;have HNC:=aa (And.intro hn hc);have HC:=aa (fun w' (hb:Below w.heap.size w w')=>E f hf w' yb (h.later hb) (ht.later hb));generalize hrr:(exprJ (aj T L) f y >>= fun j=>aI (gj j&&decide (aJ T j.type=10∨aJ T j.type=11)) y 252 >>= fun _=>.ok (2:Int))=r;have HV:=aa hrr.symm;clear h ht hp E hf hrr hn hc;dsimp only[qV,qC];dsimp only[qV,qC]at HC;go_enter Tryz.func198,Tryz.ntmps198;go_upto_region 1 with(fail);generalize az:w.alloc _=w1;obtain⟨ae,x1,aE⟩:=made az;have B1:=aa ae;have X1:=aa x1;have z1:=X1.out.cell;have l1:=X1.out.lt;clear az ae aE x1;have hp1:=bo HP.out B1.out;have rB:=aQ hp1;have h0:(0:Int)<(n:Int):=by have:=HNC.out;omega
 have T1:=aa (HT.out.later B1.out);have hC:=HC.out;cases hr:exprJ (aj T L) f y with
 |error q=>
  obtain⟨p,c⟩:=q;have hv:=HV.out;simp only[hr,fV]at hv;have aq:=aa hv;rw[hr]at hC;have bJ:=aa hC;clear hr HV hv hC HC;go_upto_region 1 with(fail);refine bh [6] [⟨5,5,ei,29⟩] (by kernel_rfl) ?_;refine FQ (Below.refl _ _) [0,1,2,3] ?_;refine FC 4 (cr bN) (Below.refl _ _) (fun w4 ab=>(bJ.out _ (bb B1.out ab)).mono ?_);rintro e w3 ⟨ad,rfl⟩;exact bj (fn:=Tryz.f198) aq.out (bb (bb B1.out ab) ad) rfl
 |ok j=>
  have hv:=HV.out;simp only[hr,dc]at hv;rw[hr]at hC;have bJ:=aa hC;have HPL:=aa (fun w=>AF j w);generalize hpl:gj j=pl at hv HPL;clear hpl;obtain⟨t,v,i⟩:=j;have HK:=aa (fun w (h:bO w pt pv T L)=>nN h t);dsimp only at hv;dsimp only[bU]at HPL;generalize aJ T t=kk at HK hv;have aq:=aa hv;clear hr HV hv hC HC;go_upto_region 1 with(fail);refine bh [6] [⟨5,5,ei,29⟩] (by kernel_rfl) ?_;refine FQ (Below.refl _ _) [0,1,2,3] ?_;refine FC 4 (cr bN) (Below.refl _ _) (fun w4 ab=>(bJ.out _ (bb B1.out ab)).mono ?_);rintro e w3 ⟨ad,rfl,hvw⟩;refine⟨ad,?_⟩;have C3:=aa (bb ab ad);clear ad ab hvw;dsimp only[bU];refine fU 6 (by kernel_rfl) bN (by kernel_rfl) C3.out rfl rfl rfl rfl (fun _=>rfl) (fun _=>rfl) info29 rfl (ig ⟨t,v,i⟩) (fun b6 w6 aD x6 aH _=>?_);refine FA ?_;have J6:=aa (show Bx b6 #[.int .i64 t,aK v,.int .u8 i] 29 w6 from x6);have B6:=ah B1 aH;have X1:=aa (X1.out.grow aH);clear aH;have z6:=J6.out.cell;have l6:=J6.out.lt;have z1:=X1.out.cell;have l1:=X1.out.lt;clear x6 aD C3;go_wp2_with fail;refine(HK.out _ (H.out.later B6.out)).mono ?_;rintro e w7 ⟨rfl,aC⟩;have B7:=ah B6 aC;have J6:=aa (J6.out.grow aC);have X1:=aa (X1.out.grow aC);clear aC;have z6:=J6.out.cell;have l6:=J6.out.lt;have z1:=X1.out.cell;have l1:=X1.out.lt;have T7:=aa (HT.out.later B7.out);have JW:=bo HP.out B7.out;have lg7:=aQ JW;clear B6 HK T1;by_cases hq:(pl&&decide (kk=10∨kk=11))=true
  ·have ar:=aa (show r=.ok 2 by have:=aq.out;rw[hq]at this;exact this);have hpl:pl=true:=by revert hq;cases pl<;>simp
   subst hpl;have hk:kk=10∨kk=11:=by simpa using hq
   have agD:=HPL;go_upto_region 3 with(fail);refine bh [] [] (by kernel_rfl) ?_;refine FQ (Below.refl _ _) [0,10,11,12] ?_;refine FC 1 aG (Below.refl _ _) (fun w4 ab=>(HPL.out _).mono ?_);rintro e w8 ⟨rfl,aB⟩;refine⟨aB,?_⟩;have C8:=aa (bb ab aB);clear aB ab hq HPL agD aq;rcases hk with rfl|rfl
   ·exact OY
   ·exact OY
  ·have ar:=aa (show r=.error (y.pos,252)by have:=aq.out;rw[Bool.eq_false_iff.2 hq]at this;exact this);clear aq;cases pl
   ·go_upto_region 3 with(fail);refine bh [] [] (by kernel_rfl) ?_;refine FQ (Below.refl _ _) [0,10,11,12] ?_;refine FC 1 aG (Below.refl _ _) (fun w4 ab=>(HPL.out _).mono ?_);rintro e w8 ⟨rfl,aB⟩;refine⟨aB,?_⟩;have C8:=aa (bb ab aB);clear aB ab hq HPL;refine FS aG C8.out [2,3,4,5,6,7,8,9] ?_;refine FC 13 aG C8.out (fun w4 ab=>(lq rfl (T7.out.later (bb C8.out ab)) 252).mono ?_);exact OZ
   ·have h10:kk≠10:=fun hh=>hq (by rw[hh];rfl)
    have h11:kk≠11:=fun hh=>hq (by rw[hh];rfl)
    have d10:=beq_eq_false_iff_ne.2 h10;have d11:=beq_eq_false_iff_ne.2 h11;go_upto_region 3 with(fail);refine bh [] [] (by kernel_rfl) ?_;refine FQ (Below.refl _ _) [0,10,11,12] ?_;refine FC 1 aG (Below.refl _ _) (fun w4 ab=>(HPL.out _).mono ?_);rintro e w8 ⟨rfl,aB⟩;refine⟨aB,?_⟩;have C8:=aa (bb ab aB);clear aB ab hq HPL h10 h11;refine FS aG C8.out [2,3,4,5,6,7,8,9] ?_;refine FC 13 aG C8.out (fun w4 ab=>(lq d11 (T7.out.later (bb C8.out ab)) 252).mono ?_);exact OZ
@[go_sem high] theorem ahH(w:World):(Instr.makeMap 261 none).run Tryz.prog w=.ok (.map (some w.heap.size)) (cC dC w []):=lW w _
@[go_sem] theorem ahI(w:World)(l:List (Int×Value))(x:Int)(v:Value)(hx:x∉l.map (·.1)):(Instr.mapUpdate 261 (.map (some w.heap.size)) (.int .i64 x) v).run Tryz.prog (cC dC w l)=.ok () (cC dC w (l++[(x,v)])):=nP Tryz.underlying261 (ij Tryz.underlying3) w l x v hx
@[go_sem high] theorem ahJ(w:World):(Instr.makeMap 263 none).run Tryz.prog w=.ok (.map (some w.heap.size)) (cC dC w []):=lW w _
@[go_sem] theorem ahK(w:World)(l:List (Int×Value))(x:Int)(v:Value)(hx:x∉l.map (·.1)):(Instr.mapUpdate 263 (.map (some w.heap.size)) (.int .i64 x) v).run Tryz.prog (cC dC w l)=.ok () (cC dC w (l++[(x,v)])):=nP Tryz.underlying263 (ij Tryz.underlying3) w l x v hx
@[go_sem high] theorem ahL(w:World):(Instr.makeMap 264 none).run Tryz.prog w=.ok (.map (some w.heap.size)) (cC dC w []):=lW w _
@[go_sem] theorem ahM(w:World)(l:List (Int×Value))(x:Int)(v:Value)(hx:x∉l.map (·.1)):(Instr.mapUpdate 264 (.map (some w.heap.size)) (.int .i64 x) v).run Tryz.prog (cC dC w l)=.ok () (cC dC w (l++[(x,v)])):=nP Tryz.underlying264 (ij Tryz.underlying3) w l x v hx
attribute [local go_sem] Pa
theorem KM.far{α:Type}{key:α→Value}{w:World}{r:Nat}{l:List (α×Value)}(h:KM key w r l){a:Addr}(hk:r≠a.block)(v:Value):KM key (w.setCell a v) r l:=h.other (Below.heap_setCell w a v r hk)
theorem AZ{α:Type}{key:α→Value}{w w':World}{l:List (α×Value)}(h:cC key w l=w'):Below w.heap.size w w'∧KM key w' w.heap.size l:=by
 subst h;exact⟨nQ key w l,nR key w l⟩
def dp(f:Nat)(pt pv:Nat):Value:=.func (.func f) #[qV pt pv] #[]
def Pb(pt pv k:Nat):List (Int×Value):=[(4,dp 184 pt pv),(9,dp 184 pt pv),(6,dp 185 pt pv),(10,dp 185 pt pv),(13,dp 186 pt pv),(5,dp 186 pt pv),(7,.func (.func 187) #[] #[]),(21,.func (.func 188) #[] #[]),(18,dp 189 pt pv),(19,dp 190 pt pv),(20,dp 191 pt pv),(22,.func (.func 192) #[] #[.pointer (some ⟨k,0,none⟩)]),(23,.func (.func 194) #[] #[.pointer (some ⟨k,0,none⟩)])]
def Pc(pt pv:Nat):List (Int×Value):=[(1,dp 195 pt pv),(2,dp 196 pt pv),(3,dp 197 pt pv),(8,dp 198 pt pv),(11,dp 199 pt pv),(12,dp 199 pt pv),(14,dp 200 pt pv),(15,dp 201 pt pv),(16,dp 202 pt pv),(17,dp 203 pt pv)]
def lX(a b:Int):Value:=.agg #[.int .i64 a,.int .i64 b]
def Pd:List (Int×Value):=[(4,lX 1 2),(9,lX 1 2),(6,lX 2 2),(10,lX 2 2),(17,lX 2 2),(7,lX 0 0),(21,lX 0 0)]
theorem wQ{s:Int}(h0:0<s)(h:s≤23):s=1∨s=2∨s=3∨s=4∨s=5∨s=6∨s=7∨s=8∨s=9∨s=10∨s=11∨s=12∨s=13∨s=14∨s=15∨s=16∨s=17∨s=18∨s=19∨s=20∨s=21∨s=22∨s=23:=by omega
theorem Zy{w:World}{r pt pv k:Nat}(h:KM dC w r (Pb pt pv k)){s:Int}(h0:0<s)(h1:s≤23):∃v,(Instr.lookup 261 (.map (some r)) (.int .i64 s) true).run Tryz.prog w=.ok (.tuple #[v,.bool (decide (s∈[4,9,6,10,13,5,7,21,18,19,20,22,23]))]) w:=by
 rcases wQ h0 h1 with h|h|h|h|h|h|h|h|h|h|h|h|h|h|h|h|h|h|h|h|h|h|h<;>subst h
 all_goals first
  |exact⟨_,(ej Tryz.underlying261 (ij Tryz.underlying3) h _ rfl).1⟩
  |exact⟨.nilFunc,(lY (z:=.nilFunc) Tryz.underlying261 (ij Tryz.underlying3) (fun w=>by kernel_rfl) h _ rfl).1⟩
theorem Zz{w:World}{r:Nat}(h:KM dC w r Pd){s:Int}(h0:0<s)(h1:s≤23)(hp:s∉[4,9,6,10,13,5,7,21,18,19,20,22,23]):(Instr.lookup 264 (.map (some r)) (.int .i64 s) true).run Tryz.prog w=.ok (.tuple #[if s=17 then lX 2 2 else lX 0 0,.bool (decide (s=17))]) w:=by
 rcases wQ h0 h1 with h|h|h|h|h|h|h|h|h|h|h|h|h|h|h|h|h|h|h|h|h|h|h<;>subst h
 all_goals first
  |exact absurd (by decide) hp
  |exact(ej Tryz.underlying264 (ij Tryz.underlying3) h _ rfl).1
  |exact(lY (z:=lX 0 0) Tryz.underlying264 (ij Tryz.underlying3) (fun w=>by kernel_rfl) h _ rfl).1
set_option maxHeartbeats 8000000 in
theorem ZA{w:World}{pt pv:Nat}{T:List Ty}{L:List Lv}(h:bO w pt pv T L){b:Nat}{x:ao}(hx:bg w b x){A:Option Addr}{c:Nat}{l:List ao}(hl:sw w A c l)(f:Nat)(El:∀(i:Nat) (y:ao),l[i]? =some y→df pt pv T L y∧8*bq y≤f∧(y.kind=2→0<y.kids.length))(s:Int)(iQ:0<s)(hs:s≤23):Calls Tryz.prog 144 #[qV pt pv,.pointer (some ⟨b,0,none⟩),.int .i64 s,.slice A l.length c,.bool false] w (fW w (stdCallJ (aj T L) (f+3) x s l false)):=by
 have H:=aa h;have HX:=aa hx;have HL:=aa hl;have HEL:=aa El;have HS:=aa (And.intro iQ hs);clear h hx hl iQ hs El;generalize hrr:stdCallJ (aj T L) (f+3) x s l false=r;have HV:=aa hrr.symm;clear hrr;dsimp only[qV,qC];go_enter Tryz.func144,Tryz.ntmps144;go_upto_region 1 with(fail);generalize az:w.alloc _=w1;obtain⟨ae,x1,aE⟩:=made az;have B1:=aa ae;have X1:=aa x1;have z1:=X1.out.cell;have l1:=X1.out.lt;clear az ae aE x1;go_upto_region 2 with(fail);generalize aU:cC dC w1 _=w2;obtain⟨af,VN⟩:=AZ aU;have M1:=aa (show KM dC w2 w1.heap.size (Pb pt pv w.heap.size)from VN);have B2:=ah B1 af;have X1:=aa (X1.out.grow af);clear af;have z1:=X1.out.cell;have l1:=X1.out.lt;clear aU VN;go_upto_region 3 with(fail);generalize cU:cC dC w2 _=w3;obtain⟨ad,yq⟩:=AZ cU;have M1:=aa (M1.out.later ad);have M2:=aa (show KM dC w3 w2.heap.size (Pc pt pv)from yq);have B3:=ah B2 ad;have X1:=aa (X1.out.grow ad);clear ad;clear cU yq;go_upto_region 4 with(fail);generalize ab:cC dC w3 _=w4;obtain⟨aw,yr⟩:=AZ ab;have M1:=aa (M1.out.later aw);have M2:=aa (M2.out.later aw);have M3:=aa (show KM dC w4 w3.heap.size Pd from yr);have kK:w2.heap.size≠w4.heap.size:=Nat.ne_of_lt M2.out.lt;have B4:=ah B3 aw;have X1:=aa (X1.out.grow aw);clear aw;have iP:=aa (HX.out.later B4.out);clear ab yr;obtain⟨v1,l1⟩:=Zy M1.out HS.out.1 HS.out.2;by_cases hp:s∈[4,9,6,10,13,5,7,21,18,19,20,22,23]
 ·rw[decide_eq_true hp]at l1;have aq:=aa (show r=.error (x.pos,251)by
   rw[HV.out,stdCallJ,decide_eq_true hp];rfl)
  clear HV hp;go_wp2_with fail;refine(eg iP.out 251).mono ?_;rintro e wq ⟨rfl,rfl⟩;exact bj aq.out B4.out rfl
 ·rw[decide_eq_false hp]at l1;have l3:=Zz M3.out HS.out.1 HS.out.2 hp;have HP:=aa hp;clear hp;go_wp2_with fail;refine(da iP.out 251).mono ?_;rintro e wq ⟨rfl,rfl⟩;clear l1;by_cases h17:s=17
  ·subst h17;dsimp only[lX]at l3;go_upto_region 9 with(fail);generalize dA:w4.alloc _=w5;obtain⟨au,x5,iw⟩:=made dA;have X5:=aa x5;have M2:=aa (M2.out.later au);have B5:=ah B4 au;have X1:=aa (X1.out.grow au);clear au;clear dA iw x5 l3 M1 M3;have z5:=X5.out.cell;have l5:=X5.out.lt;have pT:=aa (HX.out.later B5.out);rcases l with _|⟨y,_|⟨z,_|⟨z2,l⟩⟩⟩
   ·exact Gv
   ·exact Gv
   ·obtain⟨g,o,yb,rfl,hnc,yt,hyt⟩:=HL.out 0 _ rfl;obtain⟨g2,o2,zb,vm,agE,yw,hzt⟩:=HL.out 1 _ rfl;cases vm;have HY:=aa (hyt.later B5.out);have HZ:=aa (hzt.later B5.out);have HE:=aa (HEL.out 0 _ rfl);have jC:=aa (HEL.out 1 _ rfl);have hyp:=bo yt B5.out;have agF:=bo yw B5.out;rw[Nat.add_zero]at hyp;simp only[List.length_cons,List.length_nil]at hnc;clear yt yw hyt hzt agE;go_wp2_with fail;refine(da pT.out 255).mono ?_;rintro e wq ⟨rfl,rfl⟩;have l2:=(ej Tryz.underlying263 (ij Tryz.underlying3) M2.out 17 rfl).2;dsimp only[dp,qV,qC,dC]at l2;have hc:=Zo (H.out.later B5.out) (n:=2) (by omega) hnc hyp agF HY.out HZ.out HE.out.2.2 jC.out.1 (f+1) (by have:=jC.out.2.1;omega);have hv:r=_:=HV.out.trans (stdCallJ.eq_2 ..);change _=(_:Jr Int)at hv;have dE:Calls Tryz.prog 203 #[qV pt pv,.slice (some ⟨g,o,none⟩) 2 c] w5 (fW w5 r):=by rw[hv];exact hc
    have bJ:=aa dE;clear hc dE hv HV;dsimp only[qV,qC]at bJ;cases r with
    |error q=>
     obtain⟨p,cc⟩:=q;go_wp2_with fail;refine bJ.out.mono ?_;rintro e w8 ⟨aB,rfl⟩;exact bj rfl (bb B5.out aB) rfl
    |ok v=>
     go_wp2_with fail;refine bJ.out.mono ?_;rintro e w8 ⟨aB,rfl,_⟩;go_wp2_with fail;go_ret;exact⟨bb B5.out aB,rfl,trivial⟩
   ·have hl3:¬((l.length:Int)+1+1+1≤2):=by omega
    exact Gv
  ·rw[if_neg h17,decide_eq_false h17]at l3;have HN:=aa h17;clear h17;dsimp only[lX]at l3;go_upto_region 7 with(fail);generalize dA:w4.alloc _=w5;obtain⟨au,x5,iw⟩:=made dA;have X5:=aa x5;have M2:=aa (M2.out.later au);have B5:=ah B4 au;have X1:=aa (X1.out.grow au);clear au;clear dA iw x5 l3 M1 M3;have z5:=X5.out.cell;have f5:=X5.out.frozen;have l5:=X5.out.lt;go_upto_region 9 with(fail);generalize aH:(w5.setCell _ _).setCell _ _=w6;have hgt:=B4.out.size;have B6:=aa (show Below w.heap.size w w6 from aH▸(B5.out.setCell hgt _).setCell hgt _);have X6:=aa (show Bx w4.heap.size #[.int .i64 1,.int .i64 1] 253 w6 from aH▸(X5.out.set 0 _).set 1 _);have M2:=aa (show KM dC w6 w2.heap.size (Pc pt pv)from aH▸(M2.out.far kK _).far kK _);clear aH B5 X5 z5 l5 f5;have z6:=X6.out.cell;have l6:=X6.out.lt;have dV:=aa (HX.out.later B6.out);rcases l with _|⟨y,_|⟨z,l⟩⟩
   ·exact Pe
   ·obtain⟨g,o,yb,rfl,hnc,yt,hyt⟩:=HL.out 0 _ rfl;have HY:=aa (hyt.later B6.out);have HE:=aa (HEL.out 0 _ rfl);have hyp:=bo yt B6.out;rw[Nat.add_zero]at hyp;simp only[List.length_cons,List.length_nil]at hnc;clear yt hyt;go_wp2_with fail;refine(da dV.out 255).mono ?_;rintro e wq ⟨rfl,rfl⟩;rcases wQ HS.out.1 HS.out.2 with h|h|h|h|h|h|h|h|h|h|h|h|h|h|h|h|h|h|h|h|h|h|h<;>subst h
    all_goals first|exact absurd (by decide) HP.out|exact absurd rfl HN.out|skip
    ·have l2:=(ej Tryz.underlying263 (ij Tryz.underlying3) M2.out 1 rfl).2;dsimp only[dp,qV,qC,dC]at l2;have hc:=Zf (H.out.later B6.out) (n:=1) (by omega) hnc hyp HY.out HE.out.1 f (by have:=HE.out.2.1;omega);have hv:r=_:=HV.out.trans (stdCallJ.eq_2 ..);change _=(_:Jr Int)at hv;have dE:Calls Tryz.prog 195 #[qV pt pv,.slice (some ⟨g,o,none⟩) 1 c] w6 (fW w6 r):=by rw[hv];exact hc
     have bJ:=aa dE;clear hc dE hv HV;dsimp only[qV,qC]at bJ;cases r with
     |error q=>
      exact pC
     |ok v=>
      exact pD
    ·have l2:=(ej Tryz.underlying263 (ij Tryz.underlying3) M2.out 2 rfl).2;dsimp only[dp,qV,qC,dC]at l2;have hc:=Zi (H.out.later B6.out) (n:=1) (by omega) hnc hyp HY.out HE.out.1 (f+1) (by have:=HE.out.2.1;omega);have hv:r=_:=HV.out.trans (stdCallJ.eq_2 ..);change _=(_:Jr Int)at hv;have dE:Calls Tryz.prog 196 #[qV pt pv,.slice (some ⟨g,o,none⟩) 1 c] w6 (fW w6 r):=by rw[hv];exact hc
     have bJ:=aa dE;clear hc dE hv HV;dsimp only[qV,qC]at bJ;cases r with
     |error q=>
      exact pC
     |ok v=>
      exact pD
    ·have l2:=(ej Tryz.underlying263 (ij Tryz.underlying3) M2.out 3 rfl).2;dsimp only[dp,qV,qC,dC]at l2;have hc:=Zg (H.out.later B6.out) (n:=1) (by omega) hnc hyp HY.out HE.out.1 f (by have:=HE.out.2.1;omega);have hv:r=_:=HV.out.trans (stdCallJ.eq_2 ..);change _=(_:Jr Int)at hv;have dE:Calls Tryz.prog 197 #[qV pt pv,.slice (some ⟨g,o,none⟩) 1 c] w6 (fW w6 r):=by rw[hv];exact hc
     have bJ:=aa dE;clear hc dE hv HV;dsimp only[qV,qC]at bJ;cases r with
     |error q=>
      exact pC
     |ok v=>
      exact pD
    ·have l2:=(ej Tryz.underlying263 (ij Tryz.underlying3) M2.out 8 rfl).2;dsimp only[dp,qV,qC,dC]at l2;have hc:=Zx (H.out.later B6.out) (n:=1) (by omega) hnc hyp HY.out HE.out.1 (f+2) (by have:=HE.out.2.1;omega);have hv:r=_:=HV.out.trans (stdCallJ.eq_2 ..);change _=(_:Jr Int)at hv;have dE:Calls Tryz.prog 198 #[qV pt pv,.slice (some ⟨g,o,none⟩) 1 c] w6 (fW w6 r):=by rw[hv];exact hc
     have bJ:=aa dE;clear hc dE hv HV;dsimp only[qV,qC]at bJ;cases r with
     |error q=>
      exact pC
     |ok v=>
      exact pD
    ·have l2:=(ej Tryz.underlying263 (ij Tryz.underlying3) M2.out 11 rfl).2;dsimp only[dp,qV,qC,dC]at l2;have hc:=OG (H.out.later B6.out) (n:=1) (by omega) hnc hyp HY.out HE.out.2.2;have hv:r=_:=HV.out.trans (stdCallJ.eq_2 ..);change _=(_:Jr Int)at hv;have dE:Calls Tryz.prog 199 #[qV pt pv,.slice (some ⟨g,o,none⟩) 1 c] w6 (fW w6 r):=by rw[hv];exact hc
     have bJ:=aa dE;clear hc dE hv HV;dsimp only[qV,qC]at bJ;cases r with
     |error q=>
      exact pC
     |ok v=>
      exact pD
    ·have l2:=(ej Tryz.underlying263 (ij Tryz.underlying3) M2.out 12 rfl).2;dsimp only[dp,qV,qC,dC]at l2;have hc:=OG (H.out.later B6.out) (n:=1) (by omega) hnc hyp HY.out HE.out.2.2;have hv:r=_:=HV.out.trans (stdCallJ.eq_2 ..);change _=(_:Jr Int)at hv;have dE:Calls Tryz.prog 199 #[qV pt pv,.slice (some ⟨g,o,none⟩) 1 c] w6 (fW w6 r):=by rw[hv];exact hc
     have bJ:=aa dE;clear hc dE hv HV;dsimp only[qV,qC]at bJ;cases r with
     |error q=>
      exact pC
     |ok v=>
      exact pD
    ·have l2:=(ej Tryz.underlying263 (ij Tryz.underlying3) M2.out 14 rfl).2;dsimp only[dp,qV,qC,dC]at l2;have hc:=Zh (H.out.later B6.out) (n:=1) (by omega) hnc hyp HY.out HE.out.1 f (by have:=HE.out.2.1;omega);have hv:r=_:=HV.out.trans (stdCallJ.eq_2 ..);change _=(_:Jr Int)at hv;have dE:Calls Tryz.prog 200 #[qV pt pv,.slice (some ⟨g,o,none⟩) 1 c] w6 (fW w6 r):=by rw[hv];exact hc
     have bJ:=aa dE;clear hc dE hv HV;dsimp only[qV,qC]at bJ;cases r with
     |error q=>
      exact pC
     |ok v=>
      exact pD
    ·have l2:=(ej Tryz.underlying263 (ij Tryz.underlying3) M2.out 15 rfl).2;dsimp only[dp,qV,qC,dC]at l2;have hc:=Zj (H.out.later B6.out) (n:=1) (by omega) hnc hyp HY.out HE.out.1 (f+1) (by have:=HE.out.2.1;omega);have hv:r=_:=HV.out.trans (stdCallJ.eq_2 ..);change _=(_:Jr Int)at hv;have dE:Calls Tryz.prog 201 #[qV pt pv,.slice (some ⟨g,o,none⟩) 1 c] w6 (fW w6 r):=by rw[hv];exact hc
     have bJ:=aa dE;clear hc dE hv HV;dsimp only[qV,qC]at bJ;cases r with
     |error q=>
      exact pC
     |ok v=>
      exact pD
    ·have l2:=(ej Tryz.underlying263 (ij Tryz.underlying3) M2.out 16 rfl).2;dsimp only[dp,qV,qC,dC]at l2;have hc:=Zk (H.out.later B6.out) (n:=1) (by omega) hnc hyp HY.out HE.out.2.2 HE.out.1 (f+1) (by have:=HE.out.2.1;omega);have hv:r=_:=HV.out.trans (stdCallJ.eq_2 ..);change _=(_:Jr Int)at hv;have dE:Calls Tryz.prog 202 #[qV pt pv,.slice (some ⟨g,o,none⟩) 1 c] w6 (fW w6 r):=by rw[hv];exact hc
     have bJ:=aa dE;clear hc dE hv HV;dsimp only[qV,qC]at bJ;cases r with
     |error q=>
      exact pC
     |ok v=>
      exact pD
   ·have hl3:¬((l.length:Int)+1+1≤1):=by omega
    exact Pe
theorem Gz{t n:Int}(h: -1000000≤n∧n≤1000000):Vw (cR t n):=by
 unfold cR;split
 ·unfold eQ;split
  ·rename_i h;exact h
  ·exact trivial
 split
 ·split
  ·exact trivial
  split
  ·exact trivial
  ·exact trivial
 split
 ·split
  ·rename_i h1 h2;show n.toNat<256;omega
  ·exact trivial
 split
 ·exact h
 ·exact trivial
def y0:ao:=.mk 0 (0,0) [] 0 []
def Pk(V:ea)(f:Nat)(x:ao)(l:List ao)(t s:Int)(r:Int×Int×Bool)(bt:Int):Jr Jd:=
 if s=0∨s=8 then .ok ⟨t,.none,0⟩
 else if s=11 then .ok ⟨t,cR bt r.2.1,0⟩
 else if s=12 then .ok ⟨t,cR bt r.1,0⟩
 else if s=16 then sizedJ V f (l.headD y0) >>= fun u=>.ok ⟨t,.whole (aN V.T u).1,0⟩
 else exprJ V f (l.getLastD y0) >>= fun j=>match aR j.val with
  |none=>.ok ⟨t,.none,0⟩
  |some n=>aI (decide (r.1≤jq s n)&&decide (jq s n≤r.2.1)) x 254 >>= fun _=>.ok ⟨t,cR bt (jq s n),0⟩
theorem ZD(V:ea)(f:Nat)(x:ao):funJ V (f+1) x=(callJ V f (kid x 0) (x.kids.drop 1) false >>= fun t=>Pk V f x (x.kids.drop 1) t (cG V (kid x 0)) (rangeT V.T t) (aP V.T t)):=by
 rw[funJ.eq_2];rfl
theorem ZE{V:ea}{f:Nat}{x:ao}{s:Int}{l:List ao}{t:Int}(h:stdCallJ V f x s l false=.ok t)(h0:0<s)(h1:s≤23):1≤l.length:=by
 cases f with
 |zero=>exact absurd h (by rw[stdCallJ.eq_1];exact fun h=>nomatch h)
 |succ f=>
  cases l with
  |cons y l=>simp
  |nil=>
   exfalso;rw[stdCallJ.eq_2]at h;rcases wQ h0 h1 with h|h|h|h|h|h|h|h|h|h|h|h|h|h|h|h|h|h|h|h|h|h|h<;>subst h
   all_goals exact nomatch h
theorem ZF{V:ea}{f:Nat}{x:ao}{l:List ao}{t:Int}(h:callJ V f x l false=.ok t)(h0:0<cG V x)(h1:cG V x≤23):1≤l.length:=by
 cases f with
 |zero=>exact absurd h (by rw[callJ.eq_1];exact fun h=>nomatch h)
 |succ f=>
  rw[callJ.eq_2,if_pos h0]at h;exact ZE h h0 h1
@[go_sem] theorem ahO(a0 a1 a2:Value)(w:World):(Instr.field 29 (.agg #[a0,a1,a2]) 1).run Tryz.prog w=.ok a1 w:=by kernel_rfl
set_option maxHeartbeats 8000000 in
theorem ZG{w:World}{pt pv:Nat}{T:List Ty}{L:List Lv}(h:bO w pt pv T L){b:Nat}{x:ao}(hx:bg w b x)(hk:0<x.kids.length)(hn:(kid x 0).kind=2→0<(kid x 0).kids.length)(hlen:x.kids.length≤1000000)(g:Nat)(E:df pt pv T L (kid x 0))(hf:8*bq (kid x 0)≤g)(El:∀(i:Nat) (y:ao),(x.kids.drop 1)[i]? =some y→df pt pv T L y∧8*bq y+i≤g∧(y.kind=2→0<y.kids.length))(hs:0≤cG (aj T L) (kid x 0)∧cG (aj T L) (kid x 0)≤23)(SZ:∀u,0≤(aN T u).1∧(aN T u).1≤65535):Calls Tryz.prog 70 #[qV pt pv,.pointer (some ⟨b,0,none⟩)] w (jN w (funJ (aj T L) (g+4+1) x)):=by
 have H:=aa h;have HX:=aa hx;have HK:=aa hk;have HN:=aa hn;have HLN:=aa hlen;have HEL:=aa El;have yD:=aa (And.intro E hf);have HS:=aa hs;have HSZ:=aa SZ;generalize hrr:funJ (aj T L) (g+4+1) x=r;have HV:=aa (hrr.symm.trans (ZD (aj T L) (g+4) x));have VR:=aa (fun t (h:callJ (aj T L) (g+4) (kid x 0) (x.kids.drop 1) false=.ok t) (h0:0<cG (aj T L) (kid x 0))=>ZF h h0 hs.2);clear hrr h hx hk hn hlen El E hf SZ hs;dsimp only[qV,qC];go_enter Tryz.func70,Tryz.ntmps70;go_upto_region 1 with(fail);generalize az:w.alloc _=w1;obtain⟨ae,x1,aE⟩:=made az;generalize aU:w1.alloc _=w2;obtain⟨af,x2,bu⟩:=made aU;rw[aE]at x2;have B2:=aa (bb ae af);have X1:=aa (x1.grow af);have X2:=aa x2;have z1:=X1.out.cell;have l1:=X1.out.lt;clear az ae aE x1 aU af bu x2;have vw:=X2.out.lt;obtain⟨Ax,cx,k0x,k1x,k2x,k3x,k4x,hkidx⟩:=(HX.out.later B2.out).cells;have lbx:=aQ k0x;have KIDx:=aa hkidx;clear hkidx;obtain⟨gu,ou,yu,rfl,hcu,hpu,htu⟩:=KIDx.out 0 HK.out;have lgu:=aQ hpu;have h0:(0:Int)<(x.kids.length:Int):=by have:=HK.out;omega
 have Kc:(1:Int)≤(x.kids.length:Int):=by have:=HK.out;omega
 have gW:(x.kids.length:Int)≤cx:=by omega
 go_upto_region 1 with(fail);go_cut [5] (fun u w'=>∃o' c':Nat,u=.slice (some ⟨gu,o',none⟩) (x.kids.length-1) c'∧x.kids.length-1≤c'∧(cx≠1→o'=ou+1)∧w2=w');case first=>
  by_cases Kd:cx=1
  ·subst Kd;go_wp2_with fail;go_meet;exact⟨ou,0,by rw[show x.kids.length-1=0 by omega],by omega,fun h=>absurd rfl h,rfl⟩
  ·go_wp2_with fail;go_meet;exact⟨ou+1,cx-1,rfl,by omega,fun _=>rfl,rfl⟩
 case rest=>
 obtain⟨o',c',rfl,hc',ho',rfl⟩:=hcut;have HLS:=aa (show sw w2 (some ⟨gu,o',none⟩) c' (x.kids.drop 1)from fun i y hi=>by
  have DD:i+1<x.kids.length:=by
   have:=(List.getElem?_eq_some_iff.1 hi).1;rw[List.length_drop]at this;omega
  obtain⟨g2,o2,b2,hA,hcc,hcell,ht⟩:=KIDx.out (i+1) DD;cases hA;refine⟨gu,o',b2,rfl,by rw[List.length_drop];exact hc',?_,?_⟩
  ·rw[ho' (by omega),Nat.add_assoc,Nat.add_comm 1 i];exact hcell
  ·rw[List.getElem?_drop,Nat.add_comm 1 i]at hi;have:y=kid x (i+1):=by
    unfold kid;rw[List.getD_eq_getElem?_getD,hi];rfl
   rw[this];exact ht)
 have HLL:=aa (show(x.kids.drop 1).length=x.kids.length-1 from List.length_drop ..);have th:=aa htu;rw[show x.kids.length-1=(x.kids.drop 1).length from HLL.out.symm]at hc' ⊢;generalize x.kids.drop 1=l at *;have HC':=aa hc';have HC:=aa (fun w' (hb:Below w2.heap.size w2 w')=>Zt ((H.out.later B2.out).later hb) (th.out.later hb) HN.out (HLS.out.later hb) (by have:=HLL.out;have:=HLN.out;omega) (g+3) yD.out.1 (by have:=yD.out.2;omega) (fun i y hi=>⟨(HEL.out i y hi).1,by have:=(HEL.out i y hi).2.1;omega⟩) (fun w b A c hj ht hl h0=>ZA hj ht hl g (fun i y hi=>⟨(HEL.out i y hi).1,by have:=(HEL.out i y hi).2.1;omega,(HEL.out i y hi).2.2⟩) _ h0 HS.out.2));have HSTD:=aa (fun w (h:bO w pt pv T L) yb (ht:bg w yb (kid x 0))=>Ob h ht HN.out);clear ho' Kc gW hc' htu yD HN;rw[Nat.add_zero]at hpu;generalize callJ (aj T L) (g+4) (kid x 0) l false=rc at *;generalize cG (aj T L) (kid x 0)=s at *;dsimp only[qV,qC]at HC HSTD;cases rc with
 |error q=>
  obtain⟨p,c⟩:=q;have ar:=aa (show r=.error (p,c)from HV.out);go_upto_region 2 with(fail);refine bh [11] [⟨10,6,ei,29⟩] (by kernel_rfl) ?_;refine FQ (Below.refl _ _) [0,1,2,3,4,5,6,7] ?_;refine FC 8 (cr bN) (Below.refl _ _) (fun w4 ab=>(HC.out _ ab).mono ?_);rintro e w3 ⟨ad,rfl⟩;exact bj (fn:=Tryz.f70) ar.out (bb (bb B2.out ab) ad) rfl
 |ok t=>
 have ar:=aa (show r=Pk (aj T L) (g+4) x l t s (rangeT T t) (aP T t)from HV.out);have Kh:=aa (VR.out t rfl);have HRG:=aa (fun w (h:cF w pt T)=>uA h t);have HBS:=aa (fun w (h:cF w pt T)=>mT h t);have HRO:=aa (Gs H.out.tab.ok t);generalize rangeT T t=rg at *;generalize aP T t=bt at *;obtain⟨lo,hi,od⟩:=rg;clear HV VR;dsimp only at HRG;go_upto_region 2 with(fail);refine bh [11] [⟨10,6,ei,29⟩] (by kernel_rfl) ?_;refine FQ (Below.refl _ _) [0,1,2,3,4,5,6,7] ?_;refine FC 8 (cr bN) (Below.refl _ _) (fun w4 ab=>(HC.out _ ab).mono ?_);rintro e w3 ⟨ad,rfl,_⟩;refine⟨ad,?_⟩;have C3:=aa (bb ab ad);clear ad ab HC;refine FQ C3.out [9] ?_;refine fU 11 (by kernel_rfl) bN (by kernel_rfl) C3.out rfl rfl rfl rfl (fun _=>rfl) (fun _=>rfl) info29 rfl (ig ⟨t,.none,0⟩) (fun b6 w6 aD x6 aH _=>?_);refine FA ?_;have J6:=aa (show Bx b6 #[.int .i64 t,.nilIface,.int .u8 0] 29 w6 from x6);have vn:=aa aD;have D6:=aa aH;have B6:=ah B2 aH;have X1:=aa (X1.out.grow aH);have X2:=aa (X2.out.grow aH);clear aH;have z1:=X1.out.cell;have l1:=X1.out.lt;have z6:=J6.out.cell;have l6:=J6.out.lt;clear x6 aD C3;go_wp2_with fail;refine(HRG.out _ (H.out.later B6.out).tab).mono ?_;rintro e w7 ⟨rfl,aC⟩;have D7:=ah D6 aC;have B7:=ah B6 aC;have X1:=aa (X1.out.grow aC);have X2:=aa (X2.out.grow aC);have J6:=aa (J6.out.grow aC);clear aC;have z1:=X1.out.cell;have l1:=X1.out.lt;have z6:=J6.out.cell;have l6:=J6.out.lt;clear D6;go_wp2_with fail;refine(HBS.out _ (H.out.later B7.out).tab).mono ?_;rintro e w8 ⟨rfl,aB⟩;have D8:=ah D7 aB;have B8:=ah B7 aB;have X1:=aa (X1.out.grow aB);have X2:=aa (X2.out.grow aB);have J6:=aa (J6.out.grow aB);clear aB;have z1:=X1.out.cell;have l1:=X1.out.lt;have z6:=J6.out.cell;have l6:=J6.out.lt;clear D7 HRG HBS k0x k1x k2x k3x k4x hpu lbx lgu;obtain⟨Az,cz,k0z,k1z,k2z,k3z,k4z,hkidz⟩:=(HX.out.later B8.out).cells;have lbz:=aQ k0z;have KIDz:=aa hkidz;clear hkidz;obtain⟨gz,oz,yz,rfl,hcz,hpz,htz⟩:=KIDz.out 0 HK.out;have lgz:=aQ hpz;have HTZ:=aa htz;rw[Nat.add_zero]at hpz;clear htz;go_upto_region 5 with(fail);refine bh [8] [] (by kernel_rfl) ?_;refine FQ (Below.refl _ _) [0,1,2,3,4,5,6] ?_;refine FC 7 aG (Below.refl _ _) (fun w4 ab=>(HSTD.out _ (H.out.later (bb B8.out ab)) _ (HTZ.out.later ab)).mono ?_);rintro e w9 ⟨rfl,br⟩;refine⟨br,?_⟩;have C9:=aa (bb ab br);clear br ab HSTD;refine cV 8 (by kernel_rfl) (by kernel_rfl) C9.out (fun wa hwa=>?_);refine FA ?_;have hba:=bb C9.out hwa;have Da:=ah D8 hba;clear C9 hwa D8 k0z k1z k2z k3z k4z lbz hpz lgz;have Ba:=ah B8 hba;have X1:=aa (X1.out.grow hba);have X2:=aa (X2.out.grow hba);have J6:=aa (J6.out.grow hba);clear hba;have z1:=X1.out.cell;have l1:=X1.out.lt;have z6:=J6.out.cell;have f6:=J6.out.frozen;have l6:=J6.out.lt;have z2:=X2.out.cell;have f2:=X2.out.frozen;have l2:=X2.out.lt;have HXa:=aa (HX.out.later Ba.out);have NXa:=X2.out.lt;have DE:w.heap.size+1≠b6:=Nat.ne_of_lt (Nat.lt_of_lt_of_le vw vn.out);have DF:w.heap.size≤b6:=Nat.le_trans (Nat.le_of_lt (Nat.lt_trans (Nat.lt_succ_self _) vw)) vn.out;by_cases h0:s=0
 ·subst h0;exact Pl
 by_cases h8:s=8
 ·subst h8;exact Pl
 have h08:¬(s=0∨s=8):=by omega
 have aA:=aa (ar.out.trans (if_neg h08));have d0:=beq_eq_false_iff_ne.2 h0;have d8:=beq_eq_false_iff_ne.2 h8;have VS:=aa (show 0<s by have:=HS.out;omega);clear ar h0 h8 h08;by_cases h11:s=11
 ·subst h11;have aM:=aa (show r=.ok ⟨t,cR bt hi,0⟩from aA.out);clear aA;go_wp2_with fail;refine(GA bt hi _).mono ?_;rintro e wb ⟨rfl,rfl⟩;have VW:=aa (show Vw (cR bt hi)from Gz ⟨HRO.out.2.2.1,HRO.out.2.2.2⟩);generalize cR bt hi=v at *;go_wp2_with fail;exact ef rfl ⟨t,v,0⟩ (X2.out.far DE _) (Ba.out.setCell DF _) (by omega) rfl rfl aM.out VW.out
 have d11:=beq_eq_false_iff_ne.2 h11;have aM:=aa (aA.out.trans (if_neg h11));clear aA h11;by_cases h12:s=12
 ·subst h12;have bf:=aa (show r=.ok ⟨t,cR bt lo,0⟩from aM.out);clear aM;go_wp2_with fail;refine(GA bt lo _).mono ?_;rintro e wb ⟨rfl,rfl⟩;have VW:=aa (show Vw (cR bt lo)from Gz ⟨HRO.out.1,HRO.out.2.1⟩);generalize cR bt lo=v at *;go_wp2_with fail;exact ef rfl ⟨t,v,0⟩ (X2.out.far DE _) (Ba.out.setCell DF _) (by omega) rfl rfl bf.out VW.out
 have d12:=beq_eq_false_iff_ne.2 h12;have bf:=aa (aM.out.trans (if_neg h12));clear aM h12;have pZ:=Kh.out VS.out;by_cases h16:s=16
 ·subst h16;have bz:=aa (bf.out.trans (if_pos rfl));clear bf;obtain⟨y,l',rfl⟩:∃y l',l=y::l':=by
   cases l with
   |nil=>exact absurd pZ (by simp)
   |cons y l'=>exact⟨y,l',rfl⟩
  obtain⟨gy,oy,yb,hA,hcy,hyc,hyt⟩:=(HLS.out.later Da.out) 0 y rfl;cases hA;have HY:=aa hyt;have lgy:=aQ hyc;have HEY:=aa (HEL.out 0 y rfl);rw[Nat.add_zero]at hyc;clear hyt;have HC:=aa (fun w' (hb:Below wa.heap.size wa w')=>OE ((H.out.later Ba.out).later hb) (HY.out.later hb) HEY.out.2.2 HEY.out.1 (g+3) (by have:=HEY.out.2.1;omega));dsimp only[List.headD_cons]at bz;generalize sizedJ (aj T L) (g+3+1) y=rs at HC bz;dsimp only[qV,qC]at HC;cases rs with
  |error q=>
   obtain⟨p,c⟩:=q;have cH:=aa (show r=.error (p,c)from bz.out);go_upto_region 19 with(fail);refine bh [11] [] (by kernel_rfl) ?_;refine FQ (Below.refl _ _) [0,1,2,3,4,5] ?_;refine FC 6 aG (Below.refl _ _) (fun w4 ab=>(HC.out _ ab).mono ?_);exact Pm
  |ok u=>
   have cH:=aa (show r=.ok ⟨t,.whole (aN T u).1,0⟩from bz.out);have HSU:=aa (fun w (h:cF w pt T)=>OI h u);have VW:=aa (show Vw (.whole (aN T u).1)from⟨by have:=HSZ.out u;omega,(HSZ.out u).2⟩);generalize aN T u=sz at *;go_upto_region 19 with(fail);refine bh [11] [] (by kernel_rfl) ?_;refine FQ (Below.refl _ _) [0,1,2,3,4,5] ?_;refine FC 6 aG (Below.refl _ _) (fun w4 ab=>(HC.out _ ab).mono ?_);rintro e w3 ⟨ad,rfl,_⟩;refine⟨ad,?_⟩;have C3:=aa (bb ab ad);clear ad ab HC;refine FC 7 aG C3.out (fun w4 ab=>(HSU.out _ (H.out.later (bb Ba.out (bb C3.out ab))).tab).mono ?_);rintro e w5 ⟨rfl,au⟩;refine⟨au,?_⟩;have C5:=aa (bb C3.out (bb ab au));clear au ab;refine FS aG C5.out [8] ?_;refine FQ C5.out [9,10] ?_;refine cV 11 (by kernel_rfl) (by kernel_rfl) C5.out (fun wq hwq=>?_);refine FA ?_;have hbq:=bb C5.out hwq;have Bq:=ah Ba hbq;have X1:=aa (X1.out.grow hbq);have X2:=aa (X2.out.grow hbq);have J6:=aa (J6.out.grow hbq);clear hbq;have z6:=J6.out.cell;have f6:=J6.out.frozen;have l6:=J6.out.lt;have z2:=X2.out.cell;have f2:=X2.out.frozen;have l2:=X2.out.lt;have NXq:=X2.out.lt;go_wp2_with fail;exact ef rfl ⟨t,.whole sz.1,0⟩ (X2.out.far DE _) (Bq.out.setCell DF _) (by omega) rfl rfl cH.out VW.out
 have d16:=beq_eq_false_iff_ne.2 h16;have bz:=aa (bf.out.trans (if_neg h16));clear bf h16;obtain⟨i,yE⟩:∃i,l.length=i+1:=⟨l.length-1,by omega⟩;have hyi:l[i]? =some (l.getLastD y0):=by
  rw[List.getLastD_eq_getLast?,List.getLast?_eq_getElem?,yE,Nat.add_sub_cancel,List.getElem?_eq_getElem (by omega)];rfl
 generalize l.getLastD y0=y at *;obtain⟨gy,oy,yb,hA,hcy,hyc,hyt⟩:=(HLS.out.later Da.out) i y hyi;cases hA;have HY:=aa hyt;have lgy:=aQ hyc;have HEY:=aa (HEL.out i y hyi);have HLI:=aa (show i+1≤1000000 by have:=HLL.out;have:=HLN.out;omega);have hiz:wrap64 ((l.length:Int)-1)=(i:Int):=by rw[Go.IntWalk.wrap64_in _ (by have:=HLI.out;omega)];omega
 have hilt:(i:Int)<(l.length:Int):=by omega
 clear hyt hyi;have HC:=aa (fun w' (hb:Below wa.heap.size wa w')=>HEY.out.1 (g+4) (by have:=HEY.out.2.1;omega) w' yb ((H.out.later Ba.out).later hb) (HY.out.later hb));generalize exprJ (aj T L) (g+4) y=ry at HC bz;dsimp only[qV,qC]at HC;clear pZ yE hcy;cases ry with
 |error q=>
  obtain⟨p,c⟩:=q;have cH:=aa (show r=.error (p,c)from bz.out);go_upto_region 7 with(fail);refine bh [13] [] (by kernel_rfl) ?_;refine FQ (Below.refl _ _) [0,1,2,3,4,5,6] ?_;refine FC 7 aG (Below.refl _ _) (fun w4 ab=>(HC.out _ ab).mono ?_);exact Pm
 |ok j=>
 obtain⟨jt,jv,ji⟩:=j;have cH:=aa (show r=(match aR jv with
  |none=>.ok ⟨t,.none,0⟩
  |some n=>aI (decide (lo≤jq s n)&&decide (jq s n≤hi)) x 254 >>= fun _=>.ok ⟨t,cR bt (jq s n),0⟩)from bz.out)
 clear bz;go_upto_region 7 with(fail);refine bh [13] [] (by kernel_rfl) ?_;refine FQ (Below.refl _ _) [0,1,2,3,4,5,6] ?_;refine FC 7 aG (Below.refl _ _) (fun w4 ab=>(HC.out _ ab).mono ?_);rintro e w3 ⟨ad,rfl,hvw⟩;refine⟨ad,?_⟩;have C3:=aa (bb ab ad);have VW:=aa hvw;have HNB:=aa (fu hvw);clear ad ab HC hvw;dsimp only[bU,kJ];refine FQ C3.out [8] ?_;refine FC 9 aG C3.out (fun w4 ab=>(eH jv VW.out _).mono ?_);rintro e w5 ⟨rfl,au⟩;refine⟨au,?_⟩;have C5:=aa (bb C3.out (bb ab au));clear au ab;refine FS aG C5.out [10] ?_;refine FQ C5.out [11,12] ?_;refine cV 13 (by kernel_rfl) (by kernel_rfl) C5.out (fun wq hwq=>?_);refine FA ?_;have hbq:=bb C5.out hwq;have Bq:=ah Ba hbq;have X1:=aa (X1.out.grow hbq);have X2:=aa (X2.out.grow hbq);have J6:=aa (J6.out.grow hbq);clear hbq;have z6:=J6.out.cell;have f6:=J6.out.frozen;have l6:=J6.out.lt;have z2:=X2.out.cell;have f2:=X2.out.frozen;have l2:=X2.out.lt;have NXq:=X2.out.lt;have HXq:=aa (HX.out.later Bq.out);clear C3 C5 hwq hiz hilt;cases hnv:aR jv with
 |none=>
  have dv:=aa (show r=.ok ⟨t,.none,0⟩by have:=cH.out;rw[hnv]at this;exact this);clear HNB cH hnv;go_wp2_with fail;exact ef rfl ⟨t,.none,0⟩ X2.out Bq.out (by omega) rfl rfl dv.out trivial
 |some n=>
  have dv:=aa (show r=(aI (decide (lo≤jq s n)&&decide (jq s n≤hi)) x 254 >>= fun _=>.ok ⟨t,cR bt (jq s n),0⟩)by have:=cH.out;rw[hnv]at this;exact this);have HN1:=aa (HNB.out n hnv);clear HNB cH hnv;go_wp2_with fail;refine(YU s n HN1.out _).mono ?_;rintro e wz ⟨rfl,rfl⟩;generalize jq s n=m at *;by_cases hlo:lo≤m;case neg=>
   have HVa:=aa (show r=.error (x.pos,254)by have:=dv.out;rw[decide_eq_false hlo]at this;exact this);go_wp2_with fail;refine(eg HXq.out 254).mono ?_;rintro e wq ⟨rfl,rfl⟩;exact bj HVa.out Bq.out rfl
  by_cases hhi:m≤hi;case neg=>
   have HVa:=aa (show r=.error (x.pos,254)by have:=dv.out;rw[decide_eq_true hlo,decide_eq_false hhi]at this;exact this);go_wp2_with fail;refine(lq ?hq HXq.out 254).mono ?_;case hq=>first|with_reducible rfl|(simp only[decide_eq_false_iff_not];omega)
   rintro e wq ⟨rfl,rfl⟩;exact bj HVa.out Bq.out rfl
  have HVa:=aa (show r=.ok ⟨t,cR bt m,0⟩by have:=dv.out;rw[decide_eq_true hlo,decide_eq_true hhi]at this;exact this);have VWm:=aa (show Vw (cR bt m)from Gz ⟨by have:=HRO.out;omega,by have:=HRO.out;omega⟩);clear dv;go_wp2_with fail;refine(da HXq.out 254).mono ?_;rintro e wq ⟨rfl,rfl⟩;clear hlo hhi;go_wp2_with fail;refine(GA bt m _).mono ?_;rintro e wb ⟨rfl,rfl⟩;generalize cR bt m=v at *;go_wp2_with fail;exact ef rfl ⟨t,v,0⟩ (X2.out.far DE _) (Bq.out.setCell DF _) (by omega) rfl rfl HVa.out VWm.out
end Go.Proofs.YtlpombjidhloiaaGreat
