/- types. slices. Condition: what each theorem says. -/
import Derived.Test.YtlpombjidhloiaaGreatBak
namespace Go.Proofs.YtlpombjidhloiaaGreat
open Go.RowKit
set_option maxRecDepth 100000
attribute [local go_sem ↓] Go.wp_at_zero Go.wp_at_succ
theorem adb(T:List Ty)(dst fr:Int)(v:aL)(hv:Vw v):nU T dst fr v=
 if aJ T dst∈([0,11,5,6,7]:List Int)then false
 else if(aR v).isSome&&(rangeT T dst).2.2&&(decide (aJ T fr=6)||bH T fr)then
  decide ((rangeT T dst).1≤(aR v).getD 0)&&decide ((aR v).getD 0≤(rangeT T dst).2.1)&&((ey T dst fr||(bE T dst&&bE T fr))||(decide (aJ T fr=6)&&decide (bP T dst=4)))
 else if decide (aJ T fr=6)&&(jo v).2&&decide (aJ T dst=10)&&decide (bP T (aF T dst).base=4)then decide (((jo v).1.length:Int)≤qR T dst)
 else ey T dst fr||(bE T dst&&bE T fr):=by
 unfold nU;simp only;by_cases h:aJ T dst∈([0,11,5,6,7]:List Int)
 ·rw[if_pos h,if_pos (by simpa using h)]
 rw[if_neg h,if_neg (by simpa using h)];cases hn:aR v with
 |none=>
  simp only[Option.isSome_none,Bool.false_and,Bool.false_eq_true,if_false];exact SC
 |some n=>
  simp only[Option.isSome_some,Bool.true_and,Option.getD_some];cases hr:(rangeT T dst).2.2&&(decide (aJ T fr=6)||bH T fr)
  ·simp only[Bool.false_eq_true,if_false];exact SC
  ·simp
set_option maxHeartbeats 2000000 in
theorem ade{w:World}{p:Nat}{T:List Ty}(h:cF w p T)(k:CF T)(dst fr:Int)(v:aL)(hv:Vw v):Calls Tryz.prog 215 #[.pointer (some ⟨p,0,none⟩),.int .i64 dst,.int .i64 fr,aK v] w (Pv w (.bool (nU T dst fr v))):=by
 have H:=aa h;have HR:=aa (adb T dst fr v hv);have HN:=aa (eH v hv);have HK:=aa k;clear h k hv;go_enter Tryz.func215,Tryz.ntmps215;go_wp2_with fail;refine(kP H.out _).mono ?_;rintro e w1 ⟨s,rfl,_,hb⟩;have H1:=aa (H.out.later hb);have aO:=aa hb;clear hb H;unfold aJ at HR;generalize htt:aF T dst=tt at *;have HTT:=aa htt;clear htt;dsimp only[bX];go_wp2_with fail;generalize aU:w1.alloc _=w2;obtain⟨af,x2,bu⟩:=made aU;have X2:=aa x2;have H2:=aa (H1.out.later af);have aV:=aa (aO.out.trans (af.mono aO.out.size));clear aU af x2 bu H1 aO;refine(HN.out _).mono ?_;rintro e w3 ⟨rfl,hb⟩;have X3:=aa (X2.out.grow hb);have H3:=aa (H2.out.later hb);have bD:=aa (aV.out.trans (hb.mono aV.out.size));clear hb X2 H2 aV HN;generalize aR v=nv at *;go_wp2_with fail;refine(kP H3.out _).mono ?_;rintro e w4 ⟨s4,rfl,_,hb⟩;have X4:=aa (X3.out.grow hb);have H4:=aa (H3.out.later hb);have cd:=aa (bD.out.trans (hb.mono bD.out.size));clear hb X3 H3 bD;dsimp only[bX];generalize(aF T fr).kind=kf at *;rw[show decide (kf=6)=(kf==6)by by_cases h:kf=6<;>simp[h]]at HR;go_upto_region 4 with(fail);generalize(kf==6)=q6 at *;go_cut [13] (fun u w'=>u=.bool (ey T dst fr||(bE T dst&&bE T fr))∧Below w4.heap.size w4 w');case first=>
  go_wp2_with fail;refine(wO H4.out _ _).mono ?_;rintro e w5 ⟨rfl,hb⟩;have H5:=aa (H4.out.later hb);have bc:=aa hb;clear hb H4 cd HR;cases hc:ey T dst fr;case true=>
   go_wp2_with fail;go_meet;exact⟨by rw[hc];rfl,bc.out⟩
  go_wp2_with fail;refine(lU H5.out _).mono ?_;rintro e w6 ⟨rfl,hb⟩;have H6:=aa (H5.out.later hb);have bT:=aa (bc.out.trans (hb.mono bc.out.size));clear hb H5 bc;cases hn:bE T dst;case false=>
   go_wp2_with fail;go_meet;exact⟨by rw[hc,hn];rfl,bT.out⟩
  go_wp2_with fail;refine(lU H6.out _).mono ?_;rintro e w7 ⟨rfl,hb⟩;have cA:=aa (bT.out.trans (hb.mono bT.out.size));clear hb H6 bT;go_wp2_with fail;go_meet;exact⟨by rw[hc,hn];rfl,cA.out⟩
 case rest=>
 obtain⟨rfl,hbc⟩:=hcut;have X5:=aa (X4.out.grow hbc);have H5:=aa (H4.out.later hbc);have bc:=aa (cd.out.trans (hbc.mono cd.out.size));clear hbc X4 H4 cd;generalize(ey T dst fr||(bE T dst&&bE T fr))=fits at *;go_wp2_with fail;refine(uA H5.out _).mono ?_;rintro e w6 ⟨rfl,hb⟩;have X6:=aa (X5.out.grow hb);have H6:=aa (H5.out.later hb);have bT:=aa (bc.out.trans (hb.mono bc.out.size));clear hb X5 H5 bc;generalize rangeT T dst=r at *;obtain⟨lo,hi,q3⟩:=r;have z:=X6.out.cell;have hlt:=X6.out.lt;generalize nv.isSome=ok at *;generalize nv.getD 0=n at *;by_cases m:tt.kind∈([0,11,5,6,7]:List Int)
 ·have HV:=aa (HR.out.trans (if_pos m));clear HR;simp only[List.mem_cons,List.not_mem_nil,or_false]at m;rcases m with m|m|m|m|m
  all_goals (rw[m]at z;go_wp2_with fail;go_ret;exact⟨by rw[HV.out];rfl,bT.out⟩)
 have eB:=aa (HR.out.trans (if_neg m));clear HR;simp only[List.mem_cons,List.not_mem_nil,or_false,not_or]at m;obtain⟨m0,m11,m5,m6,m7⟩:=m;have d0:=beq_eq_false_iff_ne.2 m0;have d11:=beq_eq_false_iff_ne.2 m11;have d5:=beq_eq_false_iff_ne.2 m5;have d6:=beq_eq_false_iff_ne.2 m6;have d7:=beq_eq_false_iff_ne.2 m7;go_upto_region 13 with(fail);go_cut [74] (fun u w'=>u=.bool (ok&&q3&&(q6||bH T fr))∧Below w6.heap.size w6 w');case first=>
  clear eB z;cases ok;case false=>
   exact xC
  cases q3;case false=>
   exact xC
  cases q6;case true=>
   exact xC
  go_wp2_with fail;refine(mV H6.out _).mono ?_;rintro e w7 ⟨rfl,hb⟩;have cA:=aa hb;clear hb;go_wp2_with fail;go_meet;exact⟨rfl,cA.out⟩
 case rest=>
 obtain⟨rfl,hbc⟩:=hcut;have X7:=aa (X6.out.grow hbc);have H7:=aa (H6.out.later hbc);have cA:=aa (bT.out.trans (hbc.mono bT.out.size));have z:=X7.out.cell;have hlt:=X7.out.lt;clear hbc X6 H6 bT;by_cases hq:(ok&&q3&&(q6||bH T fr))=true
 ·rw[hq];have dH:=aa (eB.out.trans (if_pos hq));clear eB hq;by_cases hlo:n<lo
  ·have HV:=aa (show nU T dst fr v=false by rw[dH.out,decide_eq_false (by omega)];rfl);clear dH;exact CH
  by_cases hhi:hi<n
  ·have HV:=aa (show nU T dst fr v=false by rw[dH.out,decide_eq_false (show ¬n≤hi by omega)];simp);clear dH;exact CH
  have HV:=aa (show nU T dst fr v=(fits||(q6&&decide (bP T dst=4)))by rw[dH.out,decide_eq_true (show lo≤n by omega),decide_eq_true (show n≤hi by omega)];rfl);clear dH;cases fits;case true=>
   exact CH
  cases q6;case false=>
   exact CH
  go_wp2_with fail;refine(uL H7.out _).mono ?_;rintro e w8 ⟨rfl,hb⟩;have gY:=aa (cA.out.trans (hb.mono cA.out.size));clear hb cA H7;go_wp2_with fail;go_ret;exact⟨by rw[HV.out];by_cases e:bP T dst=4<;>simp[e]<;>rfl,gY.out⟩
 have dH:=aa (eB.out.trans (if_neg hq))
 replace hq:(ok&&q3&&(q6||bH T fr))=false:=by simpa using hq
 rw[hq];clear eB hq;generalize hss:(jo v).2=q5 at *;generalize(jo v).1=str at *;go_upto_region 15 with(fail);go_cut [107] (fun u w'=>u=.bool (q6&&q5&&decide (tt.kind=10)&&decide (bP T tt.base=4))∧Below wc.heap.size wc w');case first=>
  clear dH;cases q6;case false=>
   exact xC
  cases q5;case false=>
   exact xC
  by_cases k10:tt.kind=10;case neg=>
   have e10:=beq_eq_false_iff_ne.2 k10;have HD:=aa (decide_eq_false k10);clear k10;go_wp2_with fail;go_meet;exact⟨by rw[HD.out];rfl,Below.refl _ _⟩
  have HD:=aa (decide_eq_true k10);rw[k10]at z;clear k10;go_wp2_with fail;refine(uL H7.out _).mono ?_;rintro e w8 ⟨rfl,hb⟩;have gY:=aa hb;clear hb;go_wp2_with fail;go_meet;exact⟨by rw[HD.out];by_cases e:bP T tt.base=4<;>simp[e],gY.out⟩
 case rest=>
 obtain⟨rfl,hbc⟩:=hcut;rename_i wd;have H8:=aa (H7.out.later hbc);have gY:=aa (cA.out.trans (hbc.mono cA.out.size));clear hbc X7 H7 cA z hlt;generalize(q6&&q5&&decide (tt.kind=10)&&decide (bP T tt.base=4))=q7 at *;cases q7;case false=>
  have HV:=aa (show nU T dst fr v=fits from dH.out.trans (if_neg (by decide)));go_wp2_with fail;go_ret;exact⟨by rw[HV.out];rfl,gY.out⟩
 have HV:=aa (show nU T dst fr v=decide ((str.length:Int)≤qR T dst)from dH.out.trans (if_pos rfl));clear dH;go_wp2_with fail;refine(ac0 H8.out HK.out _).mono ?_;rintro e w9 ⟨rfl,hb⟩;have vz:=aa (gY.out.trans (hb.mono gY.out.size));clear hb gY H8;go_wp2_with fail;go_ret;exact⟨by rw[HV.out];rfl,vz.out⟩
theorem adf(x y:Ty)(q:Bool)(e l z:Bool):
 (if x.kind=11∧(y.kind=10∨y.kind=11)∧y.base=x.base then true
 else if x.kind=11 then !q&&decide (x.base=4)&&(decide (y.kind=6)||(decide (y.kind=4)&&l))
 else if q then decide (y.kind≠0)&&e else z)=
 if decide (x.kind=11)&&(decide (y.kind=10)||decide (y.kind=11))&&decide (y.base=x.base)then true
 else if x.kind=11 then !q&&decide (x.base=4)&&(decide (y.kind=6)||(decide (y.kind=4)&&l))
 else if q then decide (y.kind≠0)&&e else z:=by
 by_cases a:x.kind=11<;>by_cases b:y.kind=10<;>by_cases c:y.kind=11<;>by_cases d:y.base=x.base<;>simp[a,b,c,d]
theorem adg(T:List Ty)(q:Bool)(t fr:Int)(v:aL):qN T (q,t) fr v=
 if decide ((aF T t).kind=11)&&(decide ((aF T fr).kind=10)||decide ((aF T fr).kind=11))&&decide ((aF T fr).base=(aF T t).base)then true
 else if(aF T t).kind=11 then !q&&decide ((aF T t).base=4)&&(decide ((aF T fr).kind=6)||(decide ((aF T fr).kind=4)&&(kl v).2))
 else if q then decide ((aF T fr).kind≠0)&&decide (fr=t)
 else nU T t fr v:=by
 unfold qN;cases v<;>exact adf _ _ _ _ _ _
set_option maxHeartbeats 2000000 in
theorem Zb{w:World}{p:Nat}{T:List Ty}(h:cF w p T)(k:CF T)(q:Bool)(t fr:Int)(v:aL)(hv:Vw v):Calls Tryz.prog 204 #[.pointer (some ⟨p,0,none⟩),.agg #[.bool q,.int .i64 t],.int .i64 fr,aK v] w (Pv w (.bool (qN T (q,t) fr v))):=by
 have H:=aa h;have HR:=aa (adg T q t fr v);have HA:=aa (fun w (h:cF w p T)=>ade h k t fr v hv);clear h k hv;go_enter Tryz.func204,Tryz.ntmps204;go_wp2_with fail;generalize az:w.alloc _=w1;obtain⟨ae,x1,aE⟩:=made az;have X1:=aa x1;have H1:=aa (H.out.later ae);have aO:=aa ae;have z:=fun i=>x1.cell i
 have hlt:=x1.lt;clear az ae x1 aE H;refine(kP H1.out _).mono ?_;rintro e w2 ⟨s1,rfl,_,hb⟩;have X2:=aa (X1.out.grow hb);have H2:=aa (H1.out.later hb);have aV:=aa (aO.out.trans (hb.mono aO.out.size));clear hb X1 H1 aO z hlt;generalize aF T t=tt at *;dsimp only[bX];go_wp2_with fail;refine(kP H2.out _).mono ?_;rintro e w3 ⟨s2,rfl,_,hb⟩;have X3:=aa (X2.out.grow hb);have H3:=aa (H2.out.later hb);have bD:=aa (aV.out.trans (hb.mono aV.out.size));clear hb X2 H2 aV;generalize aF T fr=ty at *;dsimp only[bX];go_upto_region 2 with(fail);generalize ab:w3.alloc _=w4;obtain⟨aw,x4,iZ⟩:=made ab;rw[←iZ];generalize dA:w4.alloc _=w5;obtain⟨au,x5,iw⟩:=made dA;have B3:=bD.out.trans (aw.mono bD.out.size);have bc:=aa (B3.trans (au.mono B3.size));have H5:=aa ((H3.out.later aw).later au);have y1:=(X3.out.grow aw).grow au;have y4:=x4.grow au;have z1:=fun i=>y1.cell i
 have z4:=fun i=>y4.cell i
 have z5:=fun i=>x5.cell i
 have l1:=y1.lt;have l4:=y4.lt;have l5:=x5.lt;clear ab dA aw au x4 x5 iZ iw B3 y1 y4 X3 H3 bD;go_upto_region 3 with(fail);go_cut [25] (fun u w'=>u=.bool (decide (tt.kind=11)&&(decide (ty.kind=10)||decide (ty.kind=11))&&decide (ty.base=tt.base))∧w'=w5);case first=>
  clear HR HA;by_cases kx:tt.kind=11;case neg=>
   have d:=beq_eq_false_iff_ne.2 kx;have HD:=aa (decide_eq_false kx);clear kx;go_wp2_with fail;go_meet;exact⟨by rw[HD.out];rfl,rfl⟩
  have HD:=aa (decide_eq_true kx);rw[kx]at z4;clear kx;by_cases ky:ty.kind=10
  ·have HE:=aa (show(decide (ty.kind=10)||decide (ty.kind=11))=true by simp[ky]);rw[ky]at z5;clear ky;exact SG
  by_cases kz:ty.kind=11
  ·have HE:=aa (show(decide (ty.kind=10)||decide (ty.kind=11))=true by simp[kz]);rw[kz]at z5;clear kz ky;exact SG
  have HE:=aa (show(decide (ty.kind=10)||decide (ty.kind=11))=false by simp[ky,kz]);have d10:=beq_eq_false_iff_ne.2 ky;have d11:=beq_eq_false_iff_ne.2 kz;clear ky kz;go_wp2_with fail;go_meet;exact⟨by rw[HD.out,HE.out];rfl,rfl⟩
 case rest=>
 obtain⟨rfl,rfl⟩:=hcut;generalize(decide (tt.kind=11)&&(decide (ty.kind=10)||decide (ty.kind=11))&&decide (ty.base=tt.base))=q1 at *;cases q1;case true=>
  have HV:=aa (HR.out.trans (if_pos rfl));clear HR;go_wp2_with fail;go_ret;exact⟨by rw[HV.out];rfl,bc.out⟩
 have eB:=aa (HR.out.trans (if_neg (by decide)));clear HR;by_cases kx:tt.kind=11
 ·have dH:=aa (eB.out.trans (if_pos kx));clear eB HA;rw[kx]at z4;clear kx;generalize(kl v).2=l at *;generalize(kl v).1=m at *;cases q;case true=>
   go_wp2_with fail;go_ret;exact⟨by rw[dH.out];rfl,bc.out⟩
  by_cases kb:tt.base=4;case neg=>
   have d:=beq_eq_false_iff_ne.2 kb;have HD:=aa (decide_eq_false kb);clear kb;go_wp2_with fail;go_ret;exact⟨by rw[dH.out,HD.out];rfl,bc.out⟩
  have HD:=aa (decide_eq_true kb);rw[kb]at z4;clear kb;by_cases k6:ty.kind=6
  ·have HE:=aa (decide_eq_true k6);rw[k6]at z5;clear k6;go_wp2_with fail;go_ret;exact⟨by rw[dH.out,HD.out,HE.out];rfl,bc.out⟩
  have d6:=beq_eq_false_iff_ne.2 k6;have HE:=aa (decide_eq_false k6);clear k6;by_cases k4:ty.kind=4
  ·have HF:=aa (decide_eq_true k4);rw[k4]at z5;clear k4;go_wp2_with fail;go_ret;exact⟨by rw[dH.out,HD.out,HE.out,HF.out];cases l<;>rfl,bc.out⟩
  have d4:=beq_eq_false_iff_ne.2 k4;have HF:=aa (decide_eq_false k4);clear k4;go_wp2_with fail;go_ret;exact⟨by rw[dH.out,HD.out,HE.out,HF.out];rfl,bc.out⟩
 have dH:=aa (eB.out.trans (if_neg kx));have dx:=beq_eq_false_iff_ne.2 kx;clear eB kx;cases q;case true=>
  have vB:=aa (dH.out.trans (if_pos rfl));clear dH HA;by_cases k0:ty.kind=0
  ·have HE:=aa (show decide (ty.kind≠0)=false by simp[k0]);rw[k0]at z5;clear k0;go_wp2_with fail;go_ret;exact⟨by rw[vB.out,HE.out];rfl,bc.out⟩
  have d0:=beq_eq_false_iff_ne.2 k0;have HE:=aa (show decide (ty.kind≠0)=true by simp[k0]);have db:(ty.kind != 0)=true:=bne_iff_ne.2 k0;go_wp2_with fail;go_ret;exact⟨by rw[vB.out,HE.out];by_cases e:fr=t<;>simp[e]<;>rfl,bc.out⟩
 have vB:=aa (dH.out.trans (if_neg (by decide)));clear dH;go_wp2_with fail;refine(HA.out _ H5.out).mono ?_;rintro e w6 ⟨rfl,hb⟩;have bT:=aa (bc.out.trans (hb.mono bc.out.size));clear hb;go_wp2_with fail;go_ret;exact⟨by rw[vB.out];rfl,bT.out⟩
end Go.Proofs.YtlpombjidhloiaaGreat
namespace Go.Proofs.YtlpombjidhloiaaGreat
theorem Gq{T:List Ty}(h:∀t∈T,ln t)(i:Int):ln (aF T i):=by
 have h0:ln dg:=⟨by simp[dg],by simp[dg],by simp[dg],by simp[dg],by simp[dg],by simp[dg],by simp[dg]⟩;unfold aF;split
 ·exact h0
 ·rw[List.getD_eq_getElem?_getD];cases e:T[i.toNat]? with
  |none=>exact h0
  |some t=>exact h t (List.mem_of_getElem? e)
theorem Gs{T:List Ty}(h:∀t∈T,ln t):CF T:=fun i=>by
 have:=Gq h i;have h1:=this.low;have h2:=this.high;unfold rangeT;split
 ·simp
 split
 ·simp
 split
 ·simp
 split
 ·simp
 split
 ·simp
 split
 ·simp
 ·exact⟨h1.1,h1.2,h2.1,h2.2⟩
end Go.Proofs.YtlpombjidhloiaaGreat
namespace Go.Proofs.YtlpombjidhloiaaGreat
open Go.RowKit
set_option maxRecDepth 100000
attribute [local go_sem ↓] Go.wp_at_zero Go.wp_at_succ
def xg(w:World)(t:TypeId)(size n:Nat)(cs:List Value)(e:Ending)(w':World):Prop:=∃A c,e=.returned (.slice A n c)∧w'.ownsRow w.heap.size t size (.slice A n c) n cs∧Below w.heap.size w w'
theorem xh{P:Program}{t e:TypeId}{size bytes:Nat}(E:ET P t e size bytes){w:World}{b o c n:Nat}{cs:List Value}(h:∀j u,cs[j]? =some u→w.cell? ⟨b,o+j,none⟩=some u)(hl:cs.length=n*size)(h1:∀u∈cs,u.oneCell'=true):Src P size t (.slice (some ⟨b,o,none⟩) n c) n cs w:=
 Src.ofSlice w E.und _ n c cs hl (fun j u hj=>by rw[WideShapes.add_plain];exact h j u hj) h1
theorem QP:ET Tryz.prog 42 9 1 16:=rL (z:=.string ⟨#[]⟩) Tryz.underlying42 (by kernel_rfl) rfl (by decide)
@[go_sem] theorem aja(w:World):(binOp .eql 42 (.slice none 0 0) (.slice none 0 0)).run Tryz.prog w=.ok (.bool true) w:=by kernel_rfl
@[go_sem] theorem ajb(b o n c:Nat)(w:World):(binOp .eql 42 (.slice (some ⟨b,o,none⟩) n c) (.slice none 0 0)).run Tryz.prog w=.ok (.bool false) w:=by kernel_rfl
theorem abH{w:World}{v:Value}{n:Nat}{cs:List Value}(h:Rw w v n cs)(hl:cs.length=n*1)(hn:n≤1000000)(h1:∀u∈cs,u.oneCell'=true):Calls Tryz.prog 73 #[v] w (xg w 9 1 n cs):=by
 rcases h with⟨rfl,rfl,rfl⟩|⟨b,o,c,rfl,hc,hb,hcs⟩
 ·go_enter Tryz.func73,Tryz.ntmps73;exact xi
 ·have HS:=aa (xh QP (c:=c) (fun j u hj=>bo (hcs j u hj) (cB w (.cells #[] 9))) hl h1);clear hcs h1 hl;go_enter Tryz.func73,Tryz.ntmps73;go_wp2_with (at_builtin;refine jg QP rfl _ _ rfl w.heap.size _ 0 [] rfl ⟨rfl,.inr ⟨w.heap.size,0,#[],rfl,Nat.le_refl _,heap_alloc_new _ _,Nat.le_refl _,Nat.zero_le _,rfl,rfl⟩⟩ _ n cs rfl HS.out (by omega) (by unfold maxLen;omega) (by simp) ?_;intro v9 w9 cf);exact xk
theorem QQ:ET Tryz.prog 43 139 3 32:=rL (z:=.agg #[.string ⟨#[]⟩,.int .i64 0,.int .i64 0]) Tryz.underlying43 (by kernel_rfl) rfl (by decide)
@[go_sem] theorem ajc(w:World):(binOp .eql 43 (.slice none 0 0) (.slice none 0 0)).run Tryz.prog w=.ok (.bool true) w:=by kernel_rfl
@[go_sem] theorem ajd(b o n c:Nat)(w:World):(binOp .eql 43 (.slice (some ⟨b,o,none⟩) n c) (.slice none 0 0)).run Tryz.prog w=.ok (.bool false) w:=by kernel_rfl
theorem abI{w:World}{v:Value}{n:Nat}{cs:List Value}(h:Rw w v n cs)(hl:cs.length=n*3)(hn:n≤1000000)(h1:∀u∈cs,u.oneCell'=true):Calls Tryz.prog 74 #[v] w (xg w 139 3 n cs):=by
 rcases h with⟨rfl,rfl,rfl⟩|⟨b,o,c,rfl,hc,hb,hcs⟩
 ·go_enter Tryz.func74,Tryz.ntmps74;exact xi
 ·have HS:=aa (xh QQ (c:=c) (fun j u hj=>bo (hcs j u hj) (cB w (.cells #[] 139))) hl h1);clear hcs h1 hl;go_enter Tryz.func74,Tryz.ntmps74;go_wp2_with (at_builtin;refine jg QQ rfl _ _ rfl w.heap.size _ 0 [] rfl ⟨rfl,.inr ⟨w.heap.size,0,#[],rfl,Nat.le_refl _,heap_alloc_new _ _,Nat.le_refl _,Nat.zero_le _,rfl,rfl⟩⟩ _ n cs rfl HS.out (by omega) (by unfold maxLen;omega) (by simp) ?_;intro v9 w9 cf);exact xk
theorem QR:ET Tryz.prog 45 144 2 16:=rL (z:=.agg #[.bool false,.int .i64 0]) Tryz.underlying45 (by kernel_rfl) rfl (by decide)
@[go_sem] theorem aje(w:World):(binOp .eql 45 (.slice none 0 0) (.slice none 0 0)).run Tryz.prog w=.ok (.bool true) w:=by kernel_rfl
@[go_sem] theorem ajf(b o n c:Nat)(w:World):(binOp .eql 45 (.slice (some ⟨b,o,none⟩) n c) (.slice none 0 0)).run Tryz.prog w=.ok (.bool false) w:=by kernel_rfl
theorem abJ{w:World}{v:Value}{n:Nat}{cs:List Value}(h:Rw w v n cs)(hl:cs.length=n*2)(hn:n≤1000000)(h1:∀u∈cs,u.oneCell'=true):Calls Tryz.prog 75 #[v] w (xg w 144 2 n cs):=by
 rcases h with⟨rfl,rfl,rfl⟩|⟨b,o,c,rfl,hc,hb,hcs⟩
 ·go_enter Tryz.func75,Tryz.ntmps75;exact xi
 ·have HS:=aa (xh QR (c:=c) (fun j u hj=>bo (hcs j u hj) (cB w (.cells #[] 144))) hl h1);clear hcs h1 hl;go_enter Tryz.func75,Tryz.ntmps75;go_wp2_with (at_builtin;refine jg QR rfl _ _ rfl w.heap.size _ 0 [] rfl ⟨rfl,.inr ⟨w.heap.size,0,#[],rfl,Nat.le_refl _,heap_alloc_new _ _,Nat.le_refl _,Nat.zero_le _,rfl,rfl⟩⟩ _ n cs rfl HS.out (by omega) (by unfold maxLen;omega) (by simp) ?_;intro v9 w9 cf);exact xk
theorem QS:ET Tryz.prog 140 2 1 8:=rL (z:=.int .i64 0) Tryz.underlying140 (by kernel_rfl) rfl (by decide)
@[go_sem] theorem ajg(w:World):(binOp .eql 140 (.slice none 0 0) (.slice none 0 0)).run Tryz.prog w=.ok (.bool true) w:=by kernel_rfl
@[go_sem] theorem ajh(b o n c:Nat)(w:World):(binOp .eql 140 (.slice (some ⟨b,o,none⟩) n c) (.slice none 0 0)).run Tryz.prog w=.ok (.bool false) w:=by kernel_rfl
theorem QT{w:World}{v:Value}{n:Nat}{cs:List Value}(h:Rw w v n cs)(hl:cs.length=n*1)(hn:n≤1000000)(h1:∀u∈cs,u.oneCell'=true):Calls Tryz.prog 78 #[v] w (xg w 2 1 n cs):=by
 rcases h with⟨rfl,rfl,rfl⟩|⟨b,o,c,rfl,hc,hb,hcs⟩
 ·go_enter Tryz.func78,Tryz.ntmps78;exact xi
 ·have HS:=aa (xh QS (c:=c) (fun j u hj=>bo (hcs j u hj) (cB w (.cells #[] 2))) hl h1);clear hcs h1 hl;go_enter Tryz.func78,Tryz.ntmps78;go_wp2_with (at_builtin;refine jg QS rfl _ _ rfl w.heap.size _ 0 [] rfl ⟨rfl,.inr ⟨w.heap.size,0,#[],rfl,Nat.le_refl _,heap_alloc_new _ _,Nat.le_refl _,Nat.zero_le _,rfl,rfl⟩⟩ _ n cs rfl HS.out (by omega) (by unfold maxLen;omega) (by simp) ?_;intro v9 w9 cf);exact xk
theorem QU:ET Tryz.prog 44 142 3 56:=rL (z:=.agg #[.slice none 0 0,.slice none 0 0,.bool false]) Tryz.underlying44 (by kernel_rfl) rfl (by decide)
@[go_sem] theorem aji(w:World):(binOp .eql 44 (.slice none 0 0) (.slice none 0 0)).run Tryz.prog w=.ok (.bool true) w:=by kernel_rfl
@[go_sem] theorem ajj(b o n c:Nat)(w:World):(binOp .eql 44 (.slice (some ⟨b,o,none⟩) n c) (.slice none 0 0)).run Tryz.prog w=.ok (.bool false) w:=by kernel_rfl
theorem abK{w:World}{v:Value}{n:Nat}{cs:List Value}(h:Rw w v n cs)(hl:cs.length=n*3)(hn:n≤1000000)(h1:∀u∈cs,u.oneCell'=true):Calls Tryz.prog 118 #[v] w (xg w 142 3 n cs):=by
 rcases h with⟨rfl,rfl,rfl⟩|⟨b,o,c,rfl,hc,hb,hcs⟩
 ·go_enter Tryz.func118,Tryz.ntmps118;exact xi
 ·have HS:=aa (xh QU (c:=c) (fun j u hj=>bo (hcs j u hj) (cB w (.cells #[] 142))) hl h1);clear hcs h1 hl;go_enter Tryz.func118,Tryz.ntmps118;go_wp2_with (at_builtin;refine jg QU rfl _ _ rfl w.heap.size _ 0 [] rfl ⟨rfl,.inr ⟨w.heap.size,0,#[],rfl,Nat.le_refl _,heap_alloc_new _ _,Nat.le_refl _,Nat.zero_le _,rfl,rfl⟩⟩ _ n cs rfl HS.out (by omega) (by unfold maxLen;omega) (by simp) ?_;intro v9 w9 cf);exact xk
@[go_sem] theorem ajk(w:World):(binOp .eql 69 (.slice none 0 0) (.slice none 0 0)).run Tryz.prog w=.ok (.bool true) w:=by kernel_rfl
@[go_sem] theorem ajl(b o n c:Nat)(w:World):(binOp .eql 69 (.slice (some ⟨b,o,none⟩) n c) (.slice none 0 0)).run Tryz.prog w=.ok (.bool false) w:=by kernel_rfl
theorem Ce(l:List Int):(ll l).length=l.length*1∧∀u∈ll l,u.oneCell'=true:=by
 refine⟨by simp[ll],fun u hu=>?_⟩;obtain⟨n,_,rfl⟩:=List.mem_map.1 hu;rfl
theorem QV(l:List (List UInt8)):(uu l).length=l.length*1∧∀u∈uu l,u.oneCell'=true:=by
 refine⟨by simp[uu],fun u hu=>?_⟩;obtain⟨n,_,rfl⟩:=List.mem_map.1 hu;rfl
theorem QW(l:List (List UInt8×Int×Int)):(lj l).length=l.length*3∧∀u∈lj l,u.oneCell'=true:=by
 induction l with
 |nil=>exact⟨rfl,fun u hu=>by cases hu⟩
 |cons x l ih=>
  refine⟨by simp only[lj,List.flatMap_cons,List.length_append,List.length_cons,List.length_nil]at ih ⊢;omega,fun u hu=>?_⟩;simp only[lj,List.flatMap_cons,List.mem_append,List.mem_cons,List.not_mem_nil,or_false]at hu;rcases hu with(rfl|rfl|rfl)|hu
  ·rfl
  ·rfl
  ·rfl
  ·exact ih.2 u hu
theorem QX(l:List (Bool×Int)):(kg l).length=l.length*2∧∀u∈kg l,u.oneCell'=true:=by
 induction l with
 |nil=>exact⟨rfl,fun u hu=>by cases hu⟩
 |cons x l ih=>
  refine⟨by simp only[kg,List.flatMap_cons,List.length_append,List.length_cons,List.length_nil]at ih ⊢;omega,fun u hu=>?_⟩;simp only[kg,List.flatMap_cons,List.mem_append,List.mem_cons,List.not_mem_nil,or_false]at hu;rcases hu with(rfl|rfl)|hu
  ·rfl
  ·rfl
  ·exact ih.2 u hu
def abL(w:World)(a:List Int×List Int×Bool)(e:Ending)(w':World):Prop:=∃A c A' c',e=.returned (.agg #[.slice A a.1.length c,.slice A' a.2.1.length c',.bool a.2.2])∧w'.ownsRow w.heap.size 2 1 (.slice A a.1.length c) a.1.length (ll a.1)∧w'.ownsRow w.heap.size 2 1 (.slice A' a.2.1.length c') a.2.1.length (ll a.2.1)∧Below w.heap.size w w'
theorem jx{w w':World}{B:Nat}{e:TypeId}{size:Nat}{v:Value}{n:Nat}{xs:List Value}(h:w.ownsRow B e size v n xs)(hb:Below w.heap.size w w'):w'.ownsRow B e size v n xs:=by
 refine⟨h.1,h.2.imp id ?_⟩;rintro⟨g,cap,cur,h1,h2,h3,h4⟩;exact⟨g,cap,cur,h1,h2,(hb.block g (ld h3)).trans h3,h4⟩
theorem oe{w:World}{B B':Nat}{e:TypeId}{size:Nat}{v:Value}{n:Nat}{xs:List Value}(h:w.ownsRow B e size v n xs)(hB:B'≤B):w.ownsRow B' e size v n xs:=by
 refine⟨h.1,h.2.imp id ?_⟩;rintro⟨g,cap,cur,h1,h2,h3⟩;exact⟨g,cap,cur,h1,Nat.le_trans hB h2,h3⟩
theorem abM:(Tryz.prog.info? 142).map (·.size)=some 3:=by kernel_rfl
theorem abN{w:World}(a:List Int×List Int×Bool){A A':Option Addr}{c c':Nat}(h:Rw w (.slice A a.1.length c) a.1.length (ll a.1))(h':Rw w (.slice A' a.2.1.length c') a.2.1.length (ll a.2.1))(hl:a.1.length≤1000000∧a.2.1.length≤1000000):
 Calls Tryz.prog 77 #[.agg #[.slice A a.1.length c,.slice A' a.2.1.length c',.bool a.2.2]] w (abL w a):=by
 have HL:=aa hl;have ae:=cB w (.cells #[.slice A a.1.length c,.slice A' a.2.1.length c',.bool a.2.2] 142);have x1:=Bx.new w #[.slice A a.1.length c,.slice A' a.2.1.length c',.bool a.2.2] 142;have aE:(w.alloc (.cells #[.slice A a.1.length c,.slice A' a.2.1.length c',.bool a.2.2] 142)).heap.size=w.heap.size+1:=by simp
 go_enter Tryz.func77,Tryz.ntmps77;go_wp2_with fail;generalize w.alloc (.cells #[.slice A a.1.length c,.slice A' a.2.1.length c',.bool a.2.2] 142)=w1 at *;have af:=cB w1 (.cells #[.slice none 0 0,.slice none 0 0,.bool false] 142);have x2:=Bx.new w1 #[.slice none 0 0,.slice none 0 0,.bool false] 142;have x1:=x1.grow af;rw[aE]at x2;have bu:(w1.alloc (.cells #[.slice none 0 0,.slice none 0 0,.bool false] 142)).heap.size=w.heap.size+2:=by simp[aE]
 have af:=ae.trans (af.mono ae.size);generalize w1.alloc (.cells #[.slice none 0 0,.slice none 0 0,.bool false] 142)=w2 at *;have l1:=x1.lt;have l2:=x2.lt;have c0:w2.cell? ⟨w.heap.size,0,none⟩=some (.slice A a.1.length c):=x1.cell 0;have c1:w2.cell? ⟨w.heap.size,1,none⟩=some (.slice A' a.2.1.length c'):=x1.cell 1;have X1:=aa x1;have X2:=aa x2;have HB:=aa af;have HA:=aa (h.later af);have HA':=aa (h'.later af);clear x1 x2 ae af aE h h' hl;refine bh [7,8,9] [] (by kernel_rfl) ?_;refine qy (by kernel_rfl) (by intro c a d v w;cases d<;>exact Iff.rfl) (Below.refl _ _) [0,1,3,4] _ _ (by kernel_rfl) (by kernel_rfl) ?_;simp only[dX,List.filterMap,List.getElem?_toArray,List.getElem?_cons_zero,List.getElem?_cons_succ];repeat (go_big_quiet_step (fail))
 refine wpQuiet_nil ?_;refine lf (i:=2) (by kernel_rfl) aG rfl (by kernel_rfl) (Below.refl _ _) rfl (by intro c a d v w;cases d<;>exact Iff.rfl) (fun w1 _=>?_) (fun w4 ab=>(QT (HA.out.later ab) (Ce a.1).1 HL.out.1 (Ce a.1).2).mono ?_)
 ·go_simp
 rintro e w5 ⟨B,d,rfl,ho,hb⟩;refine⟨hb,?_⟩;have bc:=aa (ab.trans (hb.mono ab.size));have HO:=aa (oe ho ab.size);clear hb ab ho;refine qy (by kernel_rfl) (by intro c a d v w;cases d<;>exact Iff.rfl) bc.out [6] _ _ (by kernel_rfl) (by kernel_rfl) ?_;simp only[dX,List.filterMap,List.getElem?_toArray,List.getElem?_cons_zero,List.getElem?_cons_succ,List.getElem_toArray,List.getElem_cons_zero,List.getElem_cons_succ,Act.put,List.setIfInBounds_toArray,List.set_cons_zero,List.set_cons_succ];repeat (go_big_quiet_step (fail))
 refine wpQuiet_nil ?_;refine lf (i:=5) (by kernel_rfl) aG rfl (by kernel_rfl) bc.out rfl (by intro c a d v w;cases d<;>exact Iff.rfl) (fun w1 _=>?_) (fun w6 aH=>(QT (HA'.out.later (bc.out.trans (aH.mono bc.out.size))) (Ce a.2.1).1 HL.out.2 (Ce a.2.1).2).mono ?_)
 ·go_simp
 rintro e w7 ⟨B',d',rfl,ho,hb⟩;refine⟨hb,?_⟩;have cA:=aa (bc.out.trans ((aH.trans (hb.mono aH.size)).mono bc.out.size));have rD:=aa (jx HO.out (aH.trans (hb.mono aH.size)));have vy:=aa (oe ho (Nat.le_trans bc.out.size aH.size));clear hb aH ho HO HA HA';refine cV 7 (by kernel_rfl) (by kernel_rfl) cA.out (fun wr hwr=>?_);simp only[List.getElem_toArray,List.getElem_cons_zero,List.getElem_cons_succ,Act.put,List.setIfInBounds_toArray,List.set_cons_zero,List.set_cons_succ,List.drop_succ_cons,List.drop_zero];have hb:=cA.out.trans (hwr.mono cA.out.size);have Y1:=X1.out.grow hb;have Y2:=X2.out.grow hb;have z:=fun i=>Y1.cell i
 have fz:=fun i=>Y1.frozen i
 have z2:=fun i=>Y2.cell i
 have fz2:=fun i=>Y2.frozen i
 have HE:=aa bu;have R1:=aa (jx rD.out hwr);have R2:=aa (jx vy.out hwr);have HW:=aa (HB.out.trans (hb.mono HB.out.size));go_wp2_with fail;refine bodyPost_ret (results_cell_row rfl _ _ (w.heap.size+1) _ _ (0,0) _ rfl (((((Y2.far (a:=⟨w.heap.size,0,none⟩) (by simp) _).far (a:=⟨w.heap.size,1,none⟩) (by simp) _).set 0 _).set 1 _).set 2 _) Tryz.underlying142 rfl ?_) rfl ?_
 ·exact abM
 have k0:w.heap.size<w2.heap.size:=l1;have k1:w.heap.size+1<w2.heap.size:=l2;have keep:∀(u1 u2 u3 u4 u5:Value) {v n xs},wr.ownsRow w2.heap.size 2 1 v n xs→World.ownsRow (((((wr.setCell ⟨w.heap.size,0,none⟩ u1).setCell ⟨w.heap.size,1,none⟩ u2).setCell ⟨w.heap.size+1,0,none⟩ u3).setCell ⟨w.heap.size+1,1,none⟩ u4).setCell ⟨w.heap.size+1,2,none⟩ u5) w.heap.size 2 1 v n xs:=fun _ _ _ _ _ _ _ _ h=>
  oe (ownsRow_setCell_below (ownsRow_setCell_below (ownsRow_setCell_below (ownsRow_setCell_below (ownsRow_setCell_below h k0 _) k0 _) k1 _) k1 _) k1 _) (Nat.le_of_lt k0)
 exact⟨B,d,B',d',rfl,keep _ _ _ _ _ R1.out,keep _ _ _ _ _ R2.out,((((HW.out.setCell (p:=⟨w.heap.size,0,none⟩) (Nat.le_refl _) _).setCell (p:=⟨w.heap.size,1,none⟩) (Nat.le_refl _) _).setCell (p:=⟨w.heap.size+1,0,none⟩) (Nat.le_succ _) _).setCell (p:=⟨w.heap.size+1,1,none⟩) (Nat.le_succ _) _).setCell (p:=⟨w.heap.size+1,2,none⟩) (Nat.le_succ _) _⟩
def kQ(xs:List (Value×Value))(l:List (List Int×List Int×Bool)):List Value:=(xs.zip l).flatMap fun p=>[p.1.1,p.1.2,.bool p.2.2.2]
theorem Hi:∀(xs:List (Value×Value)) (l:List (List Int×List Int×Bool)),xs.length=l.length→(kQ xs l).length=l.length*3
 |[],[],_=>rfl
 |x::xs,a::l,h=>by
  have ih:=Hi xs l (by simpa using h);simp only[kQ,List.zip_cons_cons,List.flatMap_cons,List.length_append,List.length_cons,List.length_nil]at ih ⊢;omega
theorem QY:∀(xs:List (Value×Value)) (l:List (List Int×List Int×Bool)) (i:Nat) (x:Value×Value) (a:List Int×List Int×Bool),xs[i]? =some x→l[i]? =some a→
 (kQ xs l)[i*3]? =some x.1∧(kQ xs l)[i*3+1]? =some x.2∧(kQ xs l)[i*3+2]? =some (.bool a.2.2)
 |x::xs,a::l,0,_,_,h,k=>by cases h;cases k;exact⟨rfl,rfl,rfl⟩
 |y::xs,b::l,i+1,x,a,h,k=>by
  have ih:=QY xs l i x a (by simpa using h) (by simpa using k);have e:kQ (y::xs) (b::l)=y.1::y.2::.bool b.2.2::kQ xs l:=rfl;rw[e,show(i+1)*3=i*3+1+1+1 by omega,show i*3+1+1+1+1=(i*3+1)+1+1+1 by omega,show i*3+1+1+1+2=(i*3+2)+1+1+1 by omega];simpa only[List.getElem?_cons_succ]using ih
theorem QZ:∀(xs:List (Value×Value)) (l:List (List Int×List Int×Bool)) (i:Nat) (y:Value×Value) (a:List Int×List Int×Bool),i<xs.length→l[i]? =some a→
 kQ (xs.set i y) l=(((kQ xs l).set (i*3) y.1).set (i*3+1) y.2).set (i*3+2) (.bool a.2.2)
 |x::xs,a::l,0,y,_,_,k=>by cases k;rfl
 |z::xs,b::l,i+1,y,a,h,k=>by
  have ih:=QZ xs l i y a (by simpa using h) (by simpa using k);have e:∀xs,kQ (z::xs) (b::l)=z.1::z.2::.bool b.2.2::kQ xs l:=fun _=>rfl
  rw[List.set_cons_succ,e,e,ih,show(i+1)*3=i*3+1+1+1 by omega,show i*3+1+1+1+1=(i*3+1)+1+1+1 by omega,show i*3+1+1+1+2=(i*3+2)+1+1+1 by omega];simp only[List.set_cons_succ]
 |_::_,[],_,_,_,_,k=>by cases k
theorem abO(xs:List (Value×Value))(l:List (List Int×List Int×Bool))(h:∀x∈xs,x.1.oneCell'=true∧x.2.oneCell'=true):∀u∈kQ xs l,u.oneCell'=true:=by
 intro u hu;obtain⟨p,hp,hu⟩:=List.mem_flatMap.1 hu;have:=h p.1 (List.of_mem_zip hp).1;simp only[List.mem_cons,List.not_mem_nil,or_false]at hu;rcases hu with rfl|rfl|rfl
 ·exact this.1
 ·exact this.2
 ·rfl
def gR(g B:Nat)(w:World)(v:Value)(n:Nat)(cs:List Value):Prop:=
 (v=.slice none 0 0∧n=0∧cs=[])∨∃b o c,b≠g∧B≤b∧v=.slice (some ⟨b,o,none⟩) n c∧n≤c∧b<w.heap.size∧∀j u,cs[j]? =some u→w.cell? ⟨b,o+j,none⟩=some u
theorem gR.rw{g B:Nat}{w:World}{v:Value}{n:Nat}{cs:List Value}(h:gR g B w v n cs):Rw w v n cs:=by
 rcases h with h|⟨b,o,c,_,_,h⟩
 ·exact .inl h
 ·exact .inr ⟨b,o,c,h⟩
theorem gR.later{g B:Nat}{w w':World}{v:Value}{n:Nat}{cs:List Value}(h:gR g B w v n cs)(hb:Below w.heap.size w w'):gR g B w' v n cs:=by
 refine h.imp id ?_;rintro⟨b,o,c,h0,hB,h1,h2,h3,h4⟩;exact⟨b,o,c,h0,hB,h1,h2,Nat.lt_of_lt_of_le h3 hb.size,fun j u hj=>bo (h4 j u hj) hb⟩
theorem gR.set{g B k:Nat}{w:World}{v:Value}{n:Nat}{cs:List Value}(h:gR g B w v n cs)(hk:k=g∨k<B)(i:Nat)(u:Value):gR g B (w.setCell ⟨k,i,none⟩ u) v n cs:=by
 refine h.imp id ?_;rintro⟨b,o,c,h0,hB,h1,h2,h3,h4⟩;refine⟨b,o,c,h0,hB,h1,h2,by simpa using h3,fun j u hj=>?_⟩;rw[World.cell?_of_block (w:=w) (Below.heap_setCell w ⟨k,i,none⟩ _ b (show b≠k by omega))];exact h4 j u hj
theorem gR.of_old{g:Nat}{w:World}{v:Value}{n:Nat}{cs:List Value}(h:Rw w v n cs)(hg:w.heap.size≤g):gR g 0 w v n cs:=by
 refine h.imp id ?_;rintro⟨b,o,c,h1,h2,h3,h4⟩;exact⟨b,o,c,by omega,Nat.zero_le _,h1,h2,h3,h4⟩
theorem gR.of_own{w:World}{B B' g:Nat}{e:TypeId}{size:Nat}{v:Value}{n:Nat}{xs:List Value}(h:w.ownsRow B e size v n xs)(hg:g<B)(hB:B'≤B):gR g B' w v n xs:=by
 have hr:=Rw.of_own h;rcases h.2 with⟨rfl,rfl⟩|⟨k,cap,cur,rfl,hk,_⟩
 ·rcases hr with hr|⟨b,o,c,h1,_⟩
  ·exact .inl hr
  ·cases h1
 ·rcases hr with⟨h1,_⟩|⟨b,o,c,h1,h2⟩
  ·cases h1
  ·cases h1;exact .inr ⟨_,_,_,by omega,by omega,rfl,h2⟩
theorem Hj{w:World}{B g c:Nat}{e:TypeId}{size:Nat}{n:Nat}{xs:List Value}(h:w.ownsRow B e size (.slice (some ⟨g,0,none⟩) n c) n xs){i:Nat}(_hi:i<xs.length)(u:Value):(w.setCell ⟨g,i,none⟩ u).ownsRow B e size (.slice (some ⟨g,0,none⟩) n c) n (xs.set i u):=by
 obtain⟨hl,h⟩:=h;refine⟨by rw[List.length_set];exact hl,?_⟩;rcases h with⟨h1,_⟩|⟨k,cap,cur,h1,h2,h3,h4,h5,h6,h7⟩
 ·cases h1
 ·cases h1;refine .inr ⟨g,c,cur.setIfInBounds i u,rfl,h2,heap_setCell_same w g i cur e u h3,h4,h5,by simpa using h6,?_⟩;rw[Array.toList_setIfInBounds,←h7,List.take_set]
theorem Cf{w:World}{B g c:Nat}{e:TypeId}{size n:Nat}{xs:List Value}(h:w.ownsRow B e size (.slice (some ⟨g,0,none⟩) n c) n xs):B≤g∧g<w.heap.size∧(∀i u,xs[i]? =some u→w.cell? ⟨g,i,none⟩=some u)∧∀i,w.frozen? ⟨g,i,none⟩=false:=by
 obtain⟨hl,h⟩:=h;rcases h with⟨h1,_⟩|⟨k,cap,cur,h1,h2,h3,h4,h5,h6,h7⟩
 ·cases h1
 ·cases h1;refine⟨h2,ld h3,fun i u hi=>?_,fun i=>Bx.frozen (T:=e) h3 i⟩;rw[Bx.cell (T:=e) h3];rw[←h7,List.getElem?_take]at hi;split at hi
  ·simpa using hi
  ·cases hi
def Cg(g:Nat)(B:Nat→Nat)(w:World)(l:List (List Int×List Int×Bool))(xs:List (Value×Value)):Prop:=∀(i:Nat) (x:Value×Value) (a:List Int×List Int×Bool),xs[i]? =some x→l[i]? =some a→gR g (B i) w x.1 a.1.length (ll a.1)∧gR g (B i) w x.2 a.2.1.length (ll a.2.1)
def kq(B:Nat)(w:World)(A:Option Addr)(c:Nat)(l:List (List Int×List Int×Bool)):Prop:=∃g xs,xs.length=l.length∧w.ownsRow B 142 3 (.slice A l.length c) l.length (kQ xs l)∧Cg g (fun _=>B) w l xs
def abP(w:World)(l:List (List Int×List Int×Bool))(e:Ending)(w':World):Prop:=∃A c,e=.returned (.slice A l.length c)∧kq w.heap.size w' A c l∧Below w.heap.size w w'
theorem kq.arms{B:Nat}{w:World}{A:Option Addr}{c:Nat}{l:List (List Int×List Int×Bool)}(h:kq B w A c l):sh w (.slice A l.length c) l:=by
 obtain⟨g,xs,h1,h2,h3⟩:=h;exact⟨xs,h1,Rw.of_own h2,fun i x a hx hla=>⟨(h3 i x a hx hla).1.rw,(h3 i x a hx hla).2.rw⟩⟩
theorem kq.later{B:Nat}{w w':World}{A:Option Addr}{c:Nat}{l:List (List Int×List Int×Bool)}(h:kq B w A c l)(hb:Below w.heap.size w w'):kq B w' A c l:=by
 obtain⟨g,xs,h1,h2,h3⟩:=h;exact⟨g,xs,h1,jx h2 hb,fun i x a hx hla=>⟨(h3 i x a hx hla).1.later hb,(h3 i x a hx hla).2.later hb⟩⟩
theorem gR.mono{g B B':Nat}{w:World}{v:Value}{n:Nat}{cs:List Value}(h:gR g B w v n cs)(hB:B'≤B):gR g B' w v n cs:=by
 refine h.imp id ?_;rintro⟨b,o,c,h0,h1,h⟩;exact⟨b,o,c,h0,Nat.le_trans hB h1,h⟩
theorem kq.mono{B B':Nat}{w:World}{A:Option Addr}{c:Nat}{l:List (List Int×List Int×Bool)}(h:kq B w A c l)(hB:B'≤B):kq B' w A c l:=by
 obtain⟨g,xs,h1,h2,h3⟩:=h;exact⟨g,xs,h1,oe h2 hB,fun i x a hx hla=>⟨(h3 i x a hx hla).1.mono hB,(h3 i x a hx hla).2.mono hB⟩⟩
theorem kq.set{B k:Nat}{w:World}{A:Option Addr}{c:Nat}{l:List (List Int×List Int×Bool)}(h:kq B w A c l)(hk:k<B)(i:Nat)(u:Value):kq B (w.setCell ⟨k,i,none⟩ u) A c l:=by
 obtain⟨g,xs,h1,h2,h3⟩:=h;exact⟨g,xs,h1,ownsRow_setCell_below h2 hk u,fun j x a hx hla=>⟨(h3 j x a hx hla).1.set (.inr hk) i u,(h3 j x a hx hla).2.set (.inr hk) i u⟩⟩
theorem abQ{w:World}(l:List (List Int×List Int×Bool)){A:Option Addr}{c:Nat}(h:sh w (.slice A l.length c) l)(hn:l.length≤1000000)(hl:∀a∈l,a.1.length≤1000000∧a.2.1.length≤1000000):
 Calls Tryz.prog 76 #[.slice A l.length c,.func (.func 77) #[] #[]] w (abP w l):=by
 obtain⟨xs,fk,dK,gZ⟩:=h;have h1:∀x∈xs,x.1.oneCell'=true∧x.2.oneCell'=true:=by
  intro x hx;obtain⟨i,hi,rfl⟩:=List.getElem_of_mem hx;obtain⟨h4,h5⟩:=gZ i xs[i] l[i] (by simp) (by simp);obtain⟨_,_,e1⟩:=h4.slice;obtain⟨_,_,e2⟩:=h5.slice;rw[e1,e2];exact⟨rfl,rfl⟩
 have HC:=aa (abK dK (Hi xs l fk) hn (abO xs l h1));have HL:=aa hl;have HX:=aa gZ;clear dK hl gZ h1;go_enter Tryz.func76,Tryz.ntmps76;go_wp2_with fail;refine(HC.out).mono ?_;rintro e w1 ⟨A1,c1,rfl,ho,hb⟩;clear HC;by_cases h0:l.length=0
 ·have HA:kq w.heap.size w1 A1 c1 l:=⟨0,xs,fk,ho,fun i x a _ ha=>by have:=(List.getElem?_eq_some_iff.1 ha).1;omega⟩;have HE:=aa HA;have HB:=aa hb;clear HA ho hb HX;rw[h0];go_wp2_with fail;refine wp_loop_rounds 1 ?_;rw[rounds_succ];go_wp2_with fail;go_ret;exact⟨A1,c1,by rw[h0];rfl,HE.out,HB.out⟩
 obtain⟨g,rfl⟩:∃g,A1=some ⟨g,0,none⟩:=by
  rcases ho.2 with⟨h1,h2⟩|⟨g,cap,cur,h1,_⟩
  ·exact absurd h2 h0
  ·cases h1;exact⟨g,rfl⟩
 have hA:Cg g (fun _=>0) w1 l xs:=fun i x a hx ha=>⟨(gR.of_old (HX.out i x a hx ha).1 (Cf ho).1).later hb,(gR.of_old (HX.out i x a hx ha).2 (Cf ho).1).later hb⟩
 have HO:=aa ho;have HB:=aa hb;have HA:=aa hA;clear ho hb hA HX;go_wp2_with fail
 go_loopg [11] (l.length) (fun k i wr=>∃(j:Nat) (xs:List (Value×Value)),j+k=l.length∧i=.int .i64 j∧xs.length=l.length∧wr.ownsRow w.heap.size 142 3 (.slice (some ⟨g,0,none⟩) l.length c1) l.length (kQ xs l)∧Cg g (fun i=>if i<j then w.heap.size else 0) wr l xs∧Below w.heap.size w wr)
 case atStart=>exact⟨0,xs,by omega,rfl,fk,HO.out,HA.out,HB.out⟩
 case round=>
  clear HO HB HA fk;clear xs;obtain⟨j,xs,hj,rfl,fk,ho,ha,hb⟩:=hrel;by_cases hlt:j<l.length
  ·have hjI:(j:Int)<(l.length:Int):=by omega
   obtain⟨x,hx⟩:∃x,xs[j]? =some x:=⟨xs[j]'(by omega),by simp⟩;obtain⟨a,hla⟩:∃a,l[j]? =some a:=⟨l[j]'(by omega),by simp⟩;obtain⟨fG,eL⟩:=ha j x a hx hla;obtain⟨k0,k1,k2⟩:=QY xs l j x a hx hla;obtain⟨qb,tj,yG,hg4⟩:=Cf ho;obtain⟨Aa,ca,e1⟩:=fG.rw.slice;obtain⟨Ab,cb,e2⟩:=eL.rw.slice;have z0:=yG _ _ k0;have z1:=yG _ _ k1;have z2:=yG _ _ k2;rw[e1]at z0 fG;rw[e2]at z1 eL;have HK:=aa (abN a fG.rw eL.rw (HL.out a (List.mem_of_getElem? hla)));have HO:=aa ho;have HA:=aa ha;have HB:=aa hb;have HLA:=aa hla;have HBS:=aa hb.size;clear k0 k1 k2 ho ha hb fG eL yG hx hla e1 e2;go_wp2_with fail;refine(HK.out).mono ?_;rintro e w5 ⟨B1,d1,B2,d2,rfl,o1,o2,au⟩;have VV:=aa (jx HO.out au);have HA5:=aa (show Cg g (fun i=>if i<j then w.heap.size else 0) w5 l xs from fun i x a hx hla=>⟨(HA.out i x a hx hla).1.later au,(HA.out i x a hx hla).2.later au⟩);have bc:=aa (HB.out.trans (au.mono HB.out.size));have jF:=aa (gR.of_own (B':=w.heap.size) o1 tj HBS.out);have eB:=aa (gR.of_own (B':=w.heap.size) o2 tj HBS.out);have HG:=aa qb;have HZ:=aa (Hi xs l fk);have y0:=bo z0 au;have y1:=bo z1 au;have y2:=bo z2 au;have yf:=(Cf VV.out).2.2.2;clear HA HB HO z0 z1 z2 hg4 tj o1 o2 au HK qb;go_wp2_with fail
   go_roundg (gk-1)
   case measure=>omega
   refine⟨j+1,xs.set j (.slice B1 a.1.length d1,.slice B2 a.2.1.length d2),by omega,by go_num,by rw[List.length_set];exact fk,?_,?_,?_⟩
   ·rw[QZ xs l j _ a (by omega) HLA.out];have hz:=HZ.out;exact Hj (Hj (Hj VV.out (by omega) _) (by rw[List.length_set];omega) _) (by rw[List.length_set,List.length_set];omega) _
   ·intro i y b hy hb;rw[List.getElem?_set]at hy;split at hy
    ·rename_i hij;subst hij;split at hy
     ·cases hy;rw[HLA.out]at hb;cases hb;rw[show(fun i=>if i<j+1 then w.heap.size else 0) j=w.heap.size from if_pos (Nat.lt_succ_self _)];exact⟨((jF.out.set (.inl rfl) _ _).set (.inl rfl) _ _).set (.inl rfl) _ _,((eB.out.set (.inl rfl) _ _).set (.inl rfl) _ _).set (.inl rfl) _ _⟩
     ·cases hy
    ·rename_i hij;have h9:=HA5.out i y b hy hb;rw[show(fun i=>if i<j+1 then w.heap.size else 0) i=(fun i=>if i<j then w.heap.size else 0) i by dsimp only;split<;>split<;>omega];exact⟨((h9.1.set (.inl rfl) _ _).set (.inl rfl) _ _).set (.inl rfl) _ _,((h9.2.set (.inl rfl) _ _).set (.inl rfl) _ _).set (.inl rfl) _ _⟩
   ·exact((bc.out.setCell (p:=⟨g,_,none⟩) HG.out _).setCell (p:=⟨g,_,none⟩) HG.out _).setCell (p:=⟨g,_,none⟩) HG.out _
  ·have hjI:¬(j:Int)<(l.length:Int):=by omega
   have HE:=aa (show kq w.heap.size wr (some ⟨g,0,none⟩) c1 l from⟨g,xs,fk,ho,fun i x a hx hla=>by
    have h9:=ha i x a hx hla;dsimp only at h9;rw[if_pos (by have:=(List.getElem?_eq_some_iff.1 hla).1;omega)]at h9;exact h9⟩)
   have HB:=aa hb;clear ho ha hb;go_wp2_with fail;go_ret;exact⟨_,c1,rfl,HE.out,HB.out⟩
end Go.Proofs.YtlpombjidhloiaaGreat
