/- types. What is constant has a value of its type. Condition: what each theorem says. -/
import Derived.Test.YtlpombjidhloiaaGreatBal
namespace Go.Proofs.YtlpombjidhloiaaGreat
open Go.RowKit
set_option maxRecDepth 100000
attribute [local go_sem ↓] Go.wp_at_zero Go.wp_at_succ
structure jR(B:Nat)(w:World)(t:Ty)(s:TS):Prop where
 names:w.ownsRow B 9 1 (.slice s.A1 t.names.length s.c1) t.names.length (uu t.names)
 fields:w.ownsRow B 139 3 (.slice s.A2 t.fields.length s.c2) t.fields.length (lj t.fields)
 arms:kq B w s.A3 s.c3 t.arms
 params:w.ownsRow B 144 2 (.slice s.A4 t.params.length s.c4) t.params.length (kg t.params)
theorem jR.tyIn{B:Nat}{w:World}{t:Ty}{s:TS}(h:jR B w t s):oc w t s:=⟨Rw.of_own h.names,Rw.of_own h.fields,h.arms.arms,Rw.of_own h.params⟩
theorem jR.later{B:Nat}{w w':World}{t:Ty}{s:TS}(h:jR B w t s)(hb:Below w.heap.size w w'):jR B w' t s:=⟨jx h.names hb,jx h.fields hb,h.arms.later hb,jx h.params hb⟩
theorem jR.mono{B B':Nat}{w:World}{t:Ty}{s:TS}(h:jR B w t s)(hB:B'≤B):jR B' w t s:=⟨oe h.names hB,oe h.fields hB,h.arms.mono hB,oe h.params hB⟩
theorem jR.set{B k:Nat}{w:World}{t:Ty}{s:TS}(h:jR B w t s)(hk:k<B)(i:Nat)(u:Value):jR B (w.setCell ⟨k,i,none⟩ u) t s:=⟨ownsRow_setCell_below h.names hk u,ownsRow_setCell_below h.fields hk u,h.arms.set hk i u,ownsRow_setCell_below h.params hk u⟩
def Ra(w:World)(t:Ty)(e:Ending)(w':World):Prop:=∃s,e=.returned (.agg (bX t s))∧jR w.heap.size w' t s∧Below w.heap.size w w'
set_option maxHeartbeats 1000000 in
theorem abR{w:World}(t:Ty)(s:TS)(h:oc w t s)(k:ln t):Calls Tryz.prog 38 #[.agg (bX t s)] w (Ra w t):=by
 have HI:=aa h;have HK:=aa k;go_enter Tryz.func38,Tryz.ntmps38;dsimp only[bX]at *;go_wp2_with fail;generalize az:w.alloc _=w1;obtain⟨ae,x1,aE⟩:=made az;generalize aU:w1.alloc _=w2;obtain⟨af,x2,bu⟩:=made aU
 replace x1:=x1.grow af
 rw[aE]at x2 bu
 replace af:=ae.trans (af.mono ae.size)
 clear az aU;have l1:=x1.lt;have l2:=x2.lt;have c0:w2.cell? ⟨w.heap.size,7,none⟩=_:=x1.cell 7;have c1:w2.cell? ⟨w.heap.size,8,none⟩=_:=x1.cell 8;have c2:w2.cell? ⟨w.heap.size,10,none⟩=_:=x1.cell 10;simp only[List.getElem?_toArray,List.getElem?_cons_zero,List.getElem?_cons_succ]at c0 c1 c2;have X1:=aa x1;have X2:=aa x2;have HB:=aa af;have HE:=aa bu;clear x1 x2 ae af aE h k bu w1;refine bh [10,11,12,13,14] [] (by kernel_rfl) ?_;refine qy (by kernel_rfl) (by intro c a d v w;cases d<;>exact Iff.rfl) (Below.refl _ _) [0,1,3,4,6,7] _ _ (by kernel_rfl) (by kernel_rfl) ?_;simp only[dX,List.filterMap,List.getElem?_toArray,List.getElem?_cons_zero,List.getElem?_cons_succ];repeat (go_big_quiet_step (fail))
 refine wpQuiet_nil ?_;refine lf (i:=2) (by kernel_rfl) aG rfl (by kernel_rfl) (Below.refl _ _) rfl (by intro c a d v w;cases d<;>exact Iff.rfl) (fun w1 _=>?_) (fun w4 ab=>(abH (HI.out.names.later (HB.out.trans (ab.mono HB.out.size))) (QV t.names).1 HK.out.names (QV t.names).2).mono ?_)
 ·go_simp
 rintro e w5 ⟨B1,d1,rfl,ho,hb⟩;have bc:=aa (ab.trans (hb.mono ab.size));have rD:=aa (oe ho ab.size);refine⟨hb,?_⟩;clear hb ab ho;refine qy (by kernel_rfl) (by intro c a d v w;cases d<;>exact Iff.rfl) bc.out [9] _ _ (by kernel_rfl) (by kernel_rfl) ?_;simp only[dX,List.filterMap,List.getElem?_toArray,List.getElem?_cons_zero,List.getElem?_cons_succ,List.getElem_toArray,List.getElem_cons_zero,List.getElem_cons_succ,Act.put,List.setIfInBounds_toArray,List.set_cons_zero,List.set_cons_succ];repeat (go_big_quiet_step (fail))
 refine wpQuiet_nil ?_;refine lf (i:=5) (by kernel_rfl) aG rfl (by kernel_rfl) bc.out rfl (by intro c a d v w;cases d<;>exact Iff.rfl) (fun w1 _=>?_) (fun w6 aH=>(abI (HI.out.fields.later (HB.out.trans ((bc.out.trans (aH.mono bc.out.size)).mono HB.out.size))) (QW t.fields).1 HK.out.fields (QW t.fields).2).mono ?_)
 ·go_simp
 rintro e w7 ⟨B2,d2,rfl,ho,hb⟩;have cA:=aa (bc.out.trans ((aH.trans (hb.mono aH.size)).mono bc.out.size));have rD:=aa (jx rD.out (aH.trans (hb.mono aH.size)));have vy:=aa (oe ho (Nat.le_trans bc.out.size aH.size));refine⟨hb,?_⟩;clear hb aH ho;refine lf (i:=8) (by kernel_rfl) aG rfl (by kernel_rfl) cA.out rfl (by intro c a d v w;cases d<;>exact Iff.rfl) (fun w1 _=>?_) (fun w8 fZ=>(abJ (HI.out.params.later (HB.out.trans ((cA.out.trans (fZ.mono cA.out.size)).mono HB.out.size))) (QX t.params).1 HK.out.params (QX t.params).2).mono ?_)
 ·go_simp
 rintro e w9 ⟨B4,d4,rfl,ho,hb⟩;have vz:=aa (cA.out.trans ((fZ.trans (hb.mono fZ.size)).mono cA.out.size));have rD:=aa (jx rD.out (fZ.trans (hb.mono fZ.size)));have vy:=aa (jx vy.out (fZ.trans (hb.mono fZ.size)));have VX:=aa (oe ho (Nat.le_trans cA.out.size fZ.size));refine⟨hb,?_⟩;clear hb fZ ho;refine cV 10 (by kernel_rfl) (by kernel_rfl) vz.out (fun wr hwr=>?_);simp only[List.getElem_toArray,List.getElem_cons_zero,List.getElem_cons_succ,Act.put,List.setIfInBounds_toArray,List.set_cons_zero,List.set_cons_succ,List.drop_succ_cons,List.drop_zero];have hb:=vz.out.trans (hwr.mono vz.out.size);have Y1:=aa (X1.out.grow hb);have Y2:=aa (X2.out.grow hb);have z:=Y1.out.cell;have fz:=Y1.out.frozen;have R1:=aa (jx rD.out hwr);have R2:=aa (jx vy.out hwr);have R4:=aa (jx VX.out hwr);have HW:=aa (HB.out.trans (hb.mono HB.out.size));have HSR:=aa hb.size;have l3:=Y2.out.lt;clear rD vy VX hb hwr;go_wp2_with fail;have T1:=aa (((Y1.out.set 7 (.slice B1 t.names.length d1)).set 8 (.slice B2 t.fields.length d2)).set 10 (.slice B4 t.params.length d4));have T2:=aa (((Y2.out.far (a:=⟨w.heap.size,7,none⟩) (by simp) (.slice B1 t.names.length d1)).far (a:=⟨w.heap.size,8,none⟩) (by simp) (.slice B2 t.fields.length d2)).far (a:=⟨w.heap.size,10,none⟩) (by simp) (.slice B4 t.params.length d4));have keep:∀{e n v xs sz},wr.ownsRow w2.heap.size e sz v n xs→World.ownsRow (((wr.setCell ⟨w.heap.size,7,none⟩ (.slice B1 t.names.length d1)).setCell ⟨w.heap.size,8,none⟩ (.slice B2 t.fields.length d2)).setCell ⟨w.heap.size,10,none⟩ (.slice B4 t.params.length d4)) w2.heap.size e sz v n xs:=fun h=>ownsRow_setCell_below (ownsRow_setCell_below (ownsRow_setCell_below h l1 _) l1 _) l1 _
 have U1:=aa (keep R1.out);have U2:=aa (keep R2.out);have U4:=aa (keep R4.out);have HX:=aa (((HW.out.setCell (p:=⟨w.heap.size,7,none⟩) (Nat.le_refl _) (.slice B1 t.names.length d1)).setCell (p:=⟨w.heap.size,8,none⟩) (Nat.le_refl _) (.slice B2 t.fields.length d2)).setCell (p:=⟨w.heap.size,10,none⟩) (Nat.le_refl _) (.slice B4 t.params.length d4));have HSZ:=aa (show w2.heap.size≤(((wr.setCell ⟨w.heap.size,7,none⟩ (.slice B1 t.names.length d1)).setCell ⟨w.heap.size,8,none⟩ (.slice B2 t.fields.length d2)).setCell ⟨w.heap.size,10,none⟩ (.slice B4 t.params.length d4)).heap.size by simp;exact HSR.out);clear keep R1 R2 R4 Y1 Y2 X1 X2 z fz HW vz cA bc;generalize World.setCell _ _ _=w10 at *;refine(abQ t.arms (HI.out.arms.later HX.out) HK.out.arms HK.out.rows).mono ?_;rintro e w11 ⟨B3,d3,rfl,har,hb⟩;have V1:=T1.out.grow hb;have V2:=T2.out.grow hb;have z:=fun i=>V1.cell i
 have fz:=fun i=>V1.frozen i
 have z2:=fun i=>V2.cell i
 have fz2:=fun i=>V2.frozen i
 have W1:=aa (jx U1.out hb);have W2:=aa (jx U2.out hb);have W4:=aa (jx U4.out hb);have HY:=aa (HX.out.trans (hb.mono HX.out.size));have HLS:=aa (har.mono HSZ.out);simp only[List.setIfInBounds_toArray,List.set_cons_zero,List.set_cons_succ]at z;clear T1 T2 U1 U2 U4 HX hb har;go_wp2_with fail;refine bodyPost_ret (results_cell_row rfl _ _ (w.heap.size+1) _ _ (0,0) _ rfl (((((((((((((V2.far (a:=⟨w.heap.size,9,none⟩) (by simp) _).set 0 _).set 1 _).set 2 _).set 3 _).set 4 _).set 5 _).set 6 _).set 7 _).set 8 _).set 9 _).set 10 _).set 11 _) Tryz.underlying47 rfl ?_) rfl ?_
 ·refine info47.trans (congrArg some ?_);simp
 refine⟨⟨B1,d1,B2,d2,B3,d3,B4,d4⟩,by simp only[List.setIfInBounds_toArray,List.set_cons_zero,List.set_cons_succ,bX],?_,?_⟩
 ·refine jR.mono (B:=w2.heap.size) ?_ (Nat.le_of_lt l1);iterate 13 (refine jR.set ?_ (by first|exact l1|exact l2) _ _)
  exact⟨W1.out,W2.out,HLS.out,W4.out⟩
 ·iterate 13 (refine Below.setCell ?_ (by first|exact Nat.le_refl _|exact Nat.le_succ _) _)
  exact HY.out
set_option maxHeartbeats 1000000 in
theorem nO{w:World}{p:Nat}{T:List Ty}(h:cF w p T)(i:Int):Calls Tryz.prog 12 #[.pointer (some ⟨p,0,none⟩),.int .i64 i] w (Ra w (aF T i)):=by
 have H:=aa h;clear h;go_enter Tryz.func12,Tryz.ntmps12;go_wp2_with fail;generalize az:w.alloc _=w1;obtain⟨ae,x1,aE⟩:=made az;have H1:=aa (H.out.later ae);have aO:=aa ae;have X1:=aa x1;clear az ae x1 aE;refine(kP H1.out i).mono ?_;rintro e w2 ⟨s,rfl,hin,hb⟩;have aV:=aa (aO.out.trans (hb.mono aO.out.size));have X2:=aa (X1.out.grow hb);have HI:=aa hin;clear hb hin aO X1;go_wp2_with fail;refine(abR (aF T i) s HI.out (abD H1.out.ok i)).mono ?_;rintro e w3 ⟨s3,rfl,hin,hb⟩;have X3:=X2.out.grow hb;have bD:=aa (aV.out.trans (hb.mono aV.out.size));have HI3:=aa hin;have Kh:=aa X2.out.lt;clear hb hin aV X2;have z:=fun i=>X3.cell i
 have fz:=fun i=>X3.frozen i
 have l2:w.heap.size<w2.heap.size:=Kh.out;dsimp only[bX];go_wp2_with fail;refine bodyPost_ret (results_cell_row rfl _ _ w.heap.size _ _ (0,0) _ rfl ((((((((((((X3.set 0 _).set 1 _).set 2 _).set 3 _).set 4 _).set 5 _).set 6 _).set 7 _).set 8 _).set 9 _).set 10 _).set 11 _) Tryz.underlying47 rfl ?_) rfl ?_
 ·refine info47.trans (congrArg some ?_);simp
 refine⟨s3,by simp only[List.setIfInBounds_toArray,List.set_cons_zero,List.set_cons_succ,bX],?_,?_⟩
 ·refine jR.mono (B:=w2.heap.size) ?_ (Nat.le_of_lt l2);iterate 12 (refine jR.set ?_ l2 _ _)
  exact HI3.out
 ·iterate 12 (refine Below.setCell ?_ (by exact Nat.le_refl _) _)
  exact bD.out
end Go.Proofs.YtlpombjidhloiaaGreat
namespace Go.Proofs.YtlpombjidhloiaaGreat
theorem BK{t:Int}{r:aL×Int}{x:ao}(hx:ep x.pos)(h:r.2=0→kO t r.1∨(bE worldT t=true∧t≠8∧∃n,r.1=.whole n∧ -32768≤n∧n≤65535)):RR eb (cS worldT x t r):=by
 unfold cS;split
 ·exact hx
 ·rename_i h0;have h0:r.2=0:=by simpa using h0
  split
  ·exact hx
  ·rename_i hn;refine⟨?_,fun h=>absurd rfl h⟩;rcases h h0 with h|⟨h1,_,n,h2,h3⟩
   ·exact h
   ·have h4:=Qd h1;simp only[List.mem_cons,List.not_mem_nil,or_false]at h4;rw[h1]at hn;unfold eh at hn;rw[h2]at hn ⊢;simp only[aR,if_pos h3,Bool.true_and,Bool.not_eq_true',Bool.not_eq_false,Bool.and_eq_true,decide_eq_true_eq]at hn;exact⟨h4,hn⟩
theorem aaJ:∀t:Fin 24,bE worldT t.val=true→(aP worldT t.val)∈([1,2,5]:List Int):=by decide +kernel
theorem BL{t:Int}(h:bE worldT t=true):aP worldT t∈([1,2,5]:List Int):=by
 obtain⟨n,rfl⟩:=nX (BJ (Qb h));exact aaJ n h
theorem GU{t:Int}(h:t∈([1,2,5]:List Int)):bE worldT t=true∧t≠8:=by
 simp only[List.mem_cons,List.not_mem_nil,or_false]at h;rcases h with rfl|rfl|rfl<;>decide +kernel
theorem aaK:∀t:Fin 24,bP worldT t.val=3→(t.val:Int)=3:=by decide +kernel
theorem Qf{t:Int}(h:bP worldT t=3):t=3:=by
 have hk:aJ worldT t≠0:=by
  intro h0;have:bP worldT t=0:=by
   unfold bP aP;have hk:(aF worldT t).kind=0:=h0;rw[hk,if_neg (by decide)];exact h0
  omega
 obtain⟨n,rfl⟩:=nX hk;exact aaK n h
theorem aaL:∀t:Fin 24,aJ worldT t.val=13→(t.val:Int)=9∨(t.val:Int)=15:=by decide +kernel
theorem BM{t:Int}(h:aJ worldT t=13):t=9∨t=15:=by
 obtain⟨n,rfl⟩:=nX (show aJ worldT t≠0 by omega);exact aaL n h
theorem aaM{t:Int}(h:aJ worldT t=13):aP worldT t=t:=by
 rcases BM h with rfl|rfl<;>decide +kernel
theorem uJ{n:Int}(h:(eQ n).2=0):∃m,(eQ n).1=.whole m∧ -32768≤m∧m≤65535:=by
 unfold eQ at h ⊢;split at h
 ·rename_i hc;rw[if_pos hc];exact⟨n,rfl,hc⟩
 ·exact mB
theorem aaN{op:Op}{n m:Int}{r:aL×Int}(h:fB op n m=some r)(h0:r.2=0):(∃k,r.1=.whole k∧ -32768≤k∧k≤65535)∧(op=bV∨op=bW∨op=cP∨op=eO∨op=eP):=by
 unfold fB at h;by_cases h1:op=bV
 ·rw[if_pos h1]at h;obtain rfl:=Option.some.inj h;exact⟨uJ h0,.inl h1⟩
 rw[if_neg h1]at h;by_cases h2:op=bW
 ·rw[if_pos h2]at h;obtain rfl:=Option.some.inj h;exact⟨uJ h0,.inr (.inl h2)⟩
 rw[if_neg h2]at h;by_cases h3:op=cP
 ·rw[if_pos h3]at h;obtain rfl:=Option.some.inj h;exact⟨uJ h0,.inr (.inr (.inl h3))⟩
 rw[if_neg h3]at h;by_cases h4:op=eO
 ·rw[if_pos h4]at h;obtain rfl:=Option.some.inj h;by_cases hm:m=0
  ·rw[if_pos hm]at h0;exact absurd h0 (by decide)
  ·rw[if_neg hm]at h0 ⊢;exact⟨uJ h0,.inr (.inr (.inr (.inl h4)))⟩
 rw[if_neg h4]at h;by_cases h5:op=eP
 ·rw[if_pos h5]at h;obtain rfl:=Option.some.inj h;by_cases hm:m=0
  ·rw[if_pos hm]at h0;exact absurd h0 (by decide)
  ·rw[if_neg hm]at h0 ⊢;exact⟨uJ h0,.inr (.inr (.inr (.inr h5)))⟩
 rw[if_neg h5]at h;cases h
theorem aaO{op:Op}{n m:Int}(h:fB op n m=none):¬(op=bV∨op=bW∨op=cP∨op=eO∨op=eP):=by
 rintro(rfl|rfl|rfl|rfl|rfl)<;>cases h
theorem aaP{op:Op}{n m:Int}(h:(bC op (.whole n) (.whole m)).2=0):(∃k,(bC op (.whole n) (.whole m)).1=.whole k∧ -32768≤k∧k≤65535∧(op=bV∨op=bW∨op=cP∨op=eO∨op=eP))∨(∃b,(bC op (.whole n) (.whole m)).1=.truth b∧¬(op=bV∨op=bW∨op=cP∨op=eO∨op=eP)):=by
 unfold bC at h ⊢;split at h
 ·exact mB
 rename_i h1;rw[if_neg h1];split at h
 ·exact mB
 rename_i h2;rw[if_neg h2];have hn:aR (.whole n)=some n:=by
  simp[dm]at h2;show(if -32768≤n∧n≤65535 then some n else none)=some n;rw[if_pos ⟨h2.1.1,h2.1.2⟩]
 have hm:aR (.whole m)=some m:=by
  simp[dm]at h2;show(if -32768≤m∧m≤65535 then some m else none)=some m;rw[if_pos ⟨h2.2.1,h2.2.2⟩]
 split at h
 ·rw[hn]at h;cases h
 rename_i h3;rw[if_neg h3];simp only[aT,dz,hn,hm]at h ⊢;cases hr:fB op n m with
 |some r=>
  rw[hr]at h;obtain⟨⟨k,e,h4,h5⟩,h6⟩:=aaN hr (by simpa using h);exact .inl ⟨k,by simpa using e,h4,h5,h6⟩
 |none=>
  refine .inr ?_;have hno:=aaO hr;cases ha:gE op n m with
  |some b=>exact⟨b,by simp,hno⟩
  |none=>rw[hr,ha]at h;simp at h
theorem Qg{op:Op}{a b:aL}(ho:op=dT∨op=eI∨op=gm∨op=fw∨op=gn∨op=fy∨op=bB)(h:(bC op a b).2=0):∃c,(bC op a b).1=.truth c:=by
 unfold bC at h ⊢;split at h
 ·exact mB
 rename_i h1;rw[if_neg h1];split at h
 ·exact mB
 rename_i h2;rw[if_neg h2];split at h
 ·rename_i h3;rw[if_pos h3];split at h
  ·exact⟨_,rfl⟩
  ·exact mB
 rename_i h3;rw[if_neg h3];simp only at h ⊢;have hr:∀n m,fB op n m=none:=by
  intro n m;rcases ho with rfl|rfl|rfl|rfl|rfl|rfl|rfl<;>rfl
 have hs:∀x y v,eY op x y=some v→∃c,v=.truth c:=by
  intro x y v hv;rcases ho with rfl|rfl|rfl|rfl|rfl|rfl|rfl<;>first|(cases hv;done)|(obtain rfl:=Option.some.inj hv;exact⟨_,rfl⟩)
 have iQ:∀x y,(eY op 0 0).isSome=true→(eY op x y).isSome=true:=by
  intro x y hv;rcases ho with rfl|rfl|rfl|rfl|rfl|rfl|rfl<;>first|(cases hv;done)|rfl
 split at h
 ·rename_i x u e1 e2;split at h
  ·rename_i y e3;have:=iQ x y (by rw[e2];rfl);obtain⟨v,hv⟩:=Option.isSome_iff_exists.1 this;obtain⟨c,rfl⟩:=hs x y v hv;refine⟨c,?_⟩;simp[hv]
  ·exact mB
 ·rename_i hx;split at h
  ·exact mB
  rename_i h4;rw[if_neg h4];split at h
  ·rename_i h5;rw[if_pos h5];exact⟨_,rfl⟩
  rename_i h5;rw[if_neg h5];generalize aT a=a' at *;generalize aT b=b' at *;generalize aR a=na at *;generalize aR b'=nb at *;have hand:¬(op=bQ∨op=bR):=by
   rcases ho with rfl|rfl|rfl|rfl|rfl|rfl|rfl<;>decide
  cases na with
  |none=>exact absurd h (by cases nb<;>simp)
  |some n=>
   cases nb with
   |none=>exact absurd h (by simp)
   |some m=>
    simp only[hr]at h ⊢;cases ha:gE op n m with
    |some q=>exact⟨q,by cases a'<;>simp[hand]⟩
    |none=>exfalso;cases a'<;>simp[ha,hand]at h
theorem aaQ{op:Op}{x y:Nat}(ho:op=bV∨op=bW∨op=cP∨op=fe)(hx:x<65536)(hy:y<65536):∃c,(bC op (.bits x) (.bits y)).1=.bits c∧c<65536:=by
 have h1:x ||| y<2^ 16:=Nat.or_lt_two_pow hx hy;have h2:x ^^^ y<2^ 16:=Nat.xor_lt_two_pow hx hy;have h3:x &&& y<65536:=Nat.lt_of_le_of_lt Nat.and_le_left hx;have h4:x &&& (65535-y)<65536:=Nat.lt_of_le_of_lt Nat.and_le_left hx;rcases ho with rfl|rfl|rfl|rfl
 ·exact⟨_,rfl,h1⟩
 ·exact⟨_,rfl,h4⟩
 ·exact⟨_,rfl,h3⟩
 ·exact⟨_,rfl,h2⟩
theorem aaR{op:Op}{a b:aL}(ho:op=bQ∨op=bR)(h:(bC op a b).2=0):∃c,(bC op a b).1=.truth c:=by
 unfold bC at h ⊢;split at h
 ·exact mB
 rename_i h1;rw[if_neg h1];split at h
 ·exact mB
 rename_i h2;rw[if_neg h2];have h3:¬op=bB:=by rcases ho with rfl|rfl<;>decide
 rw[if_neg h3]at h ⊢;simp only at h ⊢;have hr:∀n m,fB op n m=none:=by
  intro n m;rcases ho with rfl|rfl<;>rfl
 have hs:eY op 0 0=none:=by
  rcases ho with rfl|rfl<;>rfl
 have ha:∀n m,gE op n m=none:=by
  intro n m;rcases ho with rfl|rfl<;>rfl
 rw[hs]at h ⊢;split at h
 ·rename_i x u e1 e2;cases e2
 ·rename_i hx;split at h
  ·exact mB
  rename_i h4;rw[if_neg h4];split at h
  ·rename_i h5;rw[if_pos h5];exact⟨_,rfl⟩
  rename_i h5;rw[if_neg h5];generalize aT a=a' at *;generalize aT b=b' at *;generalize aR a=na at *;generalize aR b'=nb at *;cases na with
  |none=>exact absurd h (by cases nb<;>simp)
  |some n=>
   cases nb with
   |none=>exact absurd h (by simp)
   |some m=>
    simp only[hr]at h ⊢;cases a'<;>simp[ha,ho]at h ⊢
theorem aaS{op:Op}(h:op∉([dT,eI,gm,fw,gn,fy,bB,bV,bW,cP,fe,eO,eP,bQ,bR]:List Op))(a b:aL):(bC op a b).2≠0:=by
 simp only[List.mem_cons,List.not_mem_nil,or_false,not_or]at h;obtain⟨h1,h2,h3,h4,h5,h6,h7,h8,h9,h10,h11,h12,h13,h14,h15⟩:=h;unfold bC;rw[if_pos (by simp[gE,fB,eY,h1,h2,h3,h4,h5,h6,h7,h8,h9,h10,h11,h12,h13,h14,h15])];decide
theorem GV{t:Int}{v:aL}(h:kO t v)(ht:bE worldT t=true)(hv:v≠.none):∃n,v=.whole n:=by
 have ht:=Qd ht;simp only[List.mem_cons,List.not_mem_nil,or_false]at ht;cases v with
 |none=>exact absurd rfl hv
 |whole n=>exact⟨n,rfl⟩
 |letter c=>have:=h.1;omega
 |truth b=>have:t=3:=h;omega
 |bits b=>have:=h.1;omega
 |str s=>have:t=6:=h;omega
 |item u n=>have:=h.1;omega
 |null=>have:t=7:=h;omega
theorem Qh{t:Int}{v:aL}(h:kO t v)(ht:aJ worldT t=13)(hv:v≠.none):∃b,v=.bits b∧b<65536:=by
 have ht:=BM ht;cases v with
 |none=>exact absurd rfl hv
 |whole n=>have:=h.1;omega
 |letter c=>have:=h.1;omega
 |truth b=>have:t=3:=h;omega
 |bits b=>exact⟨b,rfl,h.2⟩
 |str s=>have:t=6:=h;omega
 |item u n=>have:=h.1;omega
 |null=>have:t=7:=h;omega
theorem Qi{x:ao}{a b:Jd}(h0:ep (kid x 0).pos)(h1:ep (kid x 1).pos):RR (fun _=>True) (gC worldT x a b):=by
 unfold gC;split
 ·exact trivial
 ·have e0:=RR.needed (b:=(decide (a.type≠5)||decide (b.type=5)||eh worldT a.val (aP worldT b.type))) (e:=254) h0;split
  ·rename_i e he;rw[he]at e0;exact e0
  ·exact RR.needed h1
theorem aaT{a b:Int}(ha:bE worldT a=true)(hb:bE worldT b=true):bE worldT (if aP worldT a=5 then aP worldT b else aP worldT a)=true∧(if aP worldT a=5 then aP worldT b else aP worldT a)≠8:=by
 split
 ·exact GU (BL hb)
 ·exact GU (BL ha)
theorem aaU{V:ea}(h:pI V){x:ao}(hx:ep x.pos)(h0:ep (kid x 0).pos)(h1:ep (kid x 1).pos){a b:Jd}(ha:eb a)(hb:eb b):RR eb (iV V x a b):=by
 have hT:=h.T;unfold iV;rw[hT];simp only;refine RR.need hx fun _=>RR.need h0 fun _=>RR.need h1 fun _=>?_
 by_cases hin:x.name=bB
 ·rw[if_pos hin];refine RR.need hx fun _=>RR.need hx fun _=>?_
  split
  ·exact GW
  ·refine BK hx fun hr=>.inl ?_
   obtain⟨c,e⟩:=Qg (by simp[hin]) hr;rw[e];rfl
 rw[if_neg hin];by_cases hask:x.name=dT∨x.name=eI∨x.name=gm∨x.name=fw∨x.name=gn∨x.name=fy
 ·rw[if_pos hask];refine RR.need hx fun _=>RR.bind (Qi h0 h1) fun _ _=>?_
  split
  ·exact GW
  ·refine BK hx fun hr=>.inl ?_
   obtain⟨c,e⟩:=Qg (by rcases hask with h|h|h|h|h|h<;>simp[h]) hr;rw[e];rfl
 rw[if_neg hask];refine RR.need hx fun hf=>RR.bind (Qi h0 h1) fun _ _=>?_
 split
 ·exact GW
 rename_i hv;simp only[not_or]at hv;refine BK hx fun hr=>?_
 have hnum:bE worldT a.type=true→bE worldT b.type=true→(x.name=bV∨x.name=bW∨x.name=cP∨x.name=eO∨x.name=eP)→kO (if aP worldT a.type=5 then aP worldT b.type else aP worldT a.type) (bC x.name a.val b.val).1∨(bE worldT (if aP worldT a.type=5 then aP worldT b.type else aP worldT a.type)=true∧(if aP worldT a.type=5 then aP worldT b.type else aP worldT a.type)≠8∧∃n,(bC x.name a.val b.val).1=.whole n∧ -32768≤n∧n≤65535):=by
  intro na nb ho;obtain⟨n,en⟩:=GV ha.1 na hv.1;obtain⟨m,em⟩:=GV hb.1 nb hv.2;rw[en,em]at hr ⊢;obtain⟨t1,t2⟩:=aaT na nb;rcases aaP hr with⟨k,e,h4,h5,_⟩|⟨c,e,hno⟩
  ·exact .inr ⟨t1,t2,k,e,h4,h5⟩
  ·exact absurd ho hno
 have hset:aJ worldT a.type=13→aJ worldT b.type=13→(x.name=bV∨x.name=bW∨x.name=cP∨x.name=fe)→kO (if aP worldT a.type=5 then aP worldT b.type else aP worldT a.type) (bC x.name a.val b.val).1:=by
  intro na nb ho;obtain⟨n,en,hn⟩:=Qh ha.1 na hv.1;obtain⟨m,em,hm⟩:=Qh hb.1 nb hv.2;rw[en,em,aaM na];have:=BM na;rw[if_neg (by omega)];obtain⟨c,e,hc⟩:=aaQ ho hn hm;rw[e];exact⟨this,hc⟩
 unfold cM at hf;split at hf
 ·cases hf
 simp only at hf;split at hf
 ·rename_i ho;rw[Bool.or_eq_true,Bool.and_eq_true,Bool.and_eq_true,decide_eq_true_eq,decide_eq_true_eq]at hf;rcases hf with⟨na,nb⟩|⟨na,nb⟩
  ·exact hnum na nb (by rcases ho with h|h|h<;>simp[h])
  ·exact .inl (hset na nb (by rcases ho with h|h|h<;>simp[h]))
 rename_i o1;split at hf
 ·rename_i ho;rw[Bool.and_eq_true,decide_eq_true_eq,decide_eq_true_eq]at hf;exact .inl (hset hf.1 hf.2 (by simp[ho]))
 rename_i o2;split at hf
 ·rename_i ho;rw[Bool.and_eq_true]at hf;exact hnum hf.1 hf.2 (by rcases ho with h|h<;>simp[h])
 rename_i o3;split at hf
 ·rename_i ho;rw[Bool.and_eq_true,decide_eq_true_eq,decide_eq_true_eq]at hf;obtain⟨c,e⟩:=aaR ho hr;rw[e,Qf hf.1];refine .inl ?_;have:aP worldT 3=3:=by decide +kernel
  rw[this];rfl
 rename_i o4;exfalso;refine aaS ?_ _ _ hr;simp only[List.mem_cons,List.not_mem_nil,or_false,not_or]at hask o1 o3 o4 ⊢;exact⟨hask.1,hask.2.1,hask.2.2.1,hask.2.2.2.1,hask.2.2.2.2.1,hask.2.2.2.2.2,hin,o1.1,o1.2.1,o1.2.2,o2,o3.1,o3.2,o4.1,o4.2⟩
theorem BO{V:ea}(h:pI V){x:ao}(hx:ep x.pos):RR (fun e=>(e.kind=1→kO e.type e.val)∧(e.kind=2→(aJ worldT e.type=13→e.type=9∨e.type=15)∧e.type∈[1,2,3,4,9,10,11,13,15,20])) (eX V x):=by
 unfold eX;split
 ·cases hf:V.find x.name with
  |none=>exact hx
  |some e=>exact h.find _ _ hf
 ·split
  ·cases hf:V.of_ (kid x 0).name x.name with
   |none=>exact hx
   |some e=>exact h.of_ _ _ _ hf
  ·exact hx
theorem Qj{V:ea}(h:pI V){x:ao}(hx:ep x.pos):RR eb (nameJ V x):=by
 have hn:=BO h hx;unfold nameJ;cases he:eX V x with
 |error e=>rw[he]at hn;exact hn
 |ok e=>
  rw[he]at hn;simp only;split
  ·rename_i k1;exact⟨hn.1 k1,fun h=>absurd rfl h⟩
  split
  ·exact BP
  split
  ·exact BP
  split
  ·exact BP
  split
  ·exact BP
  ·exact hx
theorem aaV{x:ao}(hx:ep x.pos){j:Jd}(hj:eb j)(hv:j.val≠.none)
 (hc:(bE worldT j.type&&(decide (x.name=bV)||(decide (x.name=bW)&&decide (bP worldT j.type≠2)))||(decide (x.name=pz)&&decide (bP worldT j.type=3)))=true):
 RR eb (cS worldT x (aP worldT j.type) (jO x.name j.val)):=by
 refine BK hx fun hr=>?_
 rw[Bool.or_eq_true,Bool.and_eq_true,Bool.and_eq_true,decide_eq_true_eq,decide_eq_true_eq]at hc;rcases hc with⟨hn,hs⟩|⟨hs,hb⟩
 ·obtain⟨n,en⟩:=GV hj.1 hn hv;obtain⟨t1,t2⟩:=GU (BL hn);refine .inr ⟨t1,t2,?_⟩;have hop:x.name=bV∨x.name=bW:=by
   rw[Bool.or_eq_true,Bool.and_eq_true,decide_eq_true_eq,decide_eq_true_eq]at hs;exact hs.imp id (·.1)
  rw[en]at hr ⊢;unfold jO at hr ⊢;rw[if_pos hop]at hr ⊢;simp only at hr ⊢;split at hr
  ·exact absurd hr (by decide)
  rename_i hi;rw[if_neg hi];split at hr
  ·rename_i h3;rw[if_pos h3];exact uJ hr
  ·rename_i h3;rw[if_neg h3];simp[dm]at hi;exact⟨n,rfl,hi⟩
 ·refine .inl ?_;have h3:=Qf hb;rw[h3];rw[show aP worldT 3=3 by decide +kernel];have hop:¬(x.name=bV∨x.name=bW):=by rw[hs];decide
  unfold jO at hr ⊢;rw[if_neg hop,if_pos hs]at hr ⊢;cases hjv:j.val<;>rw[hjv]at hr<;>first|(simp at hr;done)|rfl
theorem sD(t i:Int):eb ⟨t,.none,i⟩:=⟨trivial,fun _=>rfl⟩
theorem GY{t n:Int}(h:bH worldT t=true)(h1:(rangeT worldT t).1≤n)(h2:n≤(rangeT worldT t).2.1):kO t (cR (aP worldT t) n):=by
 have ht:=Qc h;have hr:=Qa t ht;simp only[List.mem_cons,List.not_mem_nil,or_false]at ht;rw[hr]at h1 h2;have hw: -32768≤n→n≤65535→(eQ n).1=.whole n:=fun a b=>by unfold eQ;rw[if_pos ⟨a,b⟩]
 rcases ht with rfl|rfl|rfl|rfl|rfl|rfl|rfl|rfl
 ·rw[show aP worldT 1=1 by decide +kernel];simp only[cR,hw (by simpa using h1) (by simp at h2;omega)];exact GZ
 ·rw[show aP worldT 2=2 by decide +kernel];simp at h1 h2;simp[cR,hw (by omega) (by omega)];exact GZ
 ·rw[show aP worldT 3=3 by decide +kernel];simp at h1 h2;have:n=0∨n=1:=by omega
  rcases this with rfl|rfl<;>rfl
 ·rw[show aP worldT 4=4 by decide +kernel];simp at h1 h2;simp[cR,h1,h2];exact⟨rfl,by omega⟩
 ·rw[show aP worldT 5=5 by decide +kernel];simp at h1 h2;simp[cR,hw (by omega) (by omega)];exact GZ
 ·have hb:aP worldT 8=1∨aP worldT 8=2:=by decide +kernel
  exact Qm
 ·have hb:aP worldT 10=1∨aP worldT 10=2:=by decide +kernel
  exact Qm
 ·rw[show aP worldT 11=11 by decide +kernel];simp at h1 h2;simp[cR];exact⟨rfl,rfl,by omega⟩
theorem aaY{a:Nat}(lo hi:Int)(h:a<65536):ik lo hi a<65536:=by
 unfold ik;generalize List.range (hi-lo+1).toNat=l
 induction l generalizing a with
 |nil=>exact h
 |cons i l ih=>
  refine ih ?_;have h1:1 <<< ((lo+(i:Int))% 16).toNat<2^ 16:=by
   rw[Nat.one_shiftLeft];exact Nat.pow_lt_pow_right (by omega) (by omega)
  exact Nat.or_lt_two_pow h h1
theorem aaZ:∀t:Fin 24,0≤(aN worldT t.val).1∧(aN worldT t.val).1≤65535:=by decide +kernel
structure BR(V:ea)(f:Nat):Prop where
 expr:∀x,Tk x→RR eb (exprJ V f x)
 dot:∀x,Tk x→x.kind=2→RR eb (dotJ V f x)
 index:∀x,Tk x→x.kind=3→RR eb (indexJ V f x)
 deref:∀x,Tk x→x.kind=4→RR eb (derefJ V f x)
 elem:∀x b,Tk x→RR (fun _=>True) (elemJ V f x b)
 set:∀x,Tk x→x.kind=8→RR eb (setJ V f x)
 elems:∀l b a k,(∀y∈l,Tk y)→a<65536→RR (fun r=>r.1<65536) (ff V f l b a k)
 one:∀x,Tk x→x.kind=12→RR eb (oneJ V f x)
 fun_:∀x,Tk x→x.kind=10→RR eb (funJ V f x)
 sized:∀x,Tk x→RR (fun _=>True) (sizedJ V f x)
 call:∀x l d,Tk x→(∀y∈l,Tk y)→RR (fun t=>0<cG V x→(bH worldT t=true∨t=0)∧(cG V x=11∨cG V x=12→bH worldT t=true)∧(cG V x=16→t=2)∧(d=false→l≠[])) (callJ V f x l d)
 args:∀l ps,(∀y∈l,Tk y)→RR (fun _=>True) (gD V f l ps)
 std:∀x s l d,Tk x→(∀y∈l,Tk y)→RR (fun t=>(bH worldT t=true∨t=0)∧(s=11∨s=12→bH worldT t=true)∧(s=16→t=2)∧(d=false→l≠[])) (stdCallJ V f x s l d)
 plain:∀x,Tk x→RR eb (plainJ V f x)
 whole:∀x,Tk x→RR (fun j=>eb j∧bE worldT j.type=true) (wholeJ V f x)
theorem aa0(V:ea):BR V 0 where
 expr:=fun x h=>h.pos
 dot:=fun x h _=>h.pos
 index:=fun x h _=>h.pos
 deref:=fun x h _=>h.pos
 elem:=fun x _ h=>h.pos
 set:=fun x h _=>h.pos
 elems:=fun l b a k _ _=>by show ep ((1,1):Nat×Nat);decide
 one:=fun x h _=>h.pos
 fun_:=fun x h _=>h.pos
 sized:=fun x h=>h.pos
 call:=fun x l d h _=>h.pos
 args:=fun l ps _=>by show ep ((1,1):Nat×Nat);decide
 std:=fun x s l d h _=>h.pos
 plain:=fun x h=>h.pos
 whole:=fun x h=>h.pos
theorem nY{x:ao}(h:Tk x){i:Nat}(hi:i<x.kids.length)(h8:x.kind≠8):Tk (kid x i):=h.kid hi h8
theorem Qn{x:ao}(h:Tk x):∀y∈x.kids.drop 1,Tk y:=fun y hy=>by
 refine⟨h.1.sub _ (List.mem_of_mem_drop hy),h.1.node.kids _ ?_⟩;split
 ·exact hy
 ·exact List.mem_of_mem_drop hy
theorem Qo{V:ea}(h:pI V){x:ao}(hx:ep x.pos):RR (fun t=>bH worldT t=true) (ki V x):=by
 unfold ki;rw[h.T];refine RR.bind (BO h hx) fun e _=>RR.need hx fun _=>RR.need hx fun ho=>ho
section
variable {V:ea} (h:pI V) {f:Nat} (g:BR V f)
include h g
omit h in
theorem aa1(x:ao)(hx:Tk x):RR eb (plainJ V (f+1) x):=by
 unfold plainJ;exact RR.bind (g.expr x hx) fun j hj=>RR.need hx.pos fun _=>hj
theorem aa2(x:ao)(hx:Tk x):RR (fun j=>eb j∧bE worldT j.type=true) (wholeJ V (f+1) x):=by
 unfold wholeJ;rw[h.T];exact RR.bind (g.plain x hx) fun j hj=>RR.need hx.pos fun hn=>⟨hj,hn⟩
theorem aa3(x:ao)(hx:Tk x)(k:x.kind=2):RR eb (dotJ V (f+1) x):=by
 unfold dotJ;rw[h.T];split
 ·exact Qj h hx.pos
 ·have hk:=hx.1.node.one (.inl k);refine RR.bind (g.expr _ (nY hx (by omega) (by omega))) fun j hj=>RR.need hx.pos fun _=>RR.need hx.pos fun _=>?_
  split
  ·exact sD _ _
  ·exact hx.pos
theorem aa4(x:ao)(hx:Tk x)(k:x.kind=3):RR eb (indexJ V (f+1) x):=by
 unfold indexJ;rw[h.T];have hk:=hx.1.node.two (.inl k);have h0:=nY hx (i:=0) (by omega) (by omega);have h1:=nY hx (i:=1) (by omega) (by omega);refine RR.bind (g.expr _ h0) fun j hj=>?_
 refine RR.need hx.pos fun _=>RR.need hx.pos fun _=>?_
 refine RR.bind (g.expr _ h1) fun i hi=>RR.need h1.pos fun _=>?_
 split
 ·exact Qp
 ·exact Qp
theorem aa5(x:ao)(hx:Tk x)(k:x.kind=4):RR eb (derefJ V (f+1) x):=by
 unfold derefJ;rw[h.T];have hk:=hx.1.node.one (.inr (.inl k));refine RR.bind (g.expr _ (nY hx (i:=0) (by omega) (by omega))) fun j hj=>RR.need hx.pos fun _=>sD _ _
omit h in
theorem aa6(x:ao)(b:Int)(hx:Tk x):RR (fun _=>True) (elemJ V (f+1) x b):=by
 unfold elemJ;exact RR.bind (g.expr _ hx) fun j hj=>RR.need hx.pos fun _=>RR.need hx.pos fun _=>trivial
omit h in
theorem aa7(l:List ao)(b:Int)(a:Nat)(k:Bool)(hl:∀y∈l,Tk y)(ha:a<65536):RR (fun r=>r.1<65536) (ff V (f+1) l b a k):=by
 cases l with
 |nil=>unfold ff;exact ha
 |cons y l=>
  unfold ff;have hy:=hl y (by simp);split
  ·rename_i k9;have hk:=hy.1.node.two (.inr (.inl k9));refine RR.bind (g.elem _ b (nY hy (i:=0) (by omega) (by omega))) fun lo _=>RR.bind (g.elem _ b (nY hy (i:=1) (by omega) (by omega))) fun hi _=>?_
   exact Qq
  ·refine RR.bind (g.elem _ b hy) fun lo _=>?_
   exact Qq
theorem aa8(x:ao)(hx:Tk x)(k:x.kind=12):RR eb (oneJ V (f+1) x):=by
 unfold oneJ;rw[h.T];have hk:=hx.1.node.one (.inr (.inr k));refine RR.bind (g.expr _ (nY hx (i:=0) (by omega) (by omega))) fun j hj=>RR.need hx.pos fun hc=>?_
 split
 ·exact sD _ _
 ·rename_i hv;refine aaV hx.pos hj hv ?_;rw[Bool.and_eq_true]at hc;exact hc.2
theorem aa9(x:ao)(hx:Tk x)(k:x.kind=8):RR eb (setJ V (f+1) x):=by
 unfold setJ;rw[h.T];have ht:RR (fun t:Int=>t=9∨t=15) (if(kid x 0).kind=0 then .ok 9 else do
  let e ←eX V (kid x 0)
  aI (decide (e.kind=2)) (kid x 0) 251
  aI (decide (aJ worldT e.type=13)) (kid x 0) 252
  .ok e.type):=by
  split
  ·exact .inl rfl
  ·rename_i k0;have hk:=hx.1.node.some (.inl k);have hp:=(hx.1.sub _ (su (i:=0) (by omega))).node.pos k0;refine RR.bind (BO h hp) fun e _=>RR.need hp fun _=>RR.need hp fun h13=>?_
   exact BM (of_decide_eq_true h13)
 refine RR.bind ht fun t h9=>?_
 refine RR.bind (g.elems _ _ _ _ (Qn hx) (by omega)) fun r hr=>?_
 refine⟨?_,fun h=>absurd rfl h⟩;show kO t (if r.2 then .bits r.1 else .none);split
 ·exact⟨h9,hr⟩
 ·trivial
theorem aba(x:ao)(hx:Tk x):RR (fun _=>True) (sizedJ V (f+1) x):=by
 unfold sizedJ;simp only;have hr:RR (fun _:Int=>True) (do
  let j ←exprJ V f x
  aI (gj j) x 252
  (.ok j.type:Jr Int)):=RR.bind (g.expr _ hx) fun j _=>RR.need hx.pos fun _=>trivial
 have hn:=BO h hx.pos;split
 ·cases he:eX V x with
  |error e=>rw[he]at hn;exact hn
  |ok e=>
   simp only;split
   ·trivial
   ·exact hr
 ·exact hr
omit h in
theorem abb(l:List ao)(ps:List (Bool×Int))(hl:∀y∈l,Tk y):RR (fun _=>True) (gD V (f+1) l ps):=by
 cases l with
 |nil=>unfold gD;trivial
 |cons y l=>
  cases ps with
  |nil=>unfold gD;trivial
  |cons p ps=>
   unfold gD;have hy:=hl y (by simp);refine RR.bind (g.expr _ hy) fun j _=>RR.need hy.pos fun _=>RR.need hy.pos fun _=>RR.need hy.pos fun _=>?_
   exact g.args l ps fun z hz=>hl z (by simp[hz])
end
theorem Qr{t:Int}(h:bH worldT t=true):(rangeT worldT t).1≤(rangeT worldT t).2.1:=by
 have ht:=Qc h;rw[Qa t ht];simp only[List.mem_cons,List.not_mem_nil,or_false]at ht;rcases ht with rfl|rfl|rfl|rfl|rfl|rfl|rfl|rfl<;>decide
theorem Qs(u:Int):0≤(aN worldT u).1∧(aN worldT u).1≤65535:=by
 by_cases hk:aJ worldT u=0
 ·have ho:bH worldT u=false:=by
   cases e:bH worldT u
   ·rfl
   ·exact absurd hk (BJ e)
  have hk:(aF worldT u).kind=0:=hk;have:aN worldT u=(0,2):=by
   unfold aN;rw[jr];simp[bm,hk,ho]
  rw[this];decide
 ·obtain⟨n,rfl⟩:=nX hk;exact aaZ n
theorem nZ{l:List ao}{d:ao}(hl:∀y∈l,Tk y)(h:l≠[]):Tk (l.headD d):=by
 cases l with
 |nil=>exact absurd rfl h
 |cons y l=>exact hl y (by simp)
theorem abc{l:List ao}{d:ao}(hl:∀y∈l,Tk y)(h:l≠[]):Tk (l.getLastD d):=by
 have:l.getLastD d∈l:=by
  rw[List.getLastD_eq_getLast?,List.getLast?_eq_some_getLast h];exact List.getLast_mem h
 exact hl _ this
theorem abd{l:List ao}{d:ao}(hl:∀y∈l,Tk y)(hd:Tk d)(i:Nat):Tk (l.getD i d):=by
 rw[List.getD_eq_getElem?_getD];cases e:l[i]? with
 |none=>exact hd
 |some y=>exact hl y (List.mem_of_getElem? e)
theorem abe{t:Int}(h:bE worldT t=true):bH worldT (aP worldT t)=true:=by
 have:=BL h;simp only[List.mem_cons,List.not_mem_nil,or_false]at this;rcases this with e|e|e<;>rw[e]<;>decide +kernel
section
variable {V:ea} (h:pI V) {f:Nat} (g:BR V f)
include h g
theorem abf(x:ao)(s:Int)(l:List ao)(d:Bool)(hx:Tk x)(hl:∀y∈l,Tk y):RR (fun t=>(bH worldT t=true∨t=0)∧(s=11∨s=12→bH worldT t=true)∧(s=16→t=2)∧(d=false→l≠[])) (stdCallJ V (f+1) x s l d):=by
 unfold stdCallJ;rw[h.T];simp only;refine RR.need hx.pos fun hp=>RR.need hx.pos fun hm=>?_
 have hp:=of_decide_eq_true hp;rw[Bool.and_eq_true,decide_eq_true_eq,decide_eq_true_eq]at hm;have hne:s≠7→s≠21→l≠[]:=by
  rintro h7 h21 rfl;have:=hm.1;split at this
  ·simp at this
  ·split at this
   ·simp at this
   ·rw[if_neg (by omega)]at this;simp at this
 have hd:d=false→l≠[]:=by
  intro e;rw[e]at hp;have:=of_decide_eq_false hp;simp only[List.mem_cons,List.not_mem_nil,or_false,not_or]at this;exact hne (by omega) (by omega)
 clear hm hp;have o4:bH worldT 4=true:=by decide +kernel
 have o3:bH worldT 3=true:=by decide +kernel
 have o2:bH worldT 2=true:=by decide +kernel
 by_cases s1:s=1
 ·rw[if_pos s1];have hy:=nZ (d:=.mk 0 (0,0) [] 0 []) hl (hne (by omega) (by omega));exact RR.bind (g.whole _ hy) fun j hj=>RR.need hy.pos fun _=>⟨.inl (abe hj.2),by omega,by omega,hd⟩
 rw[if_neg s1];by_cases s2:s=2
 ·rw[if_pos s2];have hy:=nZ (d:=.mk 0 (0,0) [] 0 []) hl (hne (by omega) (by omega));exact RR.bind (g.plain _ hy) fun j hj=>RR.need hy.pos fun _=>⟨.inl o4,by omega,by omega,hd⟩
 rw[if_neg s2];by_cases s3:s=3
 ·rw[if_pos s3];have hy:=nZ (d:=.mk 0 (0,0) [] 0 []) hl (hne (by omega) (by omega));exact RR.bind (g.whole _ hy) fun j hj=>⟨.inl o4,by omega,by omega,hd⟩
 rw[if_neg s3];by_cases s14:s=14
 ·rw[if_pos s14];have hy:=nZ (d:=.mk 0 (0,0) [] 0 []) hl (hne (by omega) (by omega));exact RR.bind (g.whole _ hy) fun j hj=>⟨.inl o3,by omega,by omega,hd⟩
 rw[if_neg s14];by_cases s8:s=8
 ·rw[if_pos s8];have hy:=nZ (d:=.mk 0 (0,0) [] 0 []) hl (hne (by omega) (by omega));exact RR.bind (g.expr _ hy) fun j hj=>RR.need hy.pos fun _=>⟨.inl o2,by omega,by omega,hd⟩
 rw[if_neg s8];by_cases s11:s=11∨s=12
 ·rw[if_pos s11];have hy:=nZ (d:=.mk 0 (0,0) [] 0 []) hl (hne (by omega) (by omega));exact(Qo h hy.pos).mono fun t ht=>⟨.inl ht,fun _=>ht,by omega,hd⟩
 rw[if_neg s11];by_cases s15:s=15
 ·rw[if_pos s15];have hy:=nZ (d:=.mk 0 (0,0) [] 0 []) hl (hne (by omega) (by omega));exact RR.bind (g.plain _ hy) fun j hj=>RR.need hy.pos fun _=>⟨.inl o2,by omega,by omega,hd⟩
 rw[if_neg s15];by_cases s16:s=16
 ·rw[if_pos s16];have hy:=nZ (d:=.mk 0 (0,0) [] 0 []) hl (hne (by omega) (by omega));exact RR.bind (g.sized _ hy) fun j hj=>RR.need hy.pos fun _=>⟨.inl o2,by omega,fun _=>rfl,hd⟩
 rw[if_neg s16];by_cases s17:s=17
 ·rw[if_pos s17];have hy:=nZ (d:=.mk 0 (0,0) [] 0 []) hl (hne (by omega) (by omega));have hz:=abd hl hy 1;exact RR.bind (Qo h hy.pos) fun t ht=>RR.bind (g.plain _ hz) fun j hj=>RR.need hz.pos fun _=>⟨.inl ht,by omega,by omega,hd⟩
 rw[if_neg s17];exact⟨.inr rfl,fun e=>absurd e s11,fun e=>absurd e s16,hd⟩
omit h in
theorem abg(x:ao)(l:List ao)(d:Bool)(hx:Tk x)(hl:∀y∈l,Tk y):RR (fun t=>0<cG V x→(bH worldT t=true∨t=0)∧(cG V x=11∨cG V x=12→bH worldT t=true)∧(cG V x=16→t=2)∧(d=false→l≠[])) (callJ V (f+1) x l d):=by
 unfold callJ;split
 ·exact(g.std x _ l d hx hl).mono fun t ht _=>ht
 ·rename_i hs;refine RR.bind (g.expr _ hx) fun j _=>RR.need hx.pos fun _=>RR.need hx.pos fun _=>RR.need hx.pos fun _=>RR.bind (g.args _ _ hl) fun _ _=>?_
  exact fun h=>absurd h hs
theorem abh(hs:∀x,0≤cG V x)(x:ao)(hx:Tk x)(k:x.kind=10):RR eb (funJ V (f+1) x):=by
 unfold funJ;rw[h.T];have hk:=hx.1.node.some (.inr k);have h0:=nY hx (i:=0) (by omega) (by omega);have hl:=Qn hx;refine RR.bind (g.call _ _ false h0 hl) fun t ht=>?_
 have iQ:=hs (kid x 0);simp only;generalize cG V (kid x 0)=s at *;split
 ·exact sD _ _
 rename_i s0;obtain⟨h1,h2,h3,h4⟩:=ht (by omega);have hne:=h4 rfl;split
 ·rename_i s11;have ho:=h2 (.inl s11);exact⟨GY ho (Qr ho) (Int.le_refl _),fun h=>absurd rfl h⟩
 split
 ·rename_i s12;have ho:=h2 (.inr s12);exact⟨GY ho (Int.le_refl _) (Qr ho),fun h=>absurd rfl h⟩
 split
 ·rename_i s16;refine RR.bind (g.sized _ (nZ hl hne)) fun u _=>?_
  rw[h3 s16];have hr:rangeT worldT 2=(0,65535,true):=by decide +kernel
  have:=Qs u;exact⟨⟨.inr (.inl rfl),by rw[hr];exact this.1,by rw[hr];exact this.2⟩,fun h=>absurd rfl h⟩
 ·refine RR.bind (g.expr _ (abc hl hne)) fun j hj=>?_
  split
  ·exact sD _ _
  ·rename_i n hn;refine RR.need hx.pos fun hc=>?_
   rw[Bool.and_eq_true,decide_eq_true_eq,decide_eq_true_eq]at hc;rcases h1 with ho|h0
   ·exact⟨GY ho hc.1 hc.2,fun h=>absurd rfl h⟩
   ·have hb:aP worldT 0=0:=by decide +kernel
    rw[h0,hb];exact sD _ _
theorem abi(x:ao)(hx:Tk x):RR eb (exprJ V (f+1) x):=by
 unfold exprJ;rw[h.T];refine RR.bind (Q:=eb) ?_ fun j hj=>RR.need hx.pos fun _=>hj
 by_cases k5:x.kind=5
 ·rw[if_pos k5];have:=hx.1.node.num k5;have hr:rangeT worldT 5=(-32768,65535,true):=by decide +kernel
  exact⟨⟨by simp,by rw[hr];show(-32768:Int)≤(x.n:Int);omega,by rw[hr];show(x.n:Int)≤65535;omega⟩,fun h=>absurd rfl h⟩
 rw[if_neg k5];by_cases k6:x.kind=6
 ·rw[if_pos k6];exact⟨⟨rfl,Nat.mod_lt _ (by omega)⟩,fun h=>absurd rfl h⟩
 rw[if_neg k6];by_cases k7:x.kind=7
 ·rw[if_pos k7];exact⟨rfl,fun h=>absurd rfl h⟩
 rw[if_neg k7];by_cases k1:x.kind=1
 ·rw[if_pos k1];exact Qj h hx.pos
 rw[if_neg k1];by_cases k2:x.kind=2
 ·rw[if_pos k2];exact g.dot x hx k2
 rw[if_neg k2];by_cases k3:x.kind=3
 ·rw[if_pos k3];exact g.index x hx k3
 rw[if_neg k3];by_cases k4:x.kind=4
 ·rw[if_pos k4];exact g.deref x hx k4
 rw[if_neg k4];by_cases k8:x.kind=8
 ·rw[if_pos k8];exact g.set x hx k8
 rw[if_neg k8];by_cases k12:x.kind=12
 ·rw[if_pos k12];exact g.one x hx k12
 rw[if_neg k12];by_cases k11:x.kind=11
 ·rw[if_pos k11];have hk:=hx.1.node.two (.inr (.inr k11));have h0:=nY hx (i:=0) (by omega) (by omega);have h1:=nY hx (i:=1) (by omega) (by omega);exact RR.bind (g.expr _ h0) fun a ha=>RR.bind (g.expr _ h1) fun b hb=>aaU h hx.pos h0.pos h1.pos ha hb
 rw[if_neg k11];by_cases k10:x.kind=10
 ·rw[if_pos k10];exact g.fun_ x hx k10
 rw[if_neg k10];exact hx.pos
end
theorem Qt{V:ea}(h:pI V)(hs:∀x,0≤cG V x):∀f,BR V f
 |0=>aa0 V
 |f+1=>
  have g:=Qt h hs f
  ⟨abi h g,aa3 h g,aa4 h g,aa5 h g,aa6 g,aa9 h g,aa7 g,aa8 h g,abh h g hs,aba h g,abg g,abb g,abf h g,aa1 g,aa2 h g⟩
theorem abj{V:ea}(h:pI V)(hs:∀x,0≤cG V x)(f:Nat)(x:ao)(hx:Tk x):RR eb (exprJ V f x):=(Qt h hs f).expr x hx
def Ha(t:Int):aL→Bool
 |.none=>true
 |.whole n=>decide (t=1∨t=2∨t=5∨t=8∨t=10)&&decide ((rangeT worldT t).1≤n)&&decide (n≤(rangeT worldT t).2.1)
 |.letter c=>decide (t=4)&&decide (c<256)
 |.truth _=>decide (t=3)
 |.bits b=>decide (t=9∨t=15)&&decide (b<65536)
 |.str _=>decide (t=6)
 |.item u n=>decide (t=11)&&decide (u=11)&&decide (n=0∨n=1)
 |.null=>decide (t=7)
theorem abk{t:Int}{v:aL}(h:Ha t v=true):kO t v:=by
 cases v<;>simp only[Ha,Bool.and_eq_true,decide_eq_true_eq]at h
 ·exact trivial
 ·exact⟨h.1.1,h.1.2,h.2⟩
 ·exact h
 ·exact h
 ·exact h
 ·exact h
 ·exact⟨h.1.1,h.1.2,h.2⟩
 ·exact h
def jw(e:En):Bool:=(decide (e.kind≠1)||Ha e.type e.val)&&(decide (e.kind≠2)||((decide (aJ worldT e.type≠13)||decide (e.type=9∨e.type=15))&&decide (e.type∈([1,2,3,4,9,10,11,13,15,20]:List Int))))&&decide (0≤e.at_)
theorem Hb{e:En}(h:jw e=true):((e.kind=1→kO e.type e.val)∧(e.kind=2→(aJ worldT e.type=13→e.type=9∨e.type=15)∧e.type∈[1,2,3,4,9,10,11,13,15,20]))∧0≤e.at_:=by
 unfold jw at h;simp only[Bool.and_eq_true,Bool.or_eq_true,decide_eq_true_eq]at h;refine⟨⟨fun h1=>abk (h.1.1.resolve_left fun h2=>h2 h1),fun hk=>?_⟩,h.2⟩;rcases h.1.2 with h2|⟨h2,h3⟩
 ·exact absurd hk h2
 ·refine⟨fun h13=>?_,h3⟩;rcases h2 with h2|h2
  ·exact absurd h13 h2
  ·exact h2
theorem abl:constEns.all jw=true:=by decide +kernel
theorem abm:stdEns.all jw=true:=by decide +kernel
theorem abn:nameEns.all jw=true:=by decide +kernel
theorem abo:unitEns.all jw=true:=by decide +kernel
theorem abp:jw unitEn=true:=by decide +kernel
def qS(it:It):Prop:=jw it.en=true∧∀e∈it.exports,jw e=true
theorem Hc{l:List (List UInt8×It)}(h:∀p∈l,qS p.2){nm:List UInt8}{it:It}(hf:bm l nm=some it):qS it:=by
 unfold bm at hf;rw[Option.map_eq_some_iff]at hf;obtain⟨p,hp,rfl⟩:=hf;exact h p (List.mem_of_find?_eq_some hp)
theorem Hd{L:List Lv}(h:∀lv∈L,∀p∈lv.items,qS p.2)(i:Nat):∀p∈(L.getD i ⟨false,[]⟩).items,qS p.2:=by
 rw[List.getD_eq_getElem?_getD];cases e:L[i]? with
 |none=>simp
 |some lv=>exact h lv (List.mem_of_getElem? e)
theorem Qu{L:List Lv}(h:∀lv∈L,∀p∈lv.items,qS p.2){nm:List UInt8}:∀(k:Nat) {it:It},eW L nm k=some it→qS it
 |0,it,hf=>by
  unfold eW at hf;exact Hc (Hd h 0) hf
 |k+1,it,hf=>by
  unfold eW at hf;split at hf
  ·rename_i x hx;obtain rfl:=Option.some.inj hf;exact Hc (Hd h (k+1)) hx
  ·split at hf
   ·exact Hc (Hd h 0) hf
   ·exact Qu h k hf
theorem abq{tys:List En}(ht:∀e∈tys,jw e=true):∀lv∈dS tys,∀p∈lv.items,qS p.2:=by
 have all {l:List En} (h:l.all jw=true):∀e∈l,jw e=true:=fun e he=>List.all_eq_true.1 h e he
 intro lv hlv p hp;simp only[dS,List.mem_cons,List.not_mem_nil,or_false]at hlv;rcases hlv with rfl|rfl
 ·simp only[ux,List.mem_map,List.mem_append]at hp;obtain⟨e,he,rfl⟩:=hp;refine⟨?_,by simp[BS]⟩;rcases he with(he|he)|he
  ·exact ht e he
  ·exact all abl e he
  ·exact all abm e he
 ·simp only[lvl1,List.mem_map,List.mem_append,List.mem_singleton]at hp;rcases hp with⟨e,he,rfl⟩|rfl
  ·exact⟨all abn e he,by simp[BS]⟩
  ·exact⟨abp,all abo⟩
theorem Qv{tys:List En}(ht:∀e∈tys,jw e=true):pI (aj worldT (dS tys))∧∀x,0≤cG (aj worldT (dS tys)) x:=by
 have hw:=abq ht;have hi:∀nm it,kI (dS tys) nm=some it→qS it:=fun nm it h=>by
  unfold kI at h;rw[if_neg (by simp[dS])]at h;exact Qu hw _ h
 have h1:∀nm e,jL (dS tys) nm=some e→jw e=true:=fun nm e h=>by
  unfold jL at h;rw[Option.map_eq_some_iff]at h;obtain⟨it,h,rfl⟩:=h;exact(hi nm it h).1
 have h2:∀u nm e,iU (dS tys) u nm=some e→jw e=true:=fun u nm e h=>by
  unfold iU at h;split at h
  ·rename_i x hx;split at h
   ·exact(hi u x hx).2 e (List.mem_of_find?_eq_some h)
   ·cases h
  ·cases h
 refine⟨⟨rfl,fun n e h=>(Hb (h1 n e h)).1,fun u n e h=>(Hb (h2 u n e h)).1⟩,fun x=>?_⟩;unfold cG;simp only;split
 ·rename_i e he;have:jw e=true:=by
   split at he
   ·exact h1 _ _ he
   ·split at he
    ·exact h2 _ _ _ he
    ·cases he
  split
  ·exact(Hb this).2
  ·exact Int.le_refl _
 ·exact Int.le_refl _
theorem Qw{tys:List En}(ht:∀e∈tys,jw e=true)(f:Nat)(x:ao)(hx:Tk x):RR eb (exprJ (aj worldT (dS tys)) f x):=abj (Qv ht).1 (Qv ht).2 f x hx
theorem BU{k:Int}{p:cJ}{s:List UInt8}{n:Nat}{l:List ao}(hk:k≠0)(h8:k≠8)(hp:ep p)(hn:k=5→n≤65535)(h1:k=2∨k=4∨k=12→l.length=1)(h2:k=3∨k=9∨k=11→l.length=2)(h3:k=10→1≤l.length)(hl:∀y∈l,Tk y):Tk (.mk k p s n l):=
 ⟨.mk _ ⟨hn,fun _=>hp,h1,h2,fun h=>h3 (h.resolve_left h8),fun y hy=>by
  rw[if_neg (show ¬(ao.mk k p s n l).kind=8 from h8)]at hy;exact(hl y hy).2⟩ fun y hy=>(hl y hy).1,hk⟩
theorem abr{k:Int}{p:cJ}{s:List UInt8}{x:ao}(hk:k=2∨k=4∨k=12)(hp:ep p)(hx:Tk x):Tk (.mk k p s 0 [x]):=
 BU (by omega) (by omega) hp (by omega) (fun _=>rfl) (by omega) (by omega) (by simpa using hx)
theorem Qx{k:Int}{p:cJ}{s:List UInt8}{x y:ao}(hk:k=3∨k=9∨k=11)(hp:ep p)(hx:Tk x)(hy:Tk y):Tk (.mk k p s 0 [x,y]):=
 BU (by omega) (by omega) hp (by omega) (by omega) (fun _=>rfl) (by omega) (by simpa using⟨hx,hy⟩)
theorem abt{p:cJ}{s:List UInt8}{n:Nat}{t:ao}{l:List ao}(hp:ep p)(ht:Wf t)(hl:∀y∈l,Tk y):Tk (.mk 8 p s n (t::l)):=
 ⟨.mk _ ⟨fun h=>absurd (show(8:Int)=5 from h) (by decide),fun _=>hp,fun h=>absurd (show(8:Int)=2∨(8:Int)=4∨(8:Int)=12 from h) (by decide),fun h=>absurd (show(8:Int)=3∨(8:Int)=9∨(8:Int)=11 from h) (by decide),fun _=>by show 1≤(t::l).length;simp,fun y hy=>by
  rw[if_pos (show(ao.mk 8 p s n (t::l)).kind=8 from rfl)]at hy;exact(hl y hy).2⟩ fun y hy=>by
   rcases List.mem_cons.1 hy with rfl|hy
   ·exact ht
   ·exact(hl y hy).1,show(8:Int)≠0 by decide⟩
theorem abu:Wf (.mk 0 (0,0) [] 0 []):=.mk _ ⟨fun h=>absurd h (by decide),fun h=>absurd rfl h,fun h=>absurd h (by decide),fun h=>absurd h (by decide),fun h=>absurd h (by decide),fun y hy=>by simp[ao.kind,ao.kids]at hy⟩ fun y hy=>by simp[ao.kids]at hy
end Go.Proofs.YtlpombjidhloiaaGreat
