/- Alike in plain words. types. Condition: what each theorem says. -/
import Derived.Test.YtlpombjidhloiaaGreatBaj
namespace Go.Proofs.YtlpombjidhloiaaGreat
theorem BQ:∀(N:Nat) (l:List Nat),l.Nodup→(∀x∈l,x<N)→l.length≤N
 |0,l,_,h=>by
  cases l with
  |nil=>simp
  |cons a t=>exact absurd (h a (by simp)) (by omega)
 |N+1,l,hn,h=>by
  by_cases hm:N∈l
  ·have h1:=BQ N (l.erase N) (hn.erase N) (fun x hx=>by
    have h2:=(hn.mem_erase_iff).1 hx;have:=h x h2.2;have:=h2.1;omega)
   rw[List.length_erase_of_mem hm]at h1;omega
  ·have h1:=BQ N l hn (fun x hx=>by
    have:=h x hx;have:x≠N:=fun e=>hm (e▸hx)
    omega)
   omega
def uK(T:List Ty)(M:List (Int×Int)):Prop:=M.Nodup∧∀p∈M,0≤p.1∧p.1<T.length∧0≤p.2∧p.2<T.length
theorem aaW{T:List Ty}{M:List (Int×Int)}(h:uK T M):M.length≤T.length*T.length:=by
 have h1:=BQ (T.length*T.length) (M.map fun p=>p.1.toNat*T.length+p.2.toNat) ?_ ?_
 ·simpa using h1
 ·have hp:=h.1;rw[List.Nodup,List.pairwise_map];refine List.Pairwise.imp_of_mem ?_ hp;intro a b ha hb hne he;obtain⟨a1,a2,a3,a4⟩:=h.2 a ha;obtain⟨b1,b2,b3,b4⟩:=h.2 b hb;apply hne;have e1:a.1.toNat=b.1.toNat:=by
   have x1:(a.1.toNat*T.length+a.2.toNat)/T.length=a.1.toNat:=by
    exact Qk
   have x2:(b.1.toNat*T.length+b.2.toNat)/T.length=b.1.toNat:=by
    exact Qk
   rw[←x1,he,x2]
  have e2:a.2.toNat=b.2.toNat:=by rw[e1]at he;omega
  exact Prod.ext (by omega) (by omega)
 ·intro x hx;obtain⟨p,hp,rfl⟩:=List.mem_map.1 hx;obtain⟨a1,a2,a3,a4⟩:=h.2 p hp;have:(p.1.toNat+1)*T.length≤T.length*T.length:=Nat.mul_le_mul_right _ (by omega);rw[Nat.add_mul]at this;omega
theorem GX{T:List Ty}{i:Int}(h:(aF T i).kind≠0):0≤i∧i<T.length:=by
 unfold aF at h;split at h
 ·exact absurd rfl h
 ·refine⟨by omega,?_⟩;by_cases hl:i.toNat<T.length
  ·omega
  ·rw[List.getD_eq_getElem?_getD,List.getElem?_eq_none (by omega)]at h;exact absurd rfl h
theorem Ql(T:List Ty):∀(f:Nat) (M:List (Int×Int)) (a b:Int),uK T M→T.length*T.length+1≤f+M.length→∃r M',ko T f M a b=some (r,M')∧uK T M'∧M.length≤M'.length
 |0,M,_,_,h,hf=>by have:=aaW h;omega
 |f+1,M,a,b,h,hf=>by
  unfold ko;simp only;by_cases h0:(aF T a).kind=0∨(aF T a).kind≠(aF T b).kind
  ·rw[if_pos h0];exact⟨_,_,rfl,h,Nat.le_refl _⟩
  rw[if_neg h0];by_cases h1:a=b∨(a,b)∈M
  ·rw[if_pos h1];exact⟨_,_,rfl,h,Nat.le_refl _⟩
  rw[if_neg h1];by_cases h2:(aF T a).kind=11
  ·rw[if_pos h2];exact⟨_,_,rfl,h,Nat.le_refl _⟩
  rw[if_neg h2];have hM:uK T (M++[(a,b)]):=by
   obtain⟨i1,i2⟩:=GX (T:=T) (i:=a) (fun e=>h0 (.inl e));obtain⟨i3,i4⟩:=GX (T:=T) (i:=b) (fun e=>h0 (by by_cases e2:(aF T a).kind=0;exact .inl e2;right;rw[e];exact e2));refine⟨?_,?_⟩
   ·rw[List.nodup_append];refine⟨h.1,by simp,?_⟩;intro x hx y hy e;simp only[List.mem_singleton]at hy;subst hy e;exact h1 (.inr hx)
   ·intro p hp;simp only[List.mem_append,List.mem_singleton]at hp;rcases hp with hp|rfl
    ·exact h.2 p hp
    ·exact⟨i1,i2,i3,i4⟩
  by_cases h3:(aF T a).kind=16∧(aF T a).result=(aF T b).result∧(aF T a).params.length=(aF T b).params.length
  ·rw[if_pos h3];have key:∀(ps qs:List (Bool×Int)) (M:List (Int×Int)),uK T M→T.length*T.length+1≤f+M.length→∃r M',paramsF (ko T f) M ps qs=some (r,M')∧uK T M'∧M.length≤M'.length:=by
    intro ps
    induction ps with
    |nil=>intro qs M h hf;exact⟨_,_,rfl,h,Nat.le_refl _⟩
    |cons p ps ih=>
     intro qs M h hf;cases qs with
     |nil=>exact⟨_,_,rfl,h,Nat.le_refl _⟩
     |cons q qs=>
      unfold paramsF;by_cases e:p.1=q.1
      ·rw[if_pos e];obtain⟨r,M',e1,h1,h2⟩:=Ql T f M p.2 q.2 h hf;rw[e1];cases r
       ·exact⟨_,_,rfl,h1,h2⟩
       ·obtain⟨r',M'',e3,h3,h4⟩:=ih qs M' h1 (by omega);exact⟨r',M'',e3,h3,by omega⟩
      ·rw[if_neg e];exact⟨_,_,rfl,h,Nat.le_refl _⟩
   obtain⟨r,M',e1,e2,e3⟩:=key (aF T a).params (aF T b).params (M++[(a,b)]) hM (by simp;omega);exact⟨r,M',e1,e2,by simp at e3;omega⟩
  ·rw[if_neg h3];exact⟨_,_,rfl,hM,by simp⟩
theorem aaX(T:List Ty)(a b:Int):∃M',ko T (T.length*T.length+2) [] a b=some (wW T a b,M'):=by
 obtain⟨r,M',e,_,_⟩:=Ql T (T.length*T.length+2) [] a b ⟨List.nodup_nil,by simp⟩ (by simp);refine⟨M',?_⟩;unfold wW;rw[e]
end Go.Proofs.YtlpombjidhloiaaGreat
namespace Go.Proofs.YtlpombjidhloiaaGreat
open Go.RowKit
set_option maxRecDepth 100000
attribute [local go_sem ↓] Go.wp_at_zero Go.wp_at_succ
def ac5(w0 w:World)(t:Ty)(e:Ending)(w':World):Prop:=∃s,e=.returned (.agg (bX t s))∧oc w0 t s∧Below w.heap.size w w'
theorem Sy{w0 w:World}{p:Nat}{T:List Ty}(h:cF w0 p T)(hw:Below w0.heap.size w0 w)(i:Int):Calls Tryz.prog 39 #[.pointer (some ⟨p,0,none⟩),.int .i64 i] w (ac5 w0 w (aF T i)):=by
 obtain⟨b,o,c,h1,h2,h3⟩:=h.at_
 replace h1:=bo h1 hw
 have hp:=aQ h1;by_cases h0:i<0
 ·have HE:=aa (xd (T:=T) (.inl h0));exact BY
 ·by_cases hl:(T.length:Int)≤i
  ·have HE:=aa (xd (T:=T) (.inr hl));exact BY
  ·obtain⟨s,hin,hc'⟩:=h3 i.toNat _ (Hf (by omega) (by omega));have hc:=fun j u hj=>bo (hc' j u hj) hw
   have HI:=aa hin;have HB:=aa (fun cs=>cB w (.cells cs 47));have k0:w.cell? ⟨b,o+i.toNat*12,none⟩=_:=hc 0 _ rfl;have hb:=aQ k0;have k1:=hc 1 _ rfl;have k2:=hc 2 _ rfl;have k3:=hc 3 _ rfl;have k4:=hc 4 _ rfl;have k5:=hc 5 _ rfl;have k6:=hc 6 _ rfl;have k7:=hc 7 _ rfl;have k8:=hc 8 _ rfl;have k9:=hc 9 _ rfl;have k10:=hc 10 _ rfl;have k11:=hc 11 _ rfl;simp only[bX,List.getElem_toArray,List.getElem_cons_zero,List.getElem_cons_succ]at k0 k1 k2 k3 k4 k5 k6 k7 k8 k9 k10 k11;generalize aF T i=t at *;clear h3 h2 hc hc' hin;go_enter Tryz.func39,Tryz.ntmps39;go_wp2_with fail;refine bodyPost_ret (results_cell_row rfl _ _ w.heap.size _ _ (0,0) _ rfl (heap_alloc_new _ _) Tryz.underlying47 rfl ?_) rfl ?_
   ·exact info47
   exact⟨s,rfl,HI.out,HB.out _⟩
theorem Gt(t:Ty)(s:TS):(bX t s).all (·.oneCell')=true:=by simp[bX,Value.oneCell']
theorem OM{ops:Array Oper}{Q:Exit→Act→World→Prop}{w0 w:World}{late:List Nat}{m n:Al}{listed:Array Bool}{a:Act}(k:Nat){o1 o2:Oper}{x y x' y':Operand}{cs ds:Array Value}(hf:eE ops late [m,n]=true)(hal:fN Tryz.prog ops m)(Jy:fN Tryz.prog ops n)(hB:qz ops late [m,n] listed k=true)(hw:Below w0.heap.size w0 w)
 (ho:ops[k]? =some o1) (hg:o1.guard=none) (hop:o1.op=.store m.ty x y) (hd:o1.dst=none) (hx:∀p q,((a.put (some n.slot) q).put (some m.slot) p).eval x=p) (hy:∀p q,((a.put (some n.slot) q).put (some m.slot) p).eval y=.agg cs) (hi:(Tryz.prog.info? m.ty).map (·.size)=some cs.size) (hs:m.cells.size=cs.size) (h1:cs.all (·.oneCell')=true)
 (eu:ops[k+1]? =some o2) (tj:o2.guard=none) (ag7:o2.op=.store n.ty x' y') (vC:o2.dst=none) (dK:∀p q,((a.put (some n.slot) q).put (some m.slot) p).eval x'=q) (oI:∀p q,((a.put (some n.slot) q).put (some m.slot) p).eval y'=.agg ds) (DD:(Tryz.prog.info? n.ty).map (·.size)=some ds.size) (bu:n.cells.size=ds.size) (h2:ds.all (·.oneCell')=true)
 (h:∀b c w6,w0.heap.size≤b→w0.heap.size≤c→b≠c→Bx b cs m.ty w6→Bx c ds n.ty w6→Below w0.heap.size w0 w6→wpList Tryz.prog ops Q (ops.toList.drop (k+2)) ((a.put (some n.slot) (.pointer (some ⟨c,0,none⟩))).put (some m.slot) (.pointer (some ⟨b,0,none⟩))) w6):cZ Tryz.prog ops Q w0 late [m,n] w listed a:=
 Xq k hf hal Jy hB hw fun wr hwr b c hb hc hbc hbl hcl=>by
  have hk:ops.toList.drop k=o1::o2::ops.toList.drop (k+2):=by
   obtain⟨hlt,he⟩:=Array.getElem?_eq_some_iff.1 ho;obtain⟨kK,rj⟩:=Array.getElem?_eq_some_iff.1 eu;rw[List.drop_eq_getElem_cons (by simpa using hlt),List.drop_eq_getElem_cons (by simpa using kK)];simp[he,rj]
  rw[hk];have hwr':=hw.trans (hwr.mono hw.size);obtain⟨w6,st,hbx,aD,hsz,hot⟩:=AY (cs':=cs) hb hwr' hbl hi hs h1;have ag8:w6.heap[c]? =some (.cells n.cells n.ty):=(hot c hbc).trans hcl;obtain⟨w7,Dv,ag9,aC,oK,aha⟩:=AY (cs':=ds) hc aD ag8 DD bu h2;refine wpList_plain hg fun K hK=>?_
  unfold Oper.wp execOp;simp only[hop,hx,hy,Sem.run_bind,st,Result.andThen_ok,Sem.run_pure];show K ((_:Act).put o1.dst undef) w6;rw[hd];refine hK _ _ ?_;show wpList _ _ _ _ ((a.put (some n.slot) _).put (some m.slot) _) w6;refine wpList_plain tj fun K hK=>?_
  unfold Oper.wp execOp;simp only[ag7,dK,oI,Sem.run_bind,Dv,Result.andThen_ok,Sem.run_pure];show K ((_:Act).put o2.dst undef) w7;rw[vC];refine hK _ _ ?_;refine h b c w7 hb hc (Ne.symm hbc) ((aha b (Ne.symm hbc)).trans hbx) ag9 aC
structure kW(w0:World)(p:Nat)(T:List Ty)(g1 g2 g3 r:Nat)(M:List (Int×Int))(w:World):Prop where
 tab:cF w0 p T
 below:Below w0.heap.size w0 w
 old:w0.heap.size≤r
 ne1:r≠g1
 ne2:r≠g2
 ne3:r≠g3
 c1:w.cell? ⟨g1,0,none⟩=some (.pointer (some ⟨p,0,none⟩))
 c2:w.cell? ⟨g2,0,none⟩=some (.map (some r))
 c3:w.cell? ⟨g3,0,none⟩=some (.func (.func 156) #[] #[.pointer (some ⟨g1,0,none⟩),.pointer (some ⟨g2,0,none⟩),.pointer (some ⟨g3,0,none⟩)])
 km:KM kV w r (M.map fun q=>(q,Value.bool true))
theorem kW.later{w0:World}{p:Nat}{T:List Ty}{g1 g2 g3 r:Nat}{M:List (Int×Int)}{w w':World}(h:kW w0 p T g1 g2 g3 r M w)(hb:Below w.heap.size w w'):kW w0 p T g1 g2 g3 r M w':=
 ⟨h.tab,h.below.trans (hb.mono h.below.size),h.old,h.ne1,h.ne2,h.ne3,bo h.c1 hb,bo h.c2 hb,bo h.c3 hb,h.km.later hb⟩
theorem Sz(M:List (Int×Int))(x:Int×Int):(x∈M∧bm (M.map fun q=>(q,Value.bool true)) x=some (.bool true))∨(x∉M∧bm (M.map fun q=>(q,Value.bool true)) x=none):=by
 unfold bm
 induction M with
 |nil=>right;exact⟨by simp,rfl⟩
 |cons y M ih=>
  by_cases e:y=x
  ·left;refine⟨by simp[e],?_⟩;simp[e]
  ·rcases ih with⟨h1,h2⟩|⟨h1,h2⟩
   ·left;refine⟨by simp[h1],?_⟩;simpa[List.find?_cons,e]using h2
   ·right;refine⟨by simp[h1];exact fun h=>e h.symm,?_⟩;simpa[List.find?_cons,e]using h2
theorem kW.put{w0:World}{p:Nat}{T:List Ty}{g1 g2 g3 r:Nat}{M:List (Int×Int)}{w:World}(h:kW w0 p T g1 g2 g3 r M w)(a b:Int)(hn:(a,b)∉M):
 ∃w',(Instr.mapUpdate 252 (.map (some r)) (.agg #[.int .i64 a,.int .i64 b]) (.bool true)).run Tryz.prog w=.ok () w'∧kW w0 p T g1 g2 g3 r (M++[(a,b)]) w'∧∀k,k≠r→w'.heap[k]? =w.heap[k]? :=by
 obtain⟨o,h1,h2⟩:=BA Tryz.underlying252 Im h.km (a,b) (.bool true);have hc:∀q i v,r≠q→w.cell? ⟨q,i,none⟩=some v→(iX w r o).cell? ⟨q,i,none⟩=some v:=fun q i v hq hv=>by
  rw[←hv];unfold World.cell?;rw[sB w r o hq]
 refine⟨_,h1,⟨h.tab,wT h.below h.old o,h.old,h.ne1,h.ne2,h.ne3,hc _ _ _ h.ne1 h.c1,hc _ _ _ h.ne2 h.c2,hc _ _ _ h.ne3 h.c3,?_⟩,fun k hk=>sB w r o (Ne.symm hk)⟩;rcases Sz M (a,b)with⟨hm,_⟩|⟨_,hf⟩
 ·exact absurd hm hn
 ·rw[QF hf]at h2;rw[List.map_append];exact h2
theorem kW.look{w0:World}{p:Nat}{T:List Ty}{g1 g2 g3 r:Nat}{M:List (Int×Int)}{w:World}(h:kW w0 p T g1 g2 g3 r M w)(a b:Int):
 (Instr.lookup 252 (.map (some r)) (.agg #[.int .i64 a,.int .i64 b]) false).run Tryz.prog w=.ok (.bool (decide ((a,b)∈M))) w:=by
 rcases Sz M (a,b)with⟨hm,hf⟩|⟨hm,hf⟩
 ·rw[decide_eq_true hm];exact(ej Tryz.underlying252 Im h.km (a,b) hf).2
 ·rw[decide_eq_false hm];exact(lY (z:=.bool false) Tryz.underlying252 Im (fun w=>by kernel_rfl) h.km (a,b) hf).2
def Io(w0:World)(p:Nat)(T:List Ty)(g1 g2 g3 r:Nat)(out:Bool)(M:List (Int×Int))(e:Ending)(w':World):Prop:=e=.returned (.bool out)∧kW w0 p T g1 g2 g3 r M w'
def xB(w0:World)(p:Nat)(T:List Ty)(g1 g2 g3 r:Nat)(al:List (Int×Int)→Int→Int→Option (Bool×List (Int×Int))):Prop:=
 ∀M a b out M' w,al M a b=some (out,M')→kW w0 p T g1 g2 g3 r M w→
  Calls Tryz.prog 156 #[.int .i64 a,.int .i64 b,.pointer (some ⟨g1,0,none⟩),.pointer (some ⟨g2,0,none⟩),.pointer (some ⟨g3,0,none⟩)] w (Io w0 p T g1 g2 g3 r out M')
theorem ac6{w0:World}{p:Nat}{T:List Ty}{g1 g2 g3 r:Nat}{al:List (Int×Int)→Int→Int→Option (Bool×List (Int×Int))}(ih:xB w0 p T g1 g2 g3 r al){M M':List (Int×Int)}{x y:Bool×Int}{out:Bool}{w:World}
 (he:(if x.1=y.1 then al M x.2 y.2 else some (false,M))=some (out,M')) (h:kW w0 p T g1 g2 g3 r M w):
 Calls Tryz.prog 158 #[.agg #[.bool x.1,.int .i64 x.2],.agg #[.bool y.1,.int .i64 y.2],.pointer (some ⟨g3,0,none⟩)] w (Io w0 p T g1 g2 g3 r out M'):=by
 obtain⟨x1,x2⟩:=x;obtain⟨y1,y2⟩:=y;have H:=aa (fun o o'=>h.later (((Below.refl _ _).alloc (Nat.le_refl _) o).alloc (by simp) o'));have c3:=h.c3;have hg:=aQ c3;have HI:=aa ih;have HE:=aa he;clear h ih he;go_enter Tryz.func158,Tryz.ntmps158;cases hx:decide (x1=y1)
 ·have hne:x1≠y1:=of_decide_eq_false hx;have hb:(x1==y1)=false:=by simpa using hne
  go_wp2_with fail;go_ret;have:=HE.out;simp only[if_neg hne,Option.some.injEq,Prod.mk.injEq]at this;obtain⟨rfl,rfl⟩:=this;exact⟨rfl,H.out _ _⟩
 ·obtain rfl:x1=y1:=of_decide_eq_true hx;have he:=HE.out;simp only[if_true]at he;have jC:=aa he;clear he HE;go_wp2_with (go_at_call 156;refine(HI.out M _ _ _ _ _ jC.out (H.out _ _)).mono ?_;rintro e w' ⟨rfl,h'⟩);go_ret;exact⟨rfl,h'⟩
theorem Gu{w:World}{A:Option Addr}{n c:Nat}{l:List (Bool×Int)}(h:Rw w (.slice A n c) n (kg l))(hn:n=l.length){j:Nat}{e:Bool×Int}(hj:l[j]? =some e):
 ∃b o,A=some ⟨b,o,none⟩∧b<w.heap.size∧n≤c∧w.cell? ⟨b,o+j*2,none⟩=some (.bool e.1)∧w.cell? ⟨b,o+j*2+1,none⟩=some (.int .i64 e.2):=by
 obtain⟨hj',rfl⟩:=List.getElem?_eq_some_iff.1 hj;rcases h with⟨h1,h2,h3⟩|⟨b,o,c',h1,h0,h2,h3⟩
 ·omega
 ·cases h1;have:∀(l:List (Bool×Int)) (j:Nat) (hj:j<l.length),(kg l)[j*2]? =some (.bool l[j].1)∧(kg l)[j*2+1]? =some (.int .i64 l[j].2):=by
   intro l
   induction l with
   |nil=>intro j hj;exact absurd hj (by simp)
   |cons a t ih=>
    intro j hj;cases j with
    |zero=>exact⟨rfl,rfl⟩
    |succ j=>
     have:=ih j (by simpa using hj);unfold kg at this ⊢;rw[List.flatMap_cons,show(j+1)*2=j*2+1+1 by omega];exact this
  obtain⟨e1,e2⟩:=this l j hj';exact⟨b,o,rfl,h2,h0,h3 _ _ e1,by rw[Nat.add_assoc];exact h3 _ _ e2⟩
theorem ac7{w0:World}{p:Nat}{T:List Ty}{g1 g2 g3 r:Nat}{al:List (Int×Int)→Int→Int→Option (Bool×List (Int×Int))}(ih:xB w0 p T g1 g2 g3 r al){M M':List (Int×Int)}{ps qs:List (Bool×Int)}{out:Bool}{w:World}{A B:Option Addr}{c d:Nat}
 (hA:Rw w0 (.slice A ps.length c) ps.length (kg ps)) (hB:Rw w0 (.slice B qs.length d) qs.length (kg qs)) (hl:ps.length=qs.length) (hm:ps.length≤1000000)
 (he:paramsF al M ps qs=some (out,M')) (h:kW w0 p T g1 g2 g3 r M w):
 Calls Tryz.prog 157 #[.slice A ps.length c,.slice B qs.length d,.func (.func 158) #[] #[.pointer (some ⟨g3,0,none⟩)]] w (Io w0 p T g1 g2 g3 r out M'):=by
 have H:=aa h;have HA:=aa hA;have HB:=aa hB;have HL:=aa hm;have HI:=aa ih;have HE:=aa he;have HQ:=aa hl;rw[←hl];clear h ih he hA hB hm hl;go_enter Tryz.func157,Tryz.ntmps157;go_wp2_with fail
 go_loopg [7,8,9,17] ps.length (fun gg _ _ _ s17 wr=>∃(kk:Nat) (Mk:List (Int×Int)),kk≤ps.length∧gg=ps.length-kk∧s17=.int .i64 kk∧kW w0 p T g1 g2 g3 r Mk wr∧paramsF al Mk (ps.drop kk) (qs.drop kk)=some (out,M'))
 case atStart=>exact⟨0,M,Nat.zero_le _,by omega,rfl,H.out,HE.out⟩
 case round=>
  obtain⟨kk,Mk,hkk,hgk,rfl,hat,hf⟩:=hrel;have HAT:=aa hat;have HF:=aa hf;clear hf hat;by_cases hlt:kk<ps.length
  ·have hltz:(kk:Int)<(ps.length:Int):=by omega
   obtain⟨x,hx⟩:∃x,ps[kk]? =some x:=⟨ps[kk],by simp⟩;obtain⟨y,hy⟩:∃y,qs[kk]? =some y:=⟨qs[kk]'(by have:=HQ.out;omega),by simp⟩;obtain⟨b,o,rfl,hbw,hnc,x0,x1⟩:=Gu (HA.out.later HAT.out.below) rfl hx;obtain⟨b',o',rfl,hbw',hnc',y0,y1⟩:=Gu (HB.out.later HAT.out.below) rfl hy;rw[←HQ.out]at hnc';have HD:=aa (show ps.drop kk=x::ps.drop (kk+1)by
    obtain⟨h1,rfl⟩:=List.getElem?_eq_some_iff.1 hx;exact List.drop_eq_getElem_cons h1)
   have HD':=aa (show qs.drop kk=y::qs.drop (kk+1)by
    obtain⟨h1,rfl⟩:=List.getElem?_eq_some_iff.1 hy;exact List.drop_eq_getElem_cons h1)
   have HW:=aa (show wrap64 ((kk:Int)+1)=((kk+1:Nat):Int)by rw[Go.IntWalk.wrap64_in _ (by have:=HL.out;omega)];omega);obtain⟨rH,M1,h1,h2⟩:∃rH M1,(if x.1=y.1 then al Mk x.2 y.2 else some (false,Mk))=some (rH,M1)∧(if rH then paramsF al M1 (ps.drop (kk+1)) (qs.drop (kk+1))else some (false,M1))=some (out,M'):=by
    have:=HF.out;rw[HD.out,HD'.out,paramsF]at this;by_cases e:x.1=y.1
    ·rw[if_pos e]at this ⊢;cases ha:al Mk x.2 y.2 with
     |none=>rw[ha]at this;cases this
     |some q=>
      obtain⟨o1,M1⟩:=q;rw[ha]at this;refine⟨o1,M1,rfl,?_⟩;cases o1<;>exact this
    ·rw[if_neg e]at this ⊢;exact⟨false,Mk,rfl,this⟩
   have HC:=aa (fun w (hb:Below wr.heap.size wr w)=>ac6 HI.out h1 (HAT.out.later hb));have H2:=aa h2;have hgr:=fun o o'=>((Below.refl wr.heap.size wr).alloc (Nat.le_refl _) o).alloc (by simp) o'
   clear hx hy h1 h2;cases rH
   ·go_wp2_with (go_at_call 158;refine(HC.out _ (hgr _ _)).mono ?_;rintro e w' ⟨rfl,h'⟩);go_ret;have:=H2.out;rw[if_neg (by decide),Option.some.injEq,Prod.mk.injEq]at this;obtain⟨rfl,rfl⟩:=this;exact⟨rfl,h'⟩
   ·go_wp2_with (go_at_call 158;refine(HC.out _ (hgr _ _)).mono ?_;rintro e w' ⟨rfl,h'⟩)
    go_roundg (gk-1)
    case measure=>omega
    refine⟨kk+1,M1,by omega,by omega,by rw[HW.out],h',H2.out⟩
  ·obtain rfl:kk=ps.length:=by omega
   have hltz:¬((ps.length:Int)<(ps.length:Int)):=by omega
   go_wp2_with fail;go_ret;have:=HF.out;rw[List.drop_length,paramsF.eq_2 _ _ _ _ (by intro p ps q qs h1 _;cases h1),Option.some.injEq,Prod.mk.injEq]at this;obtain⟨rfl,rfl⟩:=this;exact⟨rfl,HAT.out⟩
theorem ac8{w:World}{A B:Option Addr}{m n c d:Nat}{v:Value}(hl:m≠n):
 Calls Tryz.prog 157 #[.slice A m c,.slice B n d,v] w (fun e w'=>e=.returned (.bool false)∧w=w'):=by
 have hz:¬((m:Int)=(n:Int)):=by omega
 go_enter Tryz.func157,Tryz.ntmps157;go_wp2_with fail;go_ret;exact⟨rfl,rfl⟩
end Go.Proofs.YtlpombjidhloiaaGreat
namespace Go.Proofs.YtlpombjidhloiaaGreat
open Go.RowKit
section
variable {P:Program} {ops:Array Oper} {Q:Exit→Act→World→Prop} {md:Region.Mode} {S S2:World→Prop} {late:List Nat}
def nI(md:Region.Mode)(ops:Array Oper)(j k:Nat):Prop:=∀oj,ops[j]? =some oj→∃e∈oj.after,Region.binds md e=true∧e.on=k
theorem wv{i j:Nat}{listed:Array Bool}(hl:nI md ops j i)(hi:listed.getD i true=false):j∉Region.ready md ops listed:=fun hj=>by
 obtain⟨_,oj,hoj,hall⟩:=mem_ready.1 hj;obtain⟨e,he,hb,heq⟩:=hl oj hoj;have h1:=hall e he hb;rw[heq]at h1;rcases Nat.lt_or_ge i listed.size with h|h
 ·simp[h]at hi h1;rw[hi]at h1;cases h1
 ·simp[Array.getElem?_eq_none h]at h1
theorem MA{i:Nat}{oi:Oper}{v:Value}(hi:ops[i]? =some oi)(hsel:∀(j:Nat) (o:Oper) cs b,ops[j]? =some o→o.op≠.select cs b)(hQ:∀c a w,Q (.panic c) (a.put oi.dst v) w→Q (.panic c) a w):
 ∀(n:Nat) (listed:Array Bool) (a:Act) (w:World),(∀j,late.contains j=true→nI md ops j i∨∃k,listed.getD k true=false∧nI md ops j k∧nI md ops k i)→(∀j oj,ops[j]? =some oj→j≠i→listed.getD j true=false→(∀e∈oj.after,Region.binds md e=true→e.on≠i)→oi.apart ops oj=true)→
  i∈Region.ready md ops listed→YieldsIf P ops S oi v a→S w→S2 w→late.contains i=false→iH P md ops Q S S2 late n (listed.setIfInBounds i true) (a.put oi.dst v) w→iH P md ops Q S S2 late (n+1) listed a w
 |n,listed,a,w,hlate,hfree,hr,hy,hS,oH,hil,H=>by
  refine⟨fun h=>absurd hr (by rw[h];exact List.not_mem_nil),fun j hj=>?_⟩;by_cases hji:j=i
  ·exact Fz
  have hiu:=(mem_ready.1 hr).1;have hjl:late.contains j=false:=by
   cases hc:late.contains j
   ·rfl
   ·rcases hlate j hc with h|⟨k,hk,h,_⟩
    ·exact absurd hj (wv h hiu)
    ·exact absurd hj (wv h hk)
  cases n with
  |zero=>
   exact zT
  |succ n=>
   have h1:=H.2 j (ready_mono hj hji);obtain⟨hjun,oj,hoj,hall⟩:=mem_ready.1 hj;have hnot:∀e∈oj.after,Region.binds md e=true→e.on≠i:=fun e he hb heq=>by
    exact zU
   have h2:=wpOp_putIf hoj (hfree j oj hoj hji hjun hnot) (fun cs b=>hsel i oi cs b hi) (fun cs b=>hsel j oj cs b hoj) hQ hy h1;refine wpOp_mono (fun a' w' h3=>?_) h2;obtain⟨hy',h5,h4⟩:=h3;rw[hjl]at h4 ⊢;refine⟨h5,h4.1,MA hi hsel hQ n _ a' w' (fun l hl=>?_) (fun k ok hk hki hun hno=>hfree k ok hk hki ?_ hno) (ready_mono hr (Ne.symm hji)) hy' h4.1 h5 hil ?_⟩
   ·rcases hlate l hl with h|⟨k,hk,h,h'⟩
    ·exact .inl h
    ·refine .inr ⟨k,?_,h,h'⟩;have:j≠k:=fun e=>by subst e;exact wv h' hiu hj
     rw[getD_set_ne true this];exact hk
   ·exact zV
   ·exact zW
def qA(ops:Array Oper)(j k:Nat):Bool:=match ops[j]? with
 |some oj=>oj.after.any fun e=>Region.binds .any e&&e.on==k
 |none=>true
theorem ue{j k:Nat}(h:qA ops j k=true):nI .any ops j k:=fun oj ho=>by
 unfold qA at h;rw[ho]at h;obtain⟨e,he,hb⟩:=Array.any_eq_true'.1 h;exact MB
def FB(ops:Array Oper)(late:List Nat)(L:Array Bool)(i:Nat):Bool:=late.all fun j=>qA ops j i||(List.range ops.size).any fun k=>!L.getD k true&&qA ops j k&&qA ops k i
theorem Xr{L:Array Bool}{i:Nat}(h:FB ops late L i=true)(j:Nat)(hj:late.contains j=true):nI .any ops j i∨∃k,L.getD k true=false∧nI .any ops j k∧nI .any ops k i:=by
 have:=List.all_eq_true.1 h j (by simpa using hj);simp only[Bool.or_eq_true,List.any_eq_true,Bool.and_eq_true,Bool.not_eq_true']at this;rcases this with h|⟨k,_,⟨h1,h2⟩,h3⟩
 ·exact .inl (ue h)
 ·exact .inr ⟨k,h1,ue h2,ue h3⟩
def FD(ops:Array Oper)(late:List Nat)(ms:List Al)(listed:Array Bool)(i:Nat):Bool:=
 pg ops ms i&& !late.contains i&&(bits ms.length).all fun b=>(Region.ready .any ops (ft listed ms b)).contains i&&Region.free .any ops (ft listed ms b) i&&FB ops late (ft listed ms b) i
theorem Xs{w0 w:World}{ms:List Al}{listed:Array Bool}{a:Act}{i:Nat}{o:Oper}{v:Value}(hf:eE ops late ms=true)(ho:ops[i]? =some o)(hB:FD ops late ms listed i=true)
 (hQ:∀c a d v w,Q (.panic c) (a.put d v) w↔Q (.panic c) a w) (hw:Below w0.heap.size w0 w) (hy:YieldsIf P ops (fun w'=>Below w0.heap.size w0 w') o v a)
 (h:cZ P ops Q w0 late ms w (listed.setIfInBounds i true) (a.put o.dst v)):cZ P ops Q w0 late ms w listed a:=by
 intro fl hm wr hwr hN n hn;simp only[FD,Bool.and_eq_true,Bool.not_eq_true']at hB;obtain⟨⟨hoff,hnl⟩,hall⟩:=hB;have hrf:=rX (f:=fun L=>(Region.ready .any ops L).contains i&&Region.free .any ops L i&&FB ops late L i) hall fl hm;simp only[Bool.and_eq_true]at hrf;simp only[eE,Bool.and_eq_true]at hf;obtain⟨k,rfl,hk⟩:=qx hrf.1.1 n hn;obtain⟨hd,hix⟩:=ua ho hoff;obtain⟨he,hwt⟩:=tZ ho hoff (fun cs b=>Region.noSelect_spec hf.1.1.1 i o cs b ho) a fl hm;have h2:=h fl hm wr hwr hN k (by rw[lN _ _ _ (by rw[hm];exact hix)];exact hk);rw[lN _ _ _ (by rw[hm];exact hix),tY _ _ _ _ (by rw[hm];exact hd)]at h2;exact MA ho (Region.noSelect_spec hf.1.1.1) (fun c a w=>(hQ c a _ _ w).1) k _ _ _ (Xr hrf.2) (Region.free_spec ho hrf.1.2) (by simpa using hrf.1.1) (hy.of_same he hwt) (hw.trans (hwr.mono hw.size)) trivial hnl h2
theorem Xt{w0 w:World}{ms:List Al}(hf:eE ops late ms=true)(hQ:∀c a d v w,Q (.panic c) (a.put d v) w↔Q (.panic c) a w)(hw:Below w0.heap.size w0 w)(i:Nat)(listed:Array Bool)(a:Act)(hp:nH ops [i]=true)(hB:FD ops late ms listed i=true)
 (h:wpQuiet P ops (fun w'=>∃x,w'=fc w0 x) (cZ P ops Q w0 late ms w (listed.setIfInBounds i true)) (dX ops [i]) a):cZ P ops Q w0 late ms w listed a:=by
 obtain⟨o,ho,hpo,_⟩:=zN hp;rw[zO ho]at h;have hst:qOp P ops (fun w'=>∃x,w'=fc w0 x) i (wpQuiet P ops (fun w'=>∃x,w'=fc w0 x) (cZ P ops Q w0 late ms w (listed.setIfInBounds i true)) (dX ops [])) a:=by unfold qOp;simp only[ho];exact h
 obtain⟨v,hy,hK⟩:=yieldsIn_of_qOp ho hst;refine Xs hf ho hB hQ hw ?_ hK;rcases hy with⟨h1,h2⟩|h1
 ·exact zP
 ·exact .inr h1
end
end Go.Proofs.YtlpombjidhloiaaGreat
namespace Go.Proofs.YtlpombjidhloiaaGreat
open Go.RowKit
set_option maxRecDepth 100000
attribute [local go_sem ↓] Go.wp_at_zero Go.wp_at_succ
theorem OV{T:List Ty}(h:∀t∈T,ln t)(i:Int):(aF T i).params.length≤1000000:=by
 unfold aF;split
 ·simp[dg]
 ·rw[List.getD_eq_getElem?_getD];cases e:T[i.toNat]? with
  |none=>simp[dg]
  |some t=>exact(h t (List.mem_of_getElem? e)).params
set_option maxHeartbeats 1000000 in
theorem ac9{w0:World}{p:Nat}{T:List Ty}{g1 g2 g3 r:Nat}(f:Nat)(ih:xB w0 p T g1 g2 g3 r (ko T f)):xB w0 p T g1 g2 g3 r (ko T (f+1)):=by
 intro M a b out M' w he h;have H:=aa h;unfold ko at he;simp only at he;have HE:=aa he;have HI:=aa ih;have c1:=h.c1;have hg:=aQ c1;clear h he ih;go_enter Tryz.func156,Tryz.ntmps156;go_wp2_with fail;refine bh [8,9] [⟨6,8,zTy,47⟩,⟨7,9,zTy,47⟩] (by kernel_rfl) ?_;refine qy (by kernel_rfl) (by intro c a d v w;cases d<;>exact Iff.rfl) (Below.refl _ _) [0,1,4] _ _ (by kernel_rfl) (by kernel_rfl) ?_;simp only[dX,List.filterMap,List.getElem?_toArray,List.getElem?_cons_zero,List.getElem?_cons_succ];repeat (go_big_quiet_step (fail))
 refine wpQuiet_nil ?_;refine Xt (by kernel_rfl) (by intro c a d v w;cases d<;>exact Iff.rfl) (Below.refl _ _) 3 _ _ (by kernel_rfl) (by kernel_rfl) ?_;simp only[dX,List.filterMap,List.getElem?_toArray,List.getElem?_cons_zero,List.getElem?_cons_succ];repeat (go_big_quiet_step (fail))
 refine wpQuiet_nil ?_;refine lf (i:=2) (by kernel_rfl) (ud mW mW) rfl (by kernel_rfl) (Below.refl _ _) rfl (by intro c a d v w;cases d<;>exact Iff.rfl) (fun w1 _=>?_) (fun w4 ab=>(Sy H.out.tab (H.out.below.trans (ab.mono H.out.below.size)) a).mono ?_)
 ·go_simp
 rintro e w5 ⟨sa,rfl,ha,hb⟩;refine⟨hb,?_⟩;have HA:=aa ha;have bc:=aa (ab.trans (hb.mono ab.size));clear hb ab ha;refine lf (i:=5) (by kernel_rfl) (ud mW mW) rfl (by kernel_rfl) bc.out rfl (by intro c a d v w;cases d<;>exact Iff.rfl) (fun w1 _=>?_) (fun w6 aH=>(Sy H.out.tab (H.out.below.trans ((bc.out.trans (aH.mono bc.out.size)).mono H.out.below.size)) b).mono ?_)
 ·go_simp
 rintro e w7 ⟨sb,rfl,hbb,hb⟩;refine⟨hb,?_⟩;have HB:=aa hbb;have cA:=aa (bc.out.trans ((aH.trans (hb.mono aH.size)).mono bc.out.size));clear hb aH hbb;refine OM 8 (by kernel_rfl) mW mW (by kernel_rfl) cA.out rfl rfl rfl rfl (fun _ _=>rfl) (fun _ _=>rfl) info47 rfl (Gt _ _) rfl rfl rfl rfl (fun _ _=>rfl) (fun _ _=>rfl) info47 rfl (Gt _ _) (fun b1 b2 w8 ae af hne x1 x2 aB=>?_);simp only[List.getElem_toArray,List.getElem_cons_zero,List.getElem_cons_succ,Act.put,List.setIfInBounds_toArray,List.set_cons_zero,List.set_cons_succ,List.drop_succ_cons,List.drop_zero];have h8:=H.out.later aB;have lk:=h8.look a b;have c2:=h8.c2;have c3:=h8.c3;have tj:=aQ c2;have yG:=aQ c3;have H8:=aa h8;have X1:=aa x1;have X2:=aa x2;have z1:=fun i=>x1.cell i
 have z2:=fun i=>x2.cell i
 have l1:=x1.lt;have l2:=x2.lt;have HR:=aa (show r≠b1∧r≠b2 by have:=H.out.km.lt;constructor<;>omega);have HK:=aa H.out.tab.ok;clear h8 x1 x2 aB ae af H cA bc c1 hg;have HKA:=aa (show(aF T a).params.length≤1000000 from OV HK.out a);generalize aF T a=ta at *;generalize aF T b=tb at *;dsimp only[bX]at z1 z2;by_cases h0:ta.kind=0
 ·have HV:=aa HE.out;rw[h0]at z1;clear HE;go_wp2_with fail;go_ret;have:=HV.out;rw[if_pos (.inl h0),Option.some.injEq,Prod.mk.injEq]at this;exact CG
 have d0:=beq_eq_false_iff_ne.2 h0;by_cases h1:ta.kind≠tb.kind
 ·have d1:=beq_eq_false_iff_ne.2 h1;go_wp2_with fail;go_ret;have:=HE.out;rw[if_pos (.inr h1),Option.some.injEq,Prod.mk.injEq]at this;exact CG
 replace h1:ta.kind=tb.kind:=Decidable.not_not.1 h1
 have jS:=aa (show(if a=b∨(a,b)∈M then some (true,M)else if ta.kind=11 then some (decide (ta.base=tb.base),M)else if ta.kind=16∧ta.result=tb.result∧ta.params.length=tb.params.length then paramsF (ko T f) (M++[(a,b)]) ta.params tb.params else some (false,M++[(a,b)]))=some (out,M')by
  have:=HE.out
  rwa [if_neg (by rintro(h|h);exact h0 h;exact h h1)]at this)
 clear HE;rw[←h1]at z2;by_cases h2:a=b
 ·subst h2;go_wp2_with fail;go_ret;have:=jS.out;rw[if_pos (by simp),Option.some.injEq,Prod.mk.injEq]at this;exact CG
 have d2:=beq_eq_false_iff_ne.2 h2;by_cases h3:(a,b)∈M
 ·rw[decide_eq_true h3]at lk;go_wp2_with fail;go_ret;have:=jS.out;rw[if_pos (.inr h3),Option.some.injEq,Prod.mk.injEq]at this;exact CG
 rw[decide_eq_false h3]at lk;have jC:=aa (show(if ta.kind=11 then some (decide (ta.base=tb.base),M)else if ta.kind=16∧ta.result=tb.result∧ta.params.length=tb.params.length then paramsF (ko T f) (M++[(a,b)]) ta.params tb.params else some (false,M++[(a,b)]))=some (out,M')by
  have:=jS.out
  rwa [if_neg (by rintro(h|h);exact h2 h;exact h3 h)]at this)
 clear jS;by_cases h4:ta.kind=11
 ·rw[h4]at z1 z2;go_wp2_with fail;go_ret;have:=jC.out;rw[if_pos h4,Option.some.injEq,Prod.mk.injEq]at this;obtain⟨rfl,rfl⟩:=this;exact⟨by by_cases e:ta.base=tb.base<;>simp[e]<;>rfl,H8.out⟩
 have d4:=beq_eq_false_iff_ne.2 h4;have DH:=aa (show(if ta.kind=16∧ta.result=tb.result∧ta.params.length=tb.params.length then paramsF (ko T f) (M++[(a,b)]) ta.params tb.params else some (false,M++[(a,b)]))=some (out,M')by
  have:=jC.out
  rwa [if_neg h4]at this)
 clear jC;obtain⟨w9,hput,h9,hoth⟩:=H8.out.put a b h3;have H9:=aa h9;have y1:Bx b1 _ _ w9:=(hoth b1 (Ne.symm HR.out.1)).trans X1.out;have y2:Bx b2 _ _ w9:=(hoth b2 (Ne.symm HR.out.2)).trans X2.out;have u1:=fun i=>y1.cell i
 have u2:=fun i=>y2.cell i
 have k1:=y1.lt;have k2:=y2.lt;dsimp only[bX]at u1 u2;clear h9 y1 y2 hoth X1 X2;rw[←h1]at u2;have HU:=aa (show ¬(ta.kind=16∧ta.result=tb.result∧ta.params.length=tb.params.length)→some (false,M++[(a,b)])=some (out,M')from fun h=>by
  have:=DH.out;rwa [if_neg h]at this)
 by_cases h5:ta.kind=16
 ·rw[h5]at u1 u2;by_cases h6:ta.result=tb.result
  ·rw[←h6]at u2;by_cases h7:ta.params.length=tb.params.length
   ·have HF:=aa (show paramsF (ko T f) (M++[(a,b)]) ta.params tb.params=some (out,M')by
     have:=DH.out;rwa [if_pos ⟨h5,h6,h7⟩]at this)
    have HC:=aa (ac7 HI.out HA.out.params HB.out.params h7 HKA.out HF.out H9.out);clear h7 h6;go_wp2_with fail;refine(HC.out).mono ?_;rintro e w10 ⟨rfl,h10⟩;go_wp2_with fail;go_ret;exact⟨rfl,h10⟩
   ·have HC:=aa (fun v=>ac8 (w:=w9) (A:=sa.A4) (B:=sb.A4) (c:=sa.c4) (d:=sb.c4) (v:=v) h7);have HV:=aa (HU.out (by rintro⟨_,_,h⟩;exact h7 h));clear h7 h6;go_wp2_with fail;refine(HC.out _).mono ?_;rintro e w10 ⟨rfl,rfl⟩;exact Ip
  ·have HV:=aa (HU.out (by rintro⟨_,h,_⟩;exact h6 h));have d6:=beq_eq_false_iff_ne.2 h6;exact Ip
 ·have HV:=aa (HU.out (by rintro⟨h,_⟩;exact h5 h));have d5:=beq_eq_false_iff_ne.2 h5;exact Ip
@[go_sem] theorem ajr{P:Program}{w:World}{a:Addr}{m:Mode}(f:Fn)(x y:Array Value):(store a (.func f x y) m).run P w=stored P w a (.func f x y) m:=run_store P w a _ m rfl
theorem SB(w0:World)(p:Nat)(T:List Ty)(g1 g2 g3 r:Nat):∀f,xB w0 p T g1 g2 g3 r (ko T f)
 |0=>fun M a b out M' w h=>by unfold ko at h;cases h
 |f+1=>ac9 f (SB w0 p T g1 g2 g3 r f)
theorem ada{w:World}{p:Nat}{T:List Ty}(h:cF w p T)(a b:Int):Calls Tryz.prog 135 #[.pointer (some ⟨p,0,none⟩),.int .i64 a,.int .i64 b] w (Pv w (.bool (wW T a b))):=by
 have H:=aa h;have mk:=fun w=>lW (key:=kV) (P:=Tryz.prog) w 252
 have HM:=aa (fun w=>nR kV w []);have HMB:=aa (fun w=>nQ kV w []);have HMS:=aa (fun w=>abF kV w []);clear h;go_enter Tryz.func135,Tryz.ntmps135;go_upto_region 1 with(fail);generalize az:w.alloc _=w1;obtain⟨ae,x1,aE⟩:=made az;have B1:=aa ae;have X1:=aa x1;have S1:=aa aE;clear az ae x1 aE;go_upto_region 3 with(fail);have km:=HM.out w1;have kb:=HMB.out w1;have ks:=HMS.out w1;generalize cC kV w1 []=w2 at *;generalize cU:w2.alloc _=w3;obtain⟨ad,x3,iv⟩:=made cU;rw[←iv];generalize ab:w3.alloc _=w4;obtain⟨aw,x4,iZ⟩:=made ab;have b2:=B1.out.trans (kb.mono B1.out.size);have b3:=b2.trans (ad.mono b2.size);have b4:=b3.trans (aw.mono b3.size);have y1:=((X1.out.grow kb).grow ad).grow aw;have y3:=x3.grow aw;have yr:=(km.later ad).later aw;have S:=aa (show w1.heap.size=w.heap.size+1∧w2.heap.size=w.heap.size+2∧w3.heap.size=w.heap.size+3∧w4.heap.size=w.heap.size+4 by have:=S1.out;omega);have B4:=aa b4;have Y1:=aa y1;have Y3:=aa y3;have Y4:=aa x4;have DT:=aa yr;have z4:=fun i=>x4.cell i
 have f4:=fun i=>x4.frozen i
 have l4:=x4.lt;clear cU ab ad aw b2 b3 b4 y1 y3 x3 x4 km yr kb ks iv iZ B1 X1 S1 HM HMB HMS mk;have x4:=Y4.out.set 0 (.func (.func 156) #[] #[.pointer (some ⟨w.heap.size,0,none⟩),.pointer (some ⟨w2.heap.size,0,none⟩),.pointer (some ⟨w3.heap.size,0,none⟩)]);have x1:=Y1.out.far (a:=⟨w3.heap.size,0,none⟩) (show w.heap.size≠w3.heap.size by have:=S.out;omega) (.func (.func 156) #[] #[.pointer (some ⟨w.heap.size,0,none⟩),.pointer (some ⟨w2.heap.size,0,none⟩),.pointer (some ⟨w3.heap.size,0,none⟩)]);have x3:=Y3.out.far (a:=⟨w3.heap.size,0,none⟩) (show w2.heap.size≠w3.heap.size by have:=S.out;omega) (.func (.func 156) #[] #[.pointer (some ⟨w.heap.size,0,none⟩),.pointer (some ⟨w2.heap.size,0,none⟩),.pointer (some ⟨w3.heap.size,0,none⟩)]);have km:=DT.out.other (Below.heap_setCell w4 ⟨w3.heap.size,0,none⟩ (.func (.func 156) #[] #[.pointer (some ⟨w.heap.size,0,none⟩),.pointer (some ⟨w2.heap.size,0,none⟩),.pointer (some ⟨w3.heap.size,0,none⟩)]) w1.heap.size (show w1.heap.size≠w3.heap.size by have:=S.out;omega));have hA:kW w p T w.heap.size w2.heap.size w3.heap.size w1.heap.size [] (w4.setCell ⟨w3.heap.size,0,none⟩ (.func (.func 156) #[] #[.pointer (some ⟨w.heap.size,0,none⟩),.pointer (some ⟨w2.heap.size,0,none⟩),.pointer (some ⟨w3.heap.size,0,none⟩)])):=
  ⟨H.out,B4.out.setCell (show w.heap.size≤w3.heap.size by have:=S.out;omega) _,by have:=S.out;omega,by have:=S.out;omega,by have:=S.out;omega,by have:=S.out;omega,x1.cell 0,x3.cell 0,x4.cell 0,km⟩
 have HA:=aa hA;clear x4 x1 x3 km hA;obtain⟨M',hM⟩:=aaX T a b;have HC:=aa (SB w p T _ _ _ _ _ _ _ _ _ _ _ hM HA.out);go_wp2_with (go_at_call 156;refine(HC.out).mono ?_;rintro e w' ⟨rfl,h'⟩);go_ret;exact⟨rfl,h'.below⟩
theorem wO{w:World}{p:Nat}{T:List Ty}(h:cF w p T)(a b:Int):Calls Tryz.prog 101 #[.pointer (some ⟨p,0,none⟩),.int .i64 a,.int .i64 b] w (Pv w (.bool (ey T a b))):=by
 have H:=aa h;have HR:=aa (show ey T a b=if aJ T a=0∨aJ T b=0 then false else decide (aP T a=aP T b)||mA T a b||mA T b a||(decide (aJ T a=16)&&wW T a b)from rfl);clear h;go_enter Tryz.func101,Tryz.ntmps101;go_wp2_with fail;refine(kP H.out _).mono ?_;rintro e w1 ⟨s,rfl,_,hb⟩;have H1:=aa (H.out.later hb);have aO:=aa hb;clear hb H;dsimp only[bX];unfold aJ at HR;generalize hka:(aF T a).kind=ka at *;have HKA:=aa hka;clear hka;by_cases h0:ka=0
 ·subst h0;go_wp2_with fail;go_ret;exact⟨by rw[HR.out,if_pos (by simp)];rfl,aO.out⟩
 have d0:=beq_eq_false_iff_ne.2 h0;go_wp2_with fail;refine(kP H1.out _).mono ?_;rintro e w2 ⟨s2,rfl,_,hb⟩;have H2:=aa (H1.out.later hb);have aV:=aa (aO.out.trans (hb.mono aO.out.size));clear hb H1 aO;dsimp only[bX];generalize(aF T b).kind=kb at *;by_cases h1:kb=0
 ·subst h1;go_wp2_with fail;go_ret;exact⟨by rw[HR.out,if_pos (by simp)];rfl,aV.out⟩
 have d1:=beq_eq_false_iff_ne.2 h1;have eB:=aa (HR.out.trans (if_neg (by rintro(h|h);exact h0 h;exact h1 h)));clear HR;go_wp2_with fail;refine(mT H2.out _).mono ?_;rintro e w3 ⟨rfl,hb⟩;have H3:=aa (H2.out.later hb);have bD:=aa (aV.out.trans (hb.mono aV.out.size));clear hb H2 aV;go_wp2_with fail;refine(mT H3.out _).mono ?_;rintro e w4 ⟨rfl,hb⟩;have H4:=aa (H3.out.later hb);have cd:=aa (bD.out.trans (hb.mono bD.out.size));clear hb H3 bD;generalize aP T a=x at *;generalize aP T b=y at *;by_cases h2:x=y
 ·subst h2;go_wp2_with fail;go_ret;exact⟨by rw[eB.out];simp,cd.out⟩
 have d2:=beq_eq_false_iff_ne.2 h2;go_wp2_with fail;refine(Sp H4.out _ _).mono ?_;rintro e w5 ⟨rfl,hb⟩;have H5:=aa (H4.out.later hb);have bc:=aa (cd.out.trans (hb.mono cd.out.size));clear hb H4 cd;by_cases pU:mA T a b=true
 ·rw[pU];go_wp2_with fail;go_ret;exact⟨by rw[eB.out,pU];simp,bc.out⟩
 have pU:mA T a b=false:=by simpa using pU
 rw[pU];go_wp2_with fail;refine(Sp H5.out _ _).mono ?_;rintro e w6 ⟨rfl,hb⟩;have H6:=aa (H5.out.later hb);have bT:=aa (bc.out.trans (hb.mono bc.out.size));clear hb H5 bc;by_cases tC:mA T b a=true
 ·rw[tC];go_wp2_with fail;go_ret;exact⟨by rw[eB.out,tC];simp,bT.out⟩
 have tC:mA T b a=false:=by simpa using tC
 rw[tC];go_wp2_with fail;refine(kP H6.out _).mono ?_;rintro e w7 ⟨s3,rfl,_,hb⟩;have H7:=aa (H6.out.later hb);have cA:=aa (bT.out.trans (hb.mono bT.out.size));clear hb H6 bT;dsimp only[bX];rw[HKA.out];by_cases h16:ka=16
 ·subst h16;go_wp2_with fail;refine(ada H7.out _ _).mono ?_;rintro e w8 ⟨rfl,hb⟩;have gY:=aa (cA.out.trans (hb.mono cA.out.size));clear hb H7 cA;go_wp2_with fail;go_ret;exact⟨by rw[eB.out,pU,tC];simp[h2],gY.out⟩
 have d16:=beq_eq_false_iff_ne.2 h16;go_wp2_with fail;go_ret;exact⟨by rw[eB.out,pU,tC];simp[h2,h16],cA.out⟩
end Go.Proofs.YtlpombjidhloiaaGreat
