/- ref04. Condition: what each theorem says. -/
import Derived.Test.YtlpombjidhloiaaGreatBaq
namespace Go.Proofs.YtlpombjidhloiaaGreat
open Go.RowKit
set_option maxRecDepth 100000
attribute [local go_sem ↓] Go.wp_at_zero Go.wp_at_succ
attribute [local go_sem] Hr pK
def Ry(len:Nat)(w:World)(e:Ending)(w':World):Prop:=(∃(k:Int) (t:List UInt8) (n m:Nat) (c:Int),e=.returned (.tuple #[.agg (pK k t n),.int .i64 m,.int .i64 c])∧(c=0→1≤m∧m≤len∧(k=2→n≤65535)))∧Below w.heap.size w w'
theorem nf{fn:Func}(hfn:fn.results=#[.cell 2 177,.tmp 3,.tmp 4]){len:Nat}{w wF:World}{k:Int}{t:List UInt8}{n m:Nat}{c:Int}{tmps:Array Value}{ds:List Deferred}{b:Nat}(X:Bx b (pK k t n) 177 wF)(hb:Below w.heap.size w wF)(hd:ds=[])
 (hp:tmps.getD 2 undef=.pointer (some ⟨b,0,none⟩)) (h3:tmps.getD 3 undef=.int .i64 m) (h4:tmps.getD 4 undef=.int .i64 c) (hq:c=0→1≤m∧m≤len∧(k=2→n≤65535)):bodyPost Tryz.prog fn (Ry len w) .ret ⟨tmps,ds⟩ wF:=by
 have hp':tmps[2]?.getD undef=.pointer (some ⟨b,0,none⟩):=by simpa using hp
 refine bodyPost_ret (v:=.tuple #[.agg (pK k t n),.int .i64 m,.int .i64 c]) ?_ hd ⟨⟨k,t,n,m,c,rfl,hq⟩,hb⟩;rw[←h3,←h4];simp[results,hfn,hp',asAddr,run_loadVar_row wF b _ _ _ (0,0) _ X Tryz.underlying177 rfl (infoTok.trans rfl)]
theorem ng{w:World}{b:Nat}{y0 y1 y2 y3 y4:Value}(h:Bx b #[y0,y1,y2,y3,y4] 177 w)(k:Int)(t:List UInt8)(n:Int):Bx b (pK k t n) 177 (((((w.setCell ⟨b,0,none⟩ (.int .u8 k)).setCell ⟨b,1,none⟩ (.complex .f64 0 0)).setCell ⟨b,2,none⟩ (.complex .f64 0 0)).setCell ⟨b,3,none⟩ (.string ⟨t.toArray⟩)).setCell ⟨b,4,none⟩ (.int .i64 n)):=((((h.set 0 _).set 1 _).set 2 _).set 3 _).set 4 _
theorem nh{B b:Nat}{a w:World}{v0 v1 v2 v3 v4:Value}(h:Below B a w)(hk:B≤b):Below B a (((((w.setCell ⟨b,0,none⟩ v0).setCell ⟨b,1,none⟩ v1).setCell ⟨b,2,none⟩ v2).setCell ⟨b,3,none⟩ v3).setCell ⟨b,4,none⟩ v4):=((((h.setCell hk _).setCell hk _).setCell hk _).setCell hk _).setCell hk _
theorem Cq{a w:World}(h:Below a.heap.size a w){o:Obj}:Below a.heap.size a (w.alloc o):=h.trans ((dq w o).mono h.size)
theorem Cs{s:List UInt8}{m:Nat}(h1:1≤m)(h2:0<s.length):s.take m≠[]:=by
 cases s with
 |nil=>exact absurd h2 (by simp)
 |cons c r=>
  cases m with
  |zero=>omega
  |succ m=>simp
theorem acq{n:Int}(h:lF n=true):48≤n:=by unfold lF at h;simp at h;exact h.1
set_option maxHeartbeats 4000000 in
theorem acr(s:List UInt8)(hs:s≠[])(hl:s.length≤1000000)(w:World):Calls Tryz.prog 93 #[.string ⟨s.toArray⟩] w (Ry s.length w):=by
 have HL:=aa acs;have HD:=aa acu;have HW:=aa acv;have HN:=aa acp;have HY:=aa (aco s hs);have HP:=aa acw;have hpos:=List.length_pos_iff.2 hs;obtain⟨c,hc⟩:∃c,s[0]? =some c:=⟨s[0],by simp⟩;have HC:=aa hc;have agT:∀(h:0<(⟨s.toArray⟩:ByteArray).size),(⟨s.toArray⟩:ByteArray)[0]=c:=fun h=>by
  have h2:=HC.out;rw[List.getElem?_eq_getElem hpos]at h2;exact Option.some.inj h2
 clear hc hs;go_enter Tryz.func93,Tryz.ntmps93;go_upto_region 3 with(fail);generalize az:w.alloc _=w1;obtain⟨ae,x1,aE⟩:=made az;have HB:=aa ae;have HX:=aa x1;have z1:=HX.out.cell;have f1:=HX.out.frozen;have l1:=HX.out.lt;clear az ae x1 aE;go_wp2_with fail;refine(HL.out _ _).mono ?_;rintro e wq ⟨rfl,rfl⟩;cases hL:kR c.toNat
 ·go_wp2_with fail;refine(HD.out _ _).mono ?_;rintro e wq ⟨rfl,rfl⟩;cases hD:lF c.toNat
  ·go_wp2_with fail
   ·go_loopg [5] (s.length-1) (fun gg s5 wr=>∃kk:Nat,1≤kk∧kk≤s.length∧gg=s.length-kk∧s5=.int .i64 kk∧w1=wr)
    case atStart=>exact⟨1,Nat.le_refl _,hpos,rfl,rfl,rfl⟩
    case round=>
     obtain⟨kk,mE,hkk,hgk,rfl,rfl⟩:=hrel;have hE:=gT s 1 kk;by_cases hlt:kk<s.length
     ·have hltz:(kk:Int)<(s.length:Int):=by omega
      obtain⟨d,hd⟩:∃d,s[kk]? =some d:=⟨s[kk],by simp⟩;have HDD:=aa hd;have hix:∀(h:kk<(⟨s.toArray⟩:ByteArray).size),(⟨s.toArray⟩:ByteArray)[kk]=d:=fun h=>by
       have h2:=HDD.out;exact uM
      clear hd;go_wp2_with fail
      ·exact Ct
      ·go_roundg (gk-1)
       case measure=>omega
       exact⟨kk+1,by omega,by omega,by omega,rfl,rfl⟩
      ·exact xn
      ·exact Ct
     ·go_wp2_with fail
      ·exact xn
   ·go_loopg [5] (s.length-1) (fun gg s5 wr=>∃kk:Nat,1≤kk∧kk≤s.length∧gg=s.length-kk∧s5=.int .i64 kk∧w1=wr)
    case atStart=>exact⟨1,Nat.le_refl _,hpos,rfl,rfl,rfl⟩
    case round=>
     obtain⟨kk,mE,hkk,hgk,rfl,rfl⟩:=hrel;have hE:=gT s 1 kk;by_cases hlt:kk<s.length
     ·have hltz:(kk:Int)<(s.length:Int):=by omega
      obtain⟨d,hd⟩:∃d,s[kk]? =some d:=⟨s[kk],by simp⟩;have HDD:=aa hd;have hix:∀(h:kk<(⟨s.toArray⟩:ByteArray).size),(⟨s.toArray⟩:ByteArray)[kk]=d:=fun h=>by
       have h2:=HDD.out;exact uM
      clear hd;go_wp2_with fail
      ·exact xn
      ·exact Ct
      ·go_roundg (gk-1)
       case measure=>omega
       exact⟨kk+1,by omega,by omega,by omega,rfl,rfl⟩
      ·exact xn
      ·exact Ct
     ·go_wp2_with fail
      ·exact xn
   ·refine(HY.out _).mono ?_;rintro e w2 ⟨⟨n,hn,rfl⟩,af⟩;have hE:=gT s 0 n;have X2:=aa (HX.out.grow af);have B2:=aa (HB.out.trans (af.mono HB.out.size));have z2:=X2.out.cell;have f2:=X2.out.frozen;have l2:=X2.out.lt;clear af;by_cases h0:n=0
    ·subst h0;go_wp2_with fail;exact nf (k:=0) (t:=[]) (n:=0) (m:=0) (c:=40) rfl (ng X2.out 0 [] 0) (nh B2.out (Nat.le_refl _)) rfl rfl rfl rfl (fun h=>absurd h (by decide))
    ·have h0z:((n:Int)==0)=false:=beq_eq_false_iff_ne.2 (by omega);go_wp2_with fail;refine(HP.out _ _).mono ?_;rintro e w3 ⟨rfl,ad⟩;have X3:=aa (X2.out.grow ad);have B3:=aa (B2.out.trans (ad.mono B2.out.size));have z3:=X3.out.cell;have f3:=X3.out.frozen;have l3:=X3.out.lt;clear ad;generalize wV (s.take n)=ps;obtain⟨pk,pt⟩:=ps;go_wp2_with fail;exact nf (k:=pk) (t:=pt) (n:=0) (m:=n) (c:=0) rfl (ng X3.out pk pt 0) (nh B3.out (Nat.le_refl _)) rfl rfl rfl rfl (fun _=>⟨by omega,hn,fun _=>by omega⟩)
  ·go_wp2_with fail
   go_loopg [5] s.length (fun gg s5 wr=>∃kk:Nat,kk≤s.length∧gg=s.length-kk∧s5=.int .i64 kk∧w1=wr∧∀x∈s.take kk,48≤x.toNat)
   case atStart=>exact⟨0,Nat.zero_le _,by omega,rfl,rfl,fun x hx=>by simp at hx⟩
   case round=>
    obtain⟨kk,hkk,hgk,rfl,rfl,h48⟩:=hrel;have hE:=gT s 0 kk;have hE1:=gT s 0 (kk+1);have HE:1≤kk∨∃h:kk<s.length,lF s[kk].toNat=true:=by
     by_cases h0:1≤kk
     ·exact .inl h0
     ·obtain rfl:kk=0:=by omega
      have h2:=HC.out;rw[List.getElem?_eq_getElem hpos]at h2;exact .inr ⟨hpos,by rw[Option.some.inj h2];exact hD⟩
    have HE:=aa HE;have H48:=aa h48;clear h48;by_cases hlt:kk<s.length
    ·have hltz:(kk:Int)<(s.length:Int):=by omega
     obtain⟨d,hd⟩:∃d,s[kk]? =some d:=⟨s[kk],by simp⟩;have HDD:=aa hd;have HT:=aa (show 48≤d.toNat→∀x∈s.take (kk+1),48≤x.toNat by
      intro h x hx;rw[List.take_add_one,hd]at hx;rcases List.mem_append.1 hx with hx|hx
      ·exact H48.out x hx
      ·simp at hx;subst hx;exact h)
     have hix:∀(h:kk<(⟨s.toArray⟩:ByteArray).size),(⟨s.toArray⟩:ByteArray)[kk]=d:=fun h=>by
      have h2:=HDD.out;exact uM
     clear hd;go_wp2_with fail;refine(HD.out _ _).mono ?_;rintro e wq ⟨rfl,rfl⟩;cases Kl:lF d.toNat
     ·go_wp2_with fail
      ·go_roundg (gk-1)
       case measure=>omega
       exact⟨kk+1,by omega,by omega,rfl,rfl,HT.out (by omega)⟩
      ·have h7:((d.toNat:Int)==72)=true:=by assumption
       have h72:=eq_of_beq h7;have hne:s.take (kk+1)≠[]:=by
        have h1:1≤kk+1:=by
         omega
        exact Cs h1 hpos
       refine(HN.out (s.take (kk+1)) hne (HT.out (by omega)) (by simp;omega) _).mono ?_;rintro e w2 ⟨⟨k,n,q,rfl,hq,hk⟩,af⟩;have qd:1≤kk+1:=by
        omega
       have gI:kk+1≤s.length:=by omega
       have X2:=aa (HX.out.grow af);have B2:=aa (HB.out.trans (af.mono HB.out.size));have HQ:=aa hq;have z2:=X2.out.cell;have f2:=X2.out.frozen;have l2:=X2.out.lt;clear af hq hk hne;cases q
       ·go_wp2_with fail;exact nf (k:=0) (t:=[]) (n:=0) (m:=0) (c:=41) rfl ((ng X2.out 0 [] 0).grow (dq _ _)) (Cq (nh B2.out (Nat.le_refl _))) rfl rfl rfl rfl (fun h=>absurd h (by decide))
       ·go_wp2_with fail;exact nf (k:=k) (t:=[]) (n:=n) (m:=kk+1) (c:=0) rfl ((ng X2.out k [] n).grow (dq _ _)) (Cq (nh B2.out (Nat.le_refl _))) rfl rfl rfl rfl (fun _=>⟨qd,gI,HQ.out trivial⟩)
      ·have hne:s.take (kk)≠[]:=by
        have h1:1≤kk:=by
         exact Cu
        exact Cs h1 hpos
       refine(HN.out (s.take (kk)) hne (H48.out) (by simp;omega) _).mono ?_;rintro e w2 ⟨⟨k,n,q,rfl,hq,hk⟩,af⟩;have qd:1≤kk:=by
        exact Cu
       exact Hs
      ·have hne:s.take (kk)≠[]:=by
        have h1:1≤kk:=by
         exact Cu
        exact Cs h1 hpos
       refine(HN.out (s.take (kk)) hne (H48.out) (by simp;omega) _).mono ?_;rintro e w2 ⟨⟨k,n,q,rfl,hq,hk⟩,af⟩;have qd:1≤kk:=by
        exact Cu
       exact Hs
     ·go_wp2_with fail
      go_roundg (gk-1)
      case measure=>omega
      exact⟨kk+1,by omega,by omega,rfl,rfl,HT.out (by have:=acq Kl;omega)⟩
    ·go_wp2_with fail;have hne:s.take (kk)≠[]:=by
      have h1:1≤kk:=by
       exact Ht
      exact Cs h1 hpos
     refine(HN.out (s.take (kk)) hne (H48.out) (by simp;omega) _).mono ?_;rintro e w2 ⟨⟨k,n,q,rfl,hq,hk⟩,af⟩;have qd:1≤kk:=by
      exact Ht
     exact Hs
 ·go_wp2_with fail
  go_loopg [5] s.length (fun gg s5 wr=>∃kk:Nat,kk≤s.length∧gg=s.length-kk∧s5=.int .i64 kk∧w1=wr)
  case atStart=>exact⟨0,Nat.zero_le _,by omega,rfl,rfl⟩
  case round=>
   obtain⟨kk,hkk,hgk,rfl,rfl⟩:=hrel;have hE:=gT s 0 kk;have HE:1≤kk∨∃h:kk<s.length,kR s[kk].toNat=true:=by
    by_cases h0:1≤kk
    ·exact .inl h0
    ·obtain rfl:kk=0:=by omega
     have h2:=HC.out;rw[List.getElem?_eq_getElem hpos]at h2;exact .inr ⟨hpos,by rw[Option.some.inj h2];exact hL⟩
   have HE:=aa HE;by_cases hlt:kk<s.length
   ·have hltz:(kk:Int)<(s.length:Int):=by omega
    obtain⟨d,hd⟩:∃d,s[kk]? =some d:=⟨s[kk],by simp⟩;have HDD:=aa hd;have hix:∀(h:kk<(⟨s.toArray⟩:ByteArray).size),(⟨s.toArray⟩:ByteArray)[kk]=d:=fun h=>by
     have h2:=HDD.out;exact uM
    clear hd;go_wp2_with fail;refine(HL.out _ _).mono ?_;rintro e wq ⟨rfl,rfl⟩;cases hL2:kR d.toNat
    ·go_wp2_with fail;refine(HD.out _ _).mono ?_;rintro e wq ⟨rfl,rfl⟩;cases Kl:lF d.toNat
     ·go_wp2_with fail
      ·exact Rz
      ·refine(HW.out _ _).mono ?_;rintro e w2 ⟨rfl,af⟩;generalize decide (s.take kk∈wordsR)=q;have X2:=aa (HX.out.grow af);have B2:=aa (HB.out.trans (af.mono HB.out.size));have mE:1≤kk:=by
        rcases HE.out with h|⟨h,h2⟩
        ·exact h
        ·have h3:=HDD.out;rw[List.getElem?_eq_getElem h]at h3;rw[Option.some.inj h3,hL2]at h2;cases h2
       exact RA
     ·go_wp2_with fail
      go_roundg (gk-1)
      case measure=>omega
      exact⟨kk+1,by omega,by omega,rfl,rfl⟩
    ·go_wp2_with fail
     go_roundg (gk-1)
     case measure=>omega
     exact⟨kk+1,by omega,by omega,rfl,rfl⟩
   ·go_wp2_with fail
    ·exact Rz
    ·refine(HW.out _ _).mono ?_;rintro e w2 ⟨rfl,af⟩;generalize decide (s.take kk∈wordsR)=q;have X2:=aa (HX.out.grow af);have B2:=aa (HB.out.trans (af.mono HB.out.size));have mE:1≤kk:=by
      exact Ht
     exact RA
end Go.Proofs.YtlpombjidhloiaaGreat
namespace Go.Proofs.YtlpombjidhloiaaGreat
open Go.RowKit
set_option maxRecDepth 100000
attribute [local go_sem ↓] Go.wp_at_zero Go.wp_at_succ
attribute [local go_sem] pK qW
theorem uT:ET Tryz.prog 86 177 5 64:=rL (z:=.agg #[.int .u8 0,.complex .f64 0 0,.complex .f64 0 0,.string ⟨#[]⟩,.int .i64 0]) Tryz.underlying86 (by kernel_rfl) rfl (by decide)
abbrev nk:=bA×Nat×Nat
def gV(E:List nk):List Value:=E.flatMap fun t=>(dD t.1 t.2.1 t.2.2).toList
theorem SI:∀(E:List nk) (i j:Nat) (t:nk) (u:Value),E[i]? =some t→(dD t.1 t.2.1 t.2.2)[j]? =some u→(gV E)[i*5+j]? =some u
 |[],i,j,t,u,h,_=>by simp at h
 |x::E,0,j,t,u,h,hu=>by
  simp at h;subst h;have hj:j<5:=by
   rcases Nat.lt_or_ge j 5 with h'|h'
   ·exact h'
   ·rw[Array.getElem?_eq_none (by exact h')]at hu;cases hu
  show((dD x.1 x.2.1 x.2.2).toList++gV E)[0*5+j]? =_;rw[Nat.zero_mul,Nat.zero_add,List.getElem?_append_left (by exact hj)];simpa using hu
 |x::E,i+1,j,t,u,h,hu=>by
  have:=SI E i j t u (by simpa using h) hu;show((dD x.1 x.2.1 x.2.2).toList++gV E)[(i+1)*5+j]? =_;rw[List.getElem?_append_right (by show 5≤_;omega)];have e:(i+1)*5+j-(dD x.1 x.2.1 x.2.2).toList.length=i*5+j:=by show(i+1)*5+j-5=_;omega
  rw[e];exact this
theorem adk{w:World}{B:Nat}{v:Value}{E:List nk}(h:w.ownsRow B 177 5 v E.length (gV E))(hE:E≠[]):RB w v (E.map (·.1)):=by
 rcases h.2 with⟨rfl,h0⟩|⟨g,cap,cur,rfl,hg,hb,hc,_,hs,ht⟩
 ·exact absurd (List.eq_nil_of_length_eq_zero h0) hE
 ·refine⟨g,0,cap,by rw[List.length_map],by rw[List.length_map];exact hc,ld hb,fun i t hi=>?_⟩;rw[List.getElem?_map]at hi;cases he:E[i]? with
  |none=>rw[he]at hi;cases hi
  |some x=>
   rw[he]at hi;cases hi;refine⟨x.2.1,x.2.2,fun j u hu=>?_⟩;have h1:=SI E i j x u he hu;have hbx:Bx g cur 177 w:=hb;rw[Nat.zero_add,hbx.cell];rw[←ht,List.getElem?_take]at h1;split at h1
   ·simpa using h1
   ·cases h1
theorem jA{w w':World}{B:Nat}{e:TypeId}{size:Nat}{v:Value}{n:Nat}{xs:List Value}(h:w.ownsRow B e size v n xs)(hk:∀g,B≤g→g<w.heap.size→w'.heap[g]? =w.heap[g]?):w'.ownsRow B e size v n xs:=by
 obtain⟨h1,h2⟩:=h;refine⟨h1,h2.imp id ?_⟩;rintro⟨g,cap,cur,rfl,hg,hc,h3⟩;exact⟨g,cap,cur,rfl,hg,(hk g hg (ld hc)).trans hc,h3⟩
theorem SJ{w:World}{B:Nat}{e:TypeId}{size:Nat}{v:Value}{n:Nat}{xs:List Value}(h:w.ownsRow B e size v n xs){g:Nat}(hg:v.ownBlock=some g):g<w.heap.size:=by
 exact RM
theorem CI{w w':World}{B:Nat}{e:TypeId}{size:Nat}{v:Value}{n:Nat}{xs:List Value}(h:w.ownsRow B e size v n xs)(hk:∀g,v.ownBlock=some g→w'.heap[g]? =w.heap[g]?):w'.ownsRow B e size v n xs:=by
 exact RK
def adl(n:Nat)(w:World)(e:Ending)(w':World):Prop:=Below w.heap.size w w'∧((∃x y c:_,e=.returned (.tuple #[.slice none 0 0,.complex .f64 x y,.int .i64 c])∧c≠0)∨∃(v:Value) (E:List nk),e=.returned (.tuple #[v,.complex .f64 0 0,.int .i64 0])∧w'.ownsRow w.heap.size 177 5 v E.length (gV E)∧0<E.length∧E.length≤n+1∧∀t∈E,lG t.1)
structure Sc(w:World)(n:Nat)(u:List UInt8)(q:cJ)(E:List nk)(v:Value)(wr:World):Prop where
 below:Below w.heap.size w wr
 place:Bx w.heap.size #[.int .i64 q.1,.int .i64 q.2] 182 wr
 own:wr.ownsRow (w.heap.size+1) 177 5 v E.length (gV E)
 p1:1≤q.1
 p2:1≤q.2
 p3:q.1+q.2+u.length≤n+2
 len:E.length+u.length≤n
 is_:∀t∈E,lG t.1
theorem Iq{l c:Nat}(h1:1≤l)(h2:1≤c)(h3:l≤1000000)(h4:c≤1000000):sI l c=.complex .f64 (fb l) (fb c):=by
 unfold sI;rw[if_pos (Ia (by omega) (by omega) (by omega) (by omega))];rfl
theorem Ir{w1 w9:World}{B:Nat}{cs:Array Value}{v v9:Value}{m k:Nat}{xs qs:List Value}(hA:iB (w1.alloc (.cells cs 177)) w9 B 177 5 v v9 k qs)(ho:w1.ownsRow B 177 5 v m xs)(hB:B≤w1.heap.size):Below B w1 w9:=
 ((dq w1 _).mono hB).trans (iB.below hA (Below.refl _ _) (Nat.le_trans hB (dq w1 _).size) (jA ho (fun g _ hg=>(dq w1 _).block g hg)) (Nat.le_refl _))
theorem SK{w w':World}{B:Nat}{e:TypeId}{size:Nat}{v:Value}{n:Nat}{xs:List Value}(h:w.ownsRow B e size v n xs)(hb:Below w.heap.size w w'):w'.ownsRow B e size v n xs:=jA h (fun g _ hg=>hb.block g hg)
theorem adm{B:Nat}{a b:World}(h:Below B a b):a.heap.size≤b.heap.size:=h.size
theorem adn{w:World}{B:Nat}{e:TypeId}{size:Nat}{v:Value}{n:Nat}{xs:List Value}(h:w.ownsRow (B+1) e size v n xs):w.ownsRow B e size v n xs:=by
 refine⟨h.1,h.2.imp id ?_⟩;rintro⟨g,cap,cur,rfl,hg,h3⟩;exact⟨g,cap,cur,rfl,by omega,h3⟩
theorem ado{E:List nk}{x:nk}(h:∀t∈E,lG t.1)(hx:lG x.1):∀t∈E++[x],lG t.1:=fun t ht=>by
 rcases List.mem_append.1 ht with h1|h1
 ·exact h t h1
 ·rw[List.mem_singleton.1 h1];exact hx
theorem sJ{w:World}{n:Nat}{u:List UInt8}{q:cJ}{E:List nk}{v:Value}{wr wo:World}(hB:Below w.heap.size w wr)(hO:wr.ownsRow (w.heap.size+1) 177 5 v E.length (gV E))(hb:Below wr.drew.heap.size wr.drew wo)(hP:Bx w.heap.size #[.int .i64 (q.1:Int),.int .i64 (q.2:Int)] 182 ((wo.setCell ⟨w.heap.size,0,none⟩ (.int .i64 (q.1:Int))).setCell ⟨w.heap.size,1,none⟩ (.int .i64 (q.2:Int))))(p1:1≤q.1)(p2:1≤q.2)(p3:q.1+q.2+u.length≤n+2)(hl:E.length+u.length≤n)(his:∀t∈E,lG t.1):
 Sc w n u q E v ((wo.setCell ⟨w.heap.size,0,none⟩ (.int .i64 (q.1:Int))).setCell ⟨w.heap.size,1,none⟩ (.int .i64 (q.2:Int))):=by
 have hB2:=hB.trans ((show Below wr.heap.size wr wo from⟨hb.os,hb.tape,hb.output,hb.size,hb.block⟩).mono hB.size);refine⟨(hB2.setCell (Nat.le_refl _) _).setCell (Nat.le_refl _) _,hP,jA hO (fun g hg hlt=>?_),p1,p2,p3,hl,his⟩;rw[Below.heap_setCell _ _ _ g (by show g≠w.heap.size;omega),Below.heap_setCell _ _ _ g (by show g≠w.heap.size;omega)];exact hb.block g hlt
set_option maxHeartbeats 8000000 in
theorem adp(s:List UInt8)(hn:s.length≤16384)(w:World):Calls Tryz.prog 58 #[.string ⟨s.toArray⟩] w (adl s.length w):=by
 have HO:=aa acr;have HC:=aa acn;have HPS:=aa acF;have HBH:=aa acI;go_enter Tryz.func58,Tryz.ntmps58;go_wp2_with fail;generalize az:w.alloc _=w1;obtain⟨ae,x1,aE⟩:=made az;have HR:=aa (show Sc w s.length s (1,1) [] (.slice none 0 0) w1 from⟨ae,x1,World.ownsRow_nil _ _ _ _,Nat.le_refl _,Nat.le_refl _,by show 1+1+s.length≤_;omega,by simp,by simp⟩);clear az ae x1 aE
 go_loopg [0,6] s.length (fun gg s0 s6 wr=>∃u q E,s0=.string ⟨(u:List UInt8).toArray⟩∧gg=u.length∧Sc w s.length u q E s6 wr)
 case atStart=>exact⟨s,(1,1),[],rfl,rfl,HR.out⟩
 case round=>
  clear HR;obtain⟨u,q,E,rfl,hgk,hsc⟩:=hrel;obtain⟨ql,qc⟩:=q;have HS:=aa hsc;have hp1:=hsc.p1;have hp2:=hsc.p2;have hp3:=hsc.p3;have hle:=hsc.len;simp only at hp1 hp2 hp3;obtain⟨A,c,rfl⟩:=jG hsc.own;have z0:=hsc.place.cell 0;have z1:=hsc.place.cell 1;have f0:=hsc.place.frozen 0;have f1:=hsc.place.frozen 1;have hl:=hsc.place.lt;have HPV:=aa (Iq (l:=ql) (c:=qc) hp1 hp2 (by omega) (by omega));clear hsc;by_cases hu:u=[]
  ·subst hu;go_wp2_with fail;have PD:Bx w.heap.size #[.int .i64 (ql:Int),.int .i64 (qc:Int)] 182 wr.drew:=HS.out.place;have OD:wr.drew.ownsRow (w.heap.size+1) 177 5 (.slice A E.length c) E.length (gV E):=jA HS.out.own (fun g _ _=>rfl);have BD:Below w.heap.size w wr.drew:=lH HS.out.below;have v0:wr.drew.cell? ⟨w.heap.size,0,none⟩=some (.int .i64 (ql:Int)):=PD.cell 0;have v1:wr.drew.cell? ⟨w.heap.size,1,none⟩=some (.int .i64 (qc:Int)):=PD.cell 1;have e0:wr.cell? ⟨w.heap.size,0,none⟩=some (.int .i64 (ql:Int)):=v0;have e1:wr.cell? ⟨w.heap.size,1,none⟩=some (.int .i64 (qc:Int)):=v1;have vl:=PD.lt;have aj2:E.length≤16384:=by omega
   clear z0 z1 f0 f1;go_region_held3 (fun w'=>w'.cell? ⟨w.heap.size,0,none⟩=some (.int .i64 (ql:Int))∧w'.cell? ⟨w.heap.size,1,none⟩=some (.int .i64 (qc:Int))) (go_keep) (first
    |(go_at_call 91
      refine(HPS.out _ _ _).mono ?_;rintro e wp ⟨rfl,hbp⟩;rw[HPV.out];have PX:Bx w.heap.size #[.int .i64 (ql:Int),.int .i64 (qc:Int)] 182 wp:=Bx.grow (by assumption) hbp;have OX:wp.ownsRow (w.heap.size+1) 177 5 (.slice A E.length c) E.length (gV E):=SK (by assumption) hbp;have BX:Below w.heap.size w wp:=Below.trans (by assumption) (hbp.mono (Nat.le_trans (adm (by assumption)) (Nat.le_refl _)));have s0:wp.cell? ⟨w.heap.size,0,none⟩=some (.int .i64 (ql:Int)):=PX.cell 0;have s1:wp.cell? ⟨w.heap.size,1,none⟩=some (.int .i64 (qc:Int)):=PX.cell 1;have sl:=PX.lt)
    |(refine zc uT (by rfl) _ _ (by rfl) (w.heap.size+1) _ E.length (gV E) (by rfl) (SK (by assumption) (dq _ _)) _ 1 (dD ⟨0,(ql,qc),[],0⟩ (fb ql) (fb qc)).toList (by rfl) (qi uT _ (dD ⟨0,(ql,qc),[],0⟩ (fb ql) (fb qc)) _ 1 1 rfl (by simp[dD,jM,Value.oneCell'])) (by omega) (by unfold maxLen;omega) (by simp;omega) ?_
      intro v9 w9 cf;obtain⟨A9,c9,rfl⟩:=jG cf.own;have b79:=Ir cf (by assumption) (by omega);have B9:Below w.heap.size w w9:=Below.trans (by assumption) (b79.mono (Nat.le_succ _));have s0:w9.cell? ⟨w.heap.size,0,none⟩=some (.int .i64 (ql:Int)):=(b79.cell (p:=⟨w.heap.size,0,none⟩) (Nat.lt_succ_self _)).trans (by assumption);have s1:w9.cell? ⟨w.heap.size,1,none⟩=some (.int .i64 (qc:Int)):=(b79.cell (p:=⟨w.heap.size,1,none⟩) (Nat.lt_succ_self _)).trans (by assumption)))
   all_goals go_wp2_with fail
   all_goals go_ret3
   all_goals exact⟨B9,.inr ⟨_,E++[((⟨0,(ql,qc),[],0⟩:bA),fb ql,fb qc)],rfl,adn (by simpa[gV]using cf.own),by simp,by simp;omega,fun t jD=>ado HS.out.is_ ⟨⟨by intro h;have:=congrArg Prod.fst h;simp at this;omega,by show ql≤20000;omega,by show qc≤20000;omega⟩,fun h=>absurd (show(0:Int)=2 from h) (by decide)⟩ t jD⟩⟩
  ·have hub:(u==[])=false:=beq_eq_false_iff_ne.2 hu;have hpos:=List.length_pos_iff.2 hu;obtain⟨c0,fJ⟩:∃c,u[0]? =some c:=⟨u[0],by simp⟩;have HC0:=aa fJ;have agT:∀(h:0<(⟨u.toArray⟩:ByteArray).size),(⟨u.toArray⟩:ByteArray)[0]=c0:=fun h=>by
    have h2:=HC0.out;rw[List.getElem?_eq_getElem hpos]at h2;exact Option.some.inj h2
   clear fJ;go_upto_region 20 with(fail)
   ·have vE:1≤1:=by omega
    have DU:1≤u.length:=by omega
    have vF:=gT u 0 1;have vG:(⟨u.toArray⟩:ByteArray).extract 1 u.length=⟨(u.drop 1).toArray⟩:=by rw[gT,List.take_of_length_le (by simp)]
    have PD:=aa (show Bx w.heap.size #[.int .i64 (ql:Int),.int .i64 (qc:Int)] 182 wr.drew from HS.out.place);refine og 4 (by kernel_rfl) (by kernel_rfl) ?_;have v0:wr.drew.cell? ⟨w.heap.size,0,none⟩=some (.int .i64 (ql:Int)):=PD.out.cell 0;have v1:wr.drew.cell? ⟨w.heap.size,1,none⟩=some (.int .i64 (qc:Int)):=PD.out.cell 1;have vl:=PD.out.lt;have hz:((1:Nat):Int)≤(u.length:Int):=by omega
    have ga:(1:Int)≤(u.length:Int):=by omega
    simp only[List.take_succ_cons,List.take_zero,List.drop_succ_cons,List.drop_zero];repeat still_step
    refine wpStill_nil ?_;go_wp2_with fail;refine(HBH.out (ql,qc) (u.take 1) _ hp1 hp2 (by simp;omega)).mono ?_;rintro e wo ⟨rfl,hbo⟩;have PO:=aa (PD.out.grow hbo);have hbb:=nj (u.take 1) (ql,qc) hp1 hp2;generalize ek (ql,qc) (u.take 1)=q2 at *;obtain⟨l2,c2⟩:=q2;obtain⟨b1,b2,b3⟩:=hbb;have y0:=PO.out.cell 0;have y1:=PO.out.cell 1;have y2:=PO.out.frozen 0;have y3:=PO.out.frozen 1;have yl:=PO.out.lt;have hlt:=List.length_take_le 1 u;go_wp2_with fail
    go_roundg (u.length-1)
    case measure=>omega
    exact⟨u.drop 1,(l2,c2),E,by simp,by simp,sJ HS.out.below HS.out.own hbo ((PO.out.set 0 _).set 1 _) b1 b2 (by simp at b3 ⊢;omega) (by simp;omega) HS.out.is_⟩
   ·have vE:1≤1:=by omega
    have DU:1≤u.length:=by omega
    have vF:=gT u 0 1;have vG:(⟨u.toArray⟩:ByteArray).extract 1 u.length=⟨(u.drop 1).toArray⟩:=by rw[gT,List.take_of_length_le (by simp)]
    have PD:=aa (show Bx w.heap.size #[.int .i64 (ql:Int),.int .i64 (qc:Int)] 182 wr.drew from HS.out.place);refine og 4 (by kernel_rfl) (by kernel_rfl) ?_;have v0:wr.drew.cell? ⟨w.heap.size,0,none⟩=some (.int .i64 (ql:Int)):=PD.out.cell 0;have v1:wr.drew.cell? ⟨w.heap.size,1,none⟩=some (.int .i64 (qc:Int)):=PD.out.cell 1;have vl:=PD.out.lt;have hz:((1:Nat):Int)≤(u.length:Int):=by omega
    have ga:(1:Int)≤(u.length:Int):=by omega
    simp only[List.take_succ_cons,List.take_zero,List.drop_succ_cons,List.drop_zero];repeat still_step
    refine wpStill_nil ?_;go_wp2_with fail;refine(HBH.out (ql,qc) (u.take 1) _ hp1 hp2 (by simp;omega)).mono ?_;rintro e wo ⟨rfl,hbo⟩;have PO:=aa (PD.out.grow hbo);have hbb:=nj (u.take 1) (ql,qc) hp1 hp2;generalize ek (ql,qc) (u.take 1)=q2 at *;obtain⟨l2,c2⟩:=q2;obtain⟨b1,b2,b3⟩:=hbb;have y0:=PO.out.cell 0;have y1:=PO.out.cell 1;have y2:=PO.out.frozen 0;have y3:=PO.out.frozen 1;have yl:=PO.out.lt;have hlt:=List.length_take_le 1 u;go_wp2_with fail
    go_roundg (u.length-1)
    case measure=>omega
    exact⟨u.drop 1,(l2,c2),E,by simp,by simp,sJ HS.out.below HS.out.own hbo ((PO.out.set 0 _).set 1 _) b1 b2 (by simp at b3 ⊢;omega) (by simp;omega) HS.out.is_⟩
   ·have vE:1≤1:=by omega
    have DU:1≤u.length:=by omega
    have vF:=gT u 0 1;have vG:(⟨u.toArray⟩:ByteArray).extract 1 u.length=⟨(u.drop 1).toArray⟩:=by rw[gT,List.take_of_length_le (by simp)]
    have PD:=aa (show Bx w.heap.size #[.int .i64 (ql:Int),.int .i64 (qc:Int)] 182 wr.drew from HS.out.place);refine og 4 (by kernel_rfl) (by kernel_rfl) ?_;have v0:wr.drew.cell? ⟨w.heap.size,0,none⟩=some (.int .i64 (ql:Int)):=PD.out.cell 0;have v1:wr.drew.cell? ⟨w.heap.size,1,none⟩=some (.int .i64 (qc:Int)):=PD.out.cell 1;have vl:=PD.out.lt;have hz:((1:Nat):Int)≤(u.length:Int):=by omega
    have ga:(1:Int)≤(u.length:Int):=by omega
    simp only[List.take_succ_cons,List.take_zero,List.drop_succ_cons,List.drop_zero];repeat still_step
    refine wpStill_nil ?_;go_wp2_with fail;refine(HBH.out (ql,qc) (u.take 1) _ hp1 hp2 (by simp;omega)).mono ?_;rintro e wo ⟨rfl,hbo⟩;have PO:=aa (PD.out.grow hbo);have hbb:=nj (u.take 1) (ql,qc) hp1 hp2;generalize ek (ql,qc) (u.take 1)=q2 at *;obtain⟨l2,c2⟩:=q2;obtain⟨b1,b2,b3⟩:=hbb;have y0:=PO.out.cell 0;have y1:=PO.out.cell 1;have y2:=PO.out.frozen 0;have y3:=PO.out.frozen 1;have yl:=PO.out.lt;have hlt:=List.length_take_le 1 u;go_wp2_with fail
    go_roundg (u.length-1)
    case measure=>omega
    exact⟨u.drop 1,(l2,c2),E,by simp,by simp,sJ HS.out.below HS.out.own hbo ((PO.out.set 0 _).set 1 _) b1 b2 (by simp at b3 ⊢;omega) (by simp;omega) HS.out.is_⟩
   ·have vE:1≤1:=by omega
    have DU:1≤u.length:=by omega
    have vF:=gT u 0 1;have vG:(⟨u.toArray⟩:ByteArray).extract 1 u.length=⟨(u.drop 1).toArray⟩:=by rw[gT,List.take_of_length_le (by simp)]
    have PD:=aa (show Bx w.heap.size #[.int .i64 (ql:Int),.int .i64 (qc:Int)] 182 wr.drew from HS.out.place);refine og 4 (by kernel_rfl) (by kernel_rfl) ?_;have v0:wr.drew.cell? ⟨w.heap.size,0,none⟩=some (.int .i64 (ql:Int)):=PD.out.cell 0;have v1:wr.drew.cell? ⟨w.heap.size,1,none⟩=some (.int .i64 (qc:Int)):=PD.out.cell 1;have vl:=PD.out.lt;have hz:((1:Nat):Int)≤(u.length:Int):=by omega
    have ga:(1:Int)≤(u.length:Int):=by omega
    simp only[List.take_succ_cons,List.take_zero,List.drop_succ_cons,List.drop_zero];repeat still_step
    refine wpStill_nil ?_;go_wp2_with fail;refine(HBH.out (ql,qc) (u.take 1) _ hp1 hp2 (by simp;omega)).mono ?_;rintro e wo ⟨rfl,hbo⟩;have PO:=aa (PD.out.grow hbo);have hbb:=nj (u.take 1) (ql,qc) hp1 hp2;generalize ek (ql,qc) (u.take 1)=q2 at *;obtain⟨l2,c2⟩:=q2;obtain⟨b1,b2,b3⟩:=hbb;have y0:=PO.out.cell 0;have y1:=PO.out.cell 1;have y2:=PO.out.frozen 0;have y3:=PO.out.frozen 1;have yl:=PO.out.lt;have hlt:=List.length_take_le 1 u;go_wp2_with fail
    go_roundg (u.length-1)
    case measure=>omega
    exact⟨u.drop 1,(l2,c2),E,by simp,by simp,sJ HS.out.below HS.out.own hbo ((PO.out.set 0 _).set 1 _) b1 b2 (by simp at b3 ⊢;omega) (by simp;omega) HS.out.is_⟩
   ·refine(HC.out u (by omega) _).mono ?_;rintro e wn ⟨⟨k,hk,rfl⟩,hbn⟩;have NB:=aa (HS.out.below.trans (hbn.mono HS.out.below.size));have NP:=aa (HS.out.place.grow hbn);have NO:=aa (jA HS.out.own (fun g _ hg=>hbn.block g hg));have n0:=NP.out.cell 0;have n1:=NP.out.cell 1;have nl:=NP.out.lt;clear hbn z0 z1 f0 f1 hl;by_cases kX:k=0
    ·subst kX;go_wp2_with fail;refine(HPS.out _ _ _).mono ?_;rintro e wp ⟨rfl,hbp⟩;rw[HPV.out];go_wp2_with fail
     go_ret3
     exact⟨NB.out.trans (hbp.mono NB.out.size),.inl ⟨_,_,_,rfl,by decide⟩⟩
    ·have hk0z:((k:Int)==0)=false:=beq_eq_false_iff_ne.2 (by omega);go_upto_region 20 with(fail);have vE:1≤k:=by omega
     have DU:k≤u.length:=by omega
     have vF:=gT u 0 k;have vG:(⟨u.toArray⟩:ByteArray).extract k u.length=⟨(u.drop k).toArray⟩:=by rw[gT,List.take_of_length_le (by simp)]
     have PD:=aa (show Bx w.heap.size #[.int .i64 (ql:Int),.int .i64 (qc:Int)] 182 wn.drew from NP.out);refine og 4 (by kernel_rfl) (by kernel_rfl) ?_;have v0:wn.drew.cell? ⟨w.heap.size,0,none⟩=some (.int .i64 (ql:Int)):=PD.out.cell 0;have v1:wn.drew.cell? ⟨w.heap.size,1,none⟩=some (.int .i64 (qc:Int)):=PD.out.cell 1;have vl:=PD.out.lt;have hz:((k:Nat):Int)≤(u.length:Int):=by omega
     have ga:(1:Int)≤(u.length:Int):=by omega
     simp only[List.take_succ_cons,List.take_zero,List.drop_succ_cons,List.drop_zero];repeat still_step
     refine wpStill_nil ?_;go_wp2_with fail;refine(HBH.out (ql,qc) (u.take k) _ hp1 hp2 (by simp;omega)).mono ?_;rintro e wo ⟨rfl,hbo⟩;have PO:=aa (PD.out.grow hbo);have hbb:=nj (u.take k) (ql,qc) hp1 hp2;generalize ek (ql,qc) (u.take k)=q2 at *;obtain⟨l2,c2⟩:=q2;obtain⟨b1,b2,b3⟩:=hbb;have y0:=PO.out.cell 0;have y1:=PO.out.cell 1;have y2:=PO.out.frozen 0;have y3:=PO.out.frozen 1;have yl:=PO.out.lt;have hlt:=List.length_take_le k u;go_wp2_with fail
     go_roundg (u.length-k)
     case measure=>omega
     exact⟨u.drop k,(l2,c2),E,by simp,by simp,sJ NB.out NO.out hbo ((PO.out.set 0 _).set 1 _) b1 b2 (by simp at b3 ⊢;omega) (by simp;omega) HS.out.is_⟩
   ·refine(HO.out u hu (by omega) _).mono ?_;rintro e wn ⟨⟨kk,tx,n,m,cE,rfl,hok⟩,hbn⟩;have NB:=aa (HS.out.below.trans (hbn.mono HS.out.below.size));have NP:=aa (HS.out.place.grow hbn);have NO:=aa (jA HS.out.own (fun g _ hg=>hbn.block g hg));have HOK:=aa hok;clear hbn z0 z1 f0 f1 hl hok;go_upto_region 8 with(fail);generalize aU:wn.alloc _=w2;obtain⟨af,x2,bu⟩:=made aU;have B2:=aa (NB.out.trans (af.mono NB.out.size));have P2:=aa (NP.out.grow af);have O2:=aa (jA NO.out (fun g _ hg=>af.block g hg));have X2:=aa x2;have hOF:=aa (fun g hg=>SJ (g:=g) NO.out hg);have htb:=NP.out.lt;have htp:wn.heap.size≠w.heap.size:=by omega
    have n0:=P2.out.cell 0;have n1:=P2.out.cell 1;have nl:=P2.out.lt;clear aU af x2 NB NP NO;by_cases fJ:cE=0;case neg=>
     have hcb:(cE != 0)=true:=bne_iff_ne.2 fJ;go_wp2_with fail;refine(HPS.out _ _ _).mono ?_;rintro e wp ⟨rfl,hbp⟩;rw[HPV.out];go_wp2_with fail
     go_ret3
     exact⟨B2.out.trans (hbp.mono B2.out.size),.inl ⟨_,_,_,rfl,fJ⟩⟩
    obtain⟨qd,gI,hkn⟩:=HOK.out fJ;subst fJ;have HKN:=aa hkn;clear HOK hkn;go_wp2_with fail;refine(HPS.out _ _ _).mono ?_;rintro e w3 ⟨rfl,ad⟩;rw[HPV.out];have B3:=aa (B2.out.trans (ad.mono B2.out.size));have P3:=aa (P2.out.grow ad);have O3:=aa (jA O2.out (fun g _ hg=>ad.block g hg));have X3:=aa (X2.out.grow ad);have eM:=X3.out.lt;generalize wn.heap.size=tb at *;have x1:=X3.out.cell 1;have g1:=X3.out.frozen 1;clear ad B2 P2 O2 X2 n0 n1 nl bu;go_upto_region 12 with(fail);generalize ab:w3.setCell _ _=w4;have X4:=aa (show Bx tb #[.int .u8 kk,.complex .f64 (fb ql) (fb qc),.complex .f64 0 0,.string ⟨tx.toArray⟩,.int .i64 n] 177 w4 by rw[←ab];exact X3.out.set 1 _);have B4:=aa (show Below w.heap.size w w4 by rw[←ab];exact B3.out.setCell (by show w.heap.size≤tb;omega) _);have P4:=aa (show Bx w.heap.size #[.int .i64 (ql:Int),.int .i64 (qc:Int)] 182 w4 by rw[←ab];exact P3.out.far (a:=⟨tb,1,none⟩) (Ne.symm htp) _);have O4:=aa (show w4.ownsRow (w.heap.size+1) 177 5 (.slice A E.length c) E.length (gV E)by rw[←ab];exact CI O3.out (fun g hg=>Below.heap_setCell w3 _ _ g (by have:=hOF.out g hg;show g≠tb;omega)));clear ab X3 B3 P3 O3 x1 g1 eM;have vE:1≤m:=qd;have vF:=gT u 0 m;have PD:=aa (show Bx w.heap.size #[.int .i64 (ql:Int),.int .i64 (qc:Int)] 182 w4.drew from P4.out);have XD:=aa (show Bx tb _ 177 w4.drew from X4.out);have BD:=aa (lH B4.out);have OD:=aa (jA (w':=w4.drew) O4.out (fun g _ _=>rfl));refine og 4 (by kernel_rfl) (by kernel_rfl) ?_;have v0:w4.drew.cell? ⟨w.heap.size,0,none⟩=some (.int .i64 (ql:Int)):=PD.out.cell 0;have v1:w4.drew.cell? ⟨w.heap.size,1,none⟩=some (.int .i64 (qc:Int)):=PD.out.cell 1;have vl:=PD.out.lt;have hz:(m:Int)≤(u.length:Int):=by omega
    simp only[List.take_succ_cons,List.take_zero,List.drop_succ_cons,List.drop_zero];repeat still_step
    refine wpStill_nil ?_;go_wp2_with fail;refine(HBH.out (ql,qc) (u.take m) _ hp1 hp2 (by simp;omega)).mono ?_;rintro e w5 ⟨rfl,au⟩;have hbb:=nj (u.take m) (ql,qc) hp1 hp2;generalize ek (ql,qc) (u.take m)=q2 at hbb ⊢;obtain⟨l2,c2⟩:=q2;obtain⟨b1,b2,b3⟩:=hbb;have hlt:=List.length_take_le m u;have HPW:=aa (Iq (l:=l2) (c:=c2) b1 b2 (by simp at b1 b2 b3;omega) (by simp at b1 b2 b3;omega));go_wp2_with fail;refine(HPS.out _ _ _).mono ?_;rintro e w6 ⟨rfl,aD⟩;rw[HPW.out];have hG:=au.trans (aD.mono au.size);have X6:=aa (XD.out.grow hG);have P6:=aa (PD.out.grow hG);have B6:=aa (BD.out.trans (hG.mono BD.out.size));have O6:=aa (jA OD.out (fun g _ hg=>hG.block g hg));have x0:=X6.out.cell 0;have x1:=X6.out.cell 1;have x2:=X6.out.cell 2;have x3:=X6.out.cell 3;have x4:=X6.out.cell 4;have g2:=X6.out.frozen 2;have xl:=X6.out.lt;clear au aD hG v0 v1 vl PD XD BD OD X4 B4 P4 O4 b3;go_upto_region 13 with(fail);generalize fI:w6.setCell _ _=w7;have X7:=aa (show Bx tb (dD ⟨kk,(ql,qc),tx,n⟩ (fb l2) (fb c2)) 177 w7 by rw[←fI];exact X6.out.set 2 _);have B7:=aa (show Below w.heap.size w w7 by rw[←fI];exact B6.out.setCell (by show w.heap.size≤tb;omega) _);have P7:=aa (show Bx w.heap.size #[.int .i64 (ql:Int),.int .i64 (qc:Int)] 182 w7 by rw[←fI];exact P6.out.far (a:=⟨tb,2,none⟩) (Ne.symm htp) _);have O7:=aa (show w7.ownsRow (w.heap.size+1) 177 5 (.slice A E.length c) E.length (gV E)by rw[←fI];exact CI O6.out (fun g hg=>Below.heap_setCell w6 _ _ g (by have:=hOF.out g hg;show g≠tb;omega)));have hB7:=P7.out.lt;clear fI X6 P6 B6 O6 x0 x1 x2 x3 x4 g2 xl;have x0:w7.cell? ⟨tb,0,none⟩=some (.int .u8 kk):=X7.out.cell 0;have x1:w7.cell? ⟨tb,1,none⟩=some (.complex .f64 (fb ql) (fb qc)):=X7.out.cell 1;have x2:w7.cell? ⟨tb,2,none⟩=some (.complex .f64 (fb l2) (fb c2)):=X7.out.cell 2;have x3:w7.cell? ⟨tb,3,none⟩=some (.string ⟨tx.toArray⟩):=X7.out.cell 3;have x4:w7.cell? ⟨tb,4,none⟩=some (.int .i64 n):=X7.out.cell 4;have xl:=X7.out.lt;have ht:=aa (show lG ⟨kk,(ql,qc),tx,n⟩from⟨⟨by intro h;have:=congrArg Prod.fst h;simp at this;omega,by show ql≤20000;omega,by show qc≤20000;omega⟩,HKN.out⟩);go_upto_region 20 with(at_builtin;refine jg uT rfl _ _ rfl (w.heap.size+1) _ E.length (gV E) rfl (jA O7.out (fun g _ hg=>(dq _ _).block g hg)) _ 1 (dD ⟨kk,(ql,qc),tx,n⟩ (fb l2) (fb c2)).toList rfl (qi uT w7 (dD ⟨kk,(ql,qc),tx,n⟩ (fb l2) (fb c2)) _ 1 1 rfl (by simp[dD,jM,Value.oneCell'])) (by omega) (by unfold maxLen;omega) (by simp;omega) ?_;intro v9 w9 cf;obtain⟨A9,c9,rfl⟩:=jG cf.own);have iA:=Ir cf O7.out (by omega);have B9:=aa (B7.out.trans (iA.mono (Nat.le_succ _)));have P9:=aa (show Bx w.heap.size #[.int .i64 (ql:Int),.int .i64 (qc:Int)] 182 w9 from(iA.block _ (Nat.lt_succ_self _)).trans P7.out);have O9:=aa (show w9.ownsRow (w.heap.size+1) 177 5 (.slice A9 (E.length+1) c9) (E++[((⟨kk,(ql,qc),tx,n⟩:bA),fb l2,fb c2)]).length (gV (E++[((⟨kk,(ql,qc),tx,n⟩:bA),fb l2,fb c2)]))by simpa[gV]using cf.own);have I9:=aa (fun(t:nk) (jD:t∈E++[((⟨kk,(ql,qc),tx,n⟩:bA),fb l2,fb c2)])=>show lG t.1 by
     rcases List.mem_append.1 jD with h|h
     ·exact HS.out.is_ t h
     ·rw[List.mem_singleton.1 h];exact ht.out)
    clear iA cf P7 O7 B7 X7 x0 x1 x2 x3 x4 xl;have PD:=aa (show Bx w.heap.size #[.int .i64 (ql:Int),.int .i64 (qc:Int)] 182 w9.drew from P9.out);have vG:(⟨u.toArray⟩:ByteArray).extract m u.length=⟨(u.drop m).toArray⟩:=by rw[gT,List.take_of_length_le (by simp)]
    refine og 4 (by kernel_rfl) (by kernel_rfl) ?_;have v0:w9.drew.cell? ⟨w.heap.size,0,none⟩=some (.int .i64 (ql:Int)):=PD.out.cell 0;have v1:w9.drew.cell? ⟨w.heap.size,1,none⟩=some (.int .i64 (qc:Int)):=PD.out.cell 1;have vl:=PD.out.lt;simp only[List.take_succ_cons,List.take_zero,List.drop_succ_cons,List.drop_zero];repeat still_step
    refine wpStill_nil ?_;go_wp2_with fail;refine(HBH.out (ql,qc) (u.take m) _ hp1 hp2 (by simp;omega)).mono ?_;rintro e wo ⟨rfl,hbo⟩;have PO:=aa (PD.out.grow hbo);have hbb:=nj (u.take m) (ql,qc) hp1 hp2;generalize ek (ql,qc) (u.take m)=q3 at hbb ⊢;obtain⟨l3,c3⟩:=q3;obtain⟨d1,d2,d3⟩:=hbb;have y0:=PO.out.cell 0;have y1:=PO.out.cell 1;have y2:=PO.out.frozen 0;have y3:=PO.out.frozen 1;have yl:=PO.out.lt;have tf:=List.length_take_le m u;go_wp2_with fail
    go_roundg (u.length-m)
    case measure=>omega
    exact⟨u.drop m,(l3,c3),_,by simp,by simp,sJ B9.out O9.out hbo ((PO.out.set 0 _).set 1 _) d1 d2 (by simp at d3 ⊢;omega) (by simp;omega) I9.out⟩
   ·refine(HO.out u hu (by omega) _).mono ?_;rintro e wn ⟨⟨kk,tx,n,m,cE,rfl,hok⟩,hbn⟩;have NB:=aa (HS.out.below.trans (hbn.mono HS.out.below.size));have NP:=aa (HS.out.place.grow hbn);have NO:=aa (jA HS.out.own (fun g _ hg=>hbn.block g hg));have HOK:=aa hok;clear hbn z0 z1 f0 f1 hl hok;go_upto_region 8 with(fail);generalize aU:wn.alloc _=w2;obtain⟨af,x2,bu⟩:=made aU;have B2:=aa (NB.out.trans (af.mono NB.out.size));have P2:=aa (NP.out.grow af);have O2:=aa (jA NO.out (fun g _ hg=>af.block g hg));have X2:=aa x2;have hOF:=aa (fun g hg=>SJ (g:=g) NO.out hg);have htb:=NP.out.lt;have htp:wn.heap.size≠w.heap.size:=by omega
    have n0:=P2.out.cell 0;have n1:=P2.out.cell 1;have nl:=P2.out.lt;clear aU af x2 NB NP NO;by_cases fJ:cE=0;case neg=>
     have hcb:(cE != 0)=true:=bne_iff_ne.2 fJ;go_wp2_with fail;refine(HPS.out _ _ _).mono ?_;rintro e wp ⟨rfl,hbp⟩;rw[HPV.out];go_wp2_with fail
     go_ret3
     exact⟨B2.out.trans (hbp.mono B2.out.size),.inl ⟨_,_,_,rfl,fJ⟩⟩
    obtain⟨qd,gI,hkn⟩:=HOK.out fJ;subst fJ;have HKN:=aa hkn;clear HOK hkn;go_wp2_with fail;refine(HPS.out _ _ _).mono ?_;rintro e w3 ⟨rfl,ad⟩;rw[HPV.out];have B3:=aa (B2.out.trans (ad.mono B2.out.size));have P3:=aa (P2.out.grow ad);have O3:=aa (jA O2.out (fun g _ hg=>ad.block g hg));have X3:=aa (X2.out.grow ad);have eM:=X3.out.lt;generalize wn.heap.size=tb at *;have x1:=X3.out.cell 1;have g1:=X3.out.frozen 1;clear ad B2 P2 O2 X2 n0 n1 nl bu;go_upto_region 12 with(fail);generalize ab:w3.setCell _ _=w4;have X4:=aa (show Bx tb #[.int .u8 kk,.complex .f64 (fb ql) (fb qc),.complex .f64 0 0,.string ⟨tx.toArray⟩,.int .i64 n] 177 w4 by rw[←ab];exact X3.out.set 1 _);have B4:=aa (show Below w.heap.size w w4 by rw[←ab];exact B3.out.setCell (by show w.heap.size≤tb;omega) _);have P4:=aa (show Bx w.heap.size #[.int .i64 (ql:Int),.int .i64 (qc:Int)] 182 w4 by rw[←ab];exact P3.out.far (a:=⟨tb,1,none⟩) (Ne.symm htp) _);have O4:=aa (show w4.ownsRow (w.heap.size+1) 177 5 (.slice A E.length c) E.length (gV E)by rw[←ab];exact CI O3.out (fun g hg=>Below.heap_setCell w3 _ _ g (by have:=hOF.out g hg;show g≠tb;omega)));clear ab X3 B3 P3 O3 x1 g1 eM;have vE:1≤m:=qd;have vF:=gT u 0 m;have PD:=aa (show Bx w.heap.size #[.int .i64 (ql:Int),.int .i64 (qc:Int)] 182 w4.drew from P4.out);have XD:=aa (show Bx tb _ 177 w4.drew from X4.out);have BD:=aa (lH B4.out);have OD:=aa (jA (w':=w4.drew) O4.out (fun g _ _=>rfl));refine og 4 (by kernel_rfl) (by kernel_rfl) ?_;have v0:w4.drew.cell? ⟨w.heap.size,0,none⟩=some (.int .i64 (ql:Int)):=PD.out.cell 0;have v1:w4.drew.cell? ⟨w.heap.size,1,none⟩=some (.int .i64 (qc:Int)):=PD.out.cell 1;have vl:=PD.out.lt;have hz:(m:Int)≤(u.length:Int):=by omega
    simp only[List.take_succ_cons,List.take_zero,List.drop_succ_cons,List.drop_zero];repeat still_step
    refine wpStill_nil ?_;go_wp2_with fail;refine(HBH.out (ql,qc) (u.take m) _ hp1 hp2 (by simp;omega)).mono ?_;rintro e w5 ⟨rfl,au⟩;have hbb:=nj (u.take m) (ql,qc) hp1 hp2;generalize ek (ql,qc) (u.take m)=q2 at hbb ⊢;obtain⟨l2,c2⟩:=q2;obtain⟨b1,b2,b3⟩:=hbb;have hlt:=List.length_take_le m u;have HPW:=aa (Iq (l:=l2) (c:=c2) b1 b2 (by simp at b1 b2 b3;omega) (by simp at b1 b2 b3;omega));go_wp2_with fail;refine(HPS.out _ _ _).mono ?_;rintro e w6 ⟨rfl,aD⟩;rw[HPW.out];have hG:=au.trans (aD.mono au.size);have X6:=aa (XD.out.grow hG);have P6:=aa (PD.out.grow hG);have B6:=aa (BD.out.trans (hG.mono BD.out.size));have O6:=aa (jA OD.out (fun g _ hg=>hG.block g hg));have x0:=X6.out.cell 0;have x1:=X6.out.cell 1;have x2:=X6.out.cell 2;have x3:=X6.out.cell 3;have x4:=X6.out.cell 4;have g2:=X6.out.frozen 2;have xl:=X6.out.lt;clear au aD hG v0 v1 vl PD XD BD OD X4 B4 P4 O4 b3;go_upto_region 13 with(fail);generalize fI:w6.setCell _ _=w7;have X7:=aa (show Bx tb (dD ⟨kk,(ql,qc),tx,n⟩ (fb l2) (fb c2)) 177 w7 by rw[←fI];exact X6.out.set 2 _);have B7:=aa (show Below w.heap.size w w7 by rw[←fI];exact B6.out.setCell (by show w.heap.size≤tb;omega) _);have P7:=aa (show Bx w.heap.size #[.int .i64 (ql:Int),.int .i64 (qc:Int)] 182 w7 by rw[←fI];exact P6.out.far (a:=⟨tb,2,none⟩) (Ne.symm htp) _);have O7:=aa (show w7.ownsRow (w.heap.size+1) 177 5 (.slice A E.length c) E.length (gV E)by rw[←fI];exact CI O6.out (fun g hg=>Below.heap_setCell w6 _ _ g (by have:=hOF.out g hg;show g≠tb;omega)));have hB7:=P7.out.lt;clear fI X6 P6 B6 O6 x0 x1 x2 x3 x4 g2 xl;have x0:w7.cell? ⟨tb,0,none⟩=some (.int .u8 kk):=X7.out.cell 0;have x1:w7.cell? ⟨tb,1,none⟩=some (.complex .f64 (fb ql) (fb qc)):=X7.out.cell 1;have x2:w7.cell? ⟨tb,2,none⟩=some (.complex .f64 (fb l2) (fb c2)):=X7.out.cell 2;have x3:w7.cell? ⟨tb,3,none⟩=some (.string ⟨tx.toArray⟩):=X7.out.cell 3;have x4:w7.cell? ⟨tb,4,none⟩=some (.int .i64 n):=X7.out.cell 4;have xl:=X7.out.lt;have ht:=aa (show lG ⟨kk,(ql,qc),tx,n⟩from⟨⟨by intro h;have:=congrArg Prod.fst h;simp at this;omega,by show ql≤20000;omega,by show qc≤20000;omega⟩,HKN.out⟩);go_upto_region 20 with(at_builtin;refine jg uT rfl _ _ rfl (w.heap.size+1) _ E.length (gV E) rfl (jA O7.out (fun g _ hg=>(dq _ _).block g hg)) _ 1 (dD ⟨kk,(ql,qc),tx,n⟩ (fb l2) (fb c2)).toList rfl (qi uT w7 (dD ⟨kk,(ql,qc),tx,n⟩ (fb l2) (fb c2)) _ 1 1 rfl (by simp[dD,jM,Value.oneCell'])) (by omega) (by unfold maxLen;omega) (by simp;omega) ?_;intro v9 w9 cf;obtain⟨A9,c9,rfl⟩:=jG cf.own);have iA:=Ir cf O7.out (by omega);have B9:=aa (B7.out.trans (iA.mono (Nat.le_succ _)));have P9:=aa (show Bx w.heap.size #[.int .i64 (ql:Int),.int .i64 (qc:Int)] 182 w9 from(iA.block _ (Nat.lt_succ_self _)).trans P7.out);have O9:=aa (show w9.ownsRow (w.heap.size+1) 177 5 (.slice A9 (E.length+1) c9) (E++[((⟨kk,(ql,qc),tx,n⟩:bA),fb l2,fb c2)]).length (gV (E++[((⟨kk,(ql,qc),tx,n⟩:bA),fb l2,fb c2)]))by simpa[gV]using cf.own);have I9:=aa (fun(t:nk) (jD:t∈E++[((⟨kk,(ql,qc),tx,n⟩:bA),fb l2,fb c2)])=>show lG t.1 by
     rcases List.mem_append.1 jD with h|h
     ·exact HS.out.is_ t h
     ·rw[List.mem_singleton.1 h];exact ht.out)
    clear iA cf P7 O7 B7 X7 x0 x1 x2 x3 x4 xl;have PD:=aa (show Bx w.heap.size #[.int .i64 (ql:Int),.int .i64 (qc:Int)] 182 w9.drew from P9.out);have vG:(⟨u.toArray⟩:ByteArray).extract m u.length=⟨(u.drop m).toArray⟩:=by rw[gT,List.take_of_length_le (by simp)]
    refine og 4 (by kernel_rfl) (by kernel_rfl) ?_;have v0:w9.drew.cell? ⟨w.heap.size,0,none⟩=some (.int .i64 (ql:Int)):=PD.out.cell 0;have v1:w9.drew.cell? ⟨w.heap.size,1,none⟩=some (.int .i64 (qc:Int)):=PD.out.cell 1;have vl:=PD.out.lt;simp only[List.take_succ_cons,List.take_zero,List.drop_succ_cons,List.drop_zero];repeat still_step
    refine wpStill_nil ?_;go_wp2_with fail;refine(HBH.out (ql,qc) (u.take m) _ hp1 hp2 (by simp;omega)).mono ?_;rintro e wo ⟨rfl,hbo⟩;have PO:=aa (PD.out.grow hbo);have hbb:=nj (u.take m) (ql,qc) hp1 hp2;generalize ek (ql,qc) (u.take m)=q3 at hbb ⊢;obtain⟨l3,c3⟩:=q3;obtain⟨d1,d2,d3⟩:=hbb;have y0:=PO.out.cell 0;have y1:=PO.out.cell 1;have y2:=PO.out.frozen 0;have y3:=PO.out.frozen 1;have yl:=PO.out.lt;have tf:=List.length_take_le m u;go_wp2_with fail
    go_roundg (u.length-m)
    case measure=>omega
    exact⟨u.drop m,(l3,c3),_,by simp,by simp,sJ B9.out O9.out hbo ((PO.out.set 0 _).set 1 _) d1 d2 (by simp at d3 ⊢;omega) (by simp;omega) I9.out⟩
end Go.Proofs.YtlpombjidhloiaaGreat
