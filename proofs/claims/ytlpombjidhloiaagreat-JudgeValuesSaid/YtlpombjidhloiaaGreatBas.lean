/- law06. konst. Condition: what each theorem says. -/
import Derived.Test.YtlpombjidhloiaaGreatBar
namespace Go.Proofs.YtlpombjidhloiaaGreat
open Go.RowKit
set_option maxRecDepth 100000
attribute [local go_sem ↓] Go.wp_at_zero Go.wp_at_succ
def adq(w:World)(e:Ending)(w':World):Prop:=Below w.heap.size w w'∧∃A n c L,e=.returned (.slice A n c)∧PW w' (.slice A n c) L
theorem adr(s:List UInt8)(hn:s.length≤16384)(w:World):Calls Tryz.prog 34 #[.string ⟨s.toArray⟩] w (adq w):=by
 have HN:=aa (adp s hn w);go_enter Tryz.func34,Tryz.ntmps34;go_wp2_with fail;refine HN.out.mono ?_;rintro e w1 ⟨hb,⟨x,y,c,rfl,hc⟩|⟨v,E,rfl,hown,h0,hle,his⟩⟩
 ·have hcb:(c != 0)=true:=bne_iff_ne.2 hc;go_wp2_with fail;go_ret;exact⟨hb,none,0,0,[],rfl,.inr ⟨rfl,rfl⟩,by simp,by simp⟩
 ·obtain⟨A,cp,rfl⟩:=jG hown;have HT:=aa (adk hown (fun h=>by rw[h]at h0;exact absurd h0 (by decide)));have HI:=aa his;have HB:=aa hb;clear hown his hb;obtain⟨b,o,c',h1,h2,h3,h4⟩:=HT.out;rw[List.length_map]at h1 h2;obtain⟨rfl,rfl⟩:A=some ⟨b,o,none⟩∧cp=c':=by cases h1;exact⟨rfl,rfl⟩
  have hz:(1:Int)≤(E.length:Int):=by omega
  have kD:(0:Int)≤(E.length:Int)-1:=by omega
  have hz3:(E.length:Int)-1≤(cp:Int):=by omega
  have H4:=aa h4;have hlen:(E.dropLast.map (·.1)).length=E.length-1:=by simp
  have PP:=aa (show PW w1 (.slice (some ⟨b,o,none⟩) (E.length-1) cp) (E.dropLast.map (·.1))from⟨.inl ⟨b,o,cp,by rw[hlen],by rw[hlen];omega,h3,fun i t hi=>H4.out i t (by
   rw[List.getElem?_map]at hi ⊢;cases he:E.dropLast[i]? with
   |none=>rw[he]at hi;cases hi
   |some x=>
    rw[he]at hi;have hx:=List.getElem?_eq_some_iff.1 he;obtain⟨hlt,hx⟩:=hx;rw[List.getElem_dropLast]at hx;rw[List.getElem?_eq_getElem (by simp at hlt;omega),hx];exact hi)⟩,fun t ht=>by
   obtain⟨x,hx,rfl⟩:=List.mem_map.1 ht;exact HI.out x (List.dropLast_subset E hx),by rw[hlen];omega⟩)
  clear h1 h4 H4 HI HT hlen;go_wp2_with fail;go_ret;exact⟨HB.out,_,_,_,_,rfl,PP.out⟩
def SO(w:World)(e:Ending)(w':World):Prop:=Below w.heap.size w w'∧(e=.returned (.pointer none)∨∃b x,e=.returned (cw b)∧bg w' b x∧Tk x∧ez 1000000 x)
theorem xD(s:List UInt8)(hn:s.length≤16384)(w:World):Calls Tryz.prog 9 #[.string ⟨s.toArray⟩] w (SO w):=by
 have HN:=aa (adr s hn w);go_enter Tryz.func9,Tryz.ntmps9;go_wp2_with fail;refine HN.out.mono ?_;rintro e w1 ⟨hb,A,n,c,L,rfl,P⟩;go_wp2_with fail;refine(adj P).mono ?_;rintro e w2 ⟨af,a,i,cE,rfl,ht⟩;have HB:=aa (hb.trans (af.mono hb.size));by_cases hc:cE=0
 ·obtain⟨b,x,hp,h1⟩:=ht hc;subst hc;have HP:=aa hp;have H1:=aa h1;clear hp h1 ht;go_wp2_with fail;go_ret;exact⟨HB.out,.inr ⟨b,x,congrArg _ HP.out,H1.out⟩⟩
 ·have hcb:(cE != 0)=true:=bne_iff_ne.2 hc;go_wp2_with fail;go_ret;exact⟨HB.out,.inl rfl⟩
theorem GD{v:aL}(hv:Vw v):dm v= !decide (v=.none):=by
 cases v with
 |whole n=>
  have h1:=hv.1;have h2:=hv.2;simp[dm,h1,h2]
 |_=>simp[dm]
theorem fA(v:aL)(hv:Vw v)(w:World):Calls Tryz.prog 136 #[aK v] w (Pv w (.bool (dm v))):=by
 have HN:=aa (eH v hv w);have HR:=aa (GD hv);cases v with
 |whole n=>
  have h1:=hv.1;have h2:=hv.2;go_enter Tryz.func136,Tryz.ntmps136;go_wp2_with fail;go_ret;exact⟨by rw[HR.out];rfl,Below.refl _ _⟩
 |none=>
  go_enter Tryz.func136,Tryz.ntmps136;go_wp2_with fail;refine(HN.out).mono ?_;rintro e w1 ⟨rfl,hb⟩;have HB:=aa (fun o=>hb.alloc hb.size o);clear hb HN;rw[show aR .none=Option.none from rfl];exact Pq
 |null=>
  go_enter Tryz.func136,Tryz.ntmps136;go_wp2_with fail;refine(HN.out).mono ?_;rintro e w1 ⟨rfl,hb⟩;have HB:=aa (fun o=>hb.alloc hb.size o);clear hb HN;rw[show aR .null=Option.none from rfl];exact Pq
 |bits n=>
  go_enter Tryz.func136,Tryz.ntmps136;go_wp2_with fail;refine(HN.out).mono ?_;rintro e w1 ⟨rfl,hb⟩;have HB:=aa hb;clear hb HN;rw[show aR (.bits n)=Option.none from rfl];dsimp only[Option.getD_none,Option.isSome_none];exact uD
 |str s=>
  go_enter Tryz.func136,Tryz.ntmps136;go_wp2_with fail;refine(HN.out).mono ?_;rintro e w1 ⟨rfl,hb⟩;have HB:=aa hb;clear hb HN;generalize(aR (.str s)).getD 0=n0;cases(aR (.str s)).isSome
  all_goals
   go_wp2_with fail;go_ret;exact⟨by rw[HR.out];rfl,HB.out⟩
 |letter n=>
  go_enter Tryz.func136,Tryz.ntmps136;go_wp2_with fail;refine(HN.out).mono ?_;rintro e w1 ⟨rfl,hb⟩;have HB:=aa hb;clear hb HN;rw[show aR (.letter n)=some (n:Int)from rfl];dsimp only[Option.getD_some,Option.isSome_some];exact uD
 |truth b=>
  cases b
  all_goals
   go_enter Tryz.func136,Tryz.ntmps136;go_wp2_with fail;refine(HN.out).mono ?_;rintro e w1 ⟨rfl,hb⟩;have HB:=aa hb;clear hb;dsimp only[aR,Option.getD_some,Option.isSome_some];go_wp2_with fail;go_ret;exact⟨by rw[HR.out];rfl,HB.out⟩
 |item t n=>
  go_enter Tryz.func136,Tryz.ntmps136;go_wp2_with fail;refine(HN.out).mono ?_;rintro e w1 ⟨rfl,hb⟩;have HB:=aa hb;clear hb HN;rw[show aR (.item t n)=some n from rfl];dsimp only[Option.getD_some,Option.isSome_some];exact uD
@[go_sem] theorem aiU(c:Nat)(w:World):(Instr.makeInterface 95 (.int .u8 (c:Int))).run Tryz.prog w=.ok (aK (.letter c)) w:=by kernel_rfl
theorem fX(v:aL)(w:World):Calls Tryz.prog 142 #[aK v] w (fun e w'=>e=.returned (aK (aT v))∧w=w'):=by
 cases v with
 |str s=>
  by_cases h1:s.length=1
  ·obtain⟨c,rfl⟩:=List.length_eq_one_iff.1 h1;go_enter Tryz.func142,Tryz.ntmps142;exact iW
  ·have HE:=aa (show aT (.str s)=.str s by
    match s,h1 with
    |[],_=>rfl
    |_::_::_,_=>rfl)
   have d:((s.length:Int)==1)=false:=beq_eq_false_iff_ne.2 (by omega);clear h1;go_enter Tryz.func142,Tryz.ntmps142;go_wp2_with fail;go_ret;exact⟨by rw[HE.out];rfl,rfl⟩
 |_=>
  go_enter Tryz.func142,Tryz.ntmps142;exact iW
theorem uE(v:aL)(w:World):Calls Tryz.prog 180 #[aK v] w (fun e w'=>e=.returned (.bool (lZ v).2)∧w=w'):=by
 go_enter Tryz.func180,Tryz.ntmps180;exact iW
theorem wS(v:aL)(w:World):Calls Tryz.prog 181 #[aK v] w (fun e w'=>e=.returned (.bool (kl v).2)∧w=w'):=by
 go_enter Tryz.func181,Tryz.ntmps181;exact iW
theorem Bu(v:aL)(w:World):Calls Tryz.prog 182 #[aK v] w (fun e w'=>e=.returned (.bool (kh v).2)∧w=w'):=by
 go_enter Tryz.func182,Tryz.ntmps182;exact iW
theorem GE(v:aL)(w:World):Calls Tryz.prog 183 #[aK v] w (fun e w'=>e=.returned (.bool (mY v))∧Below w.heap.size w w'):=by
 go_enter Tryz.func183,Tryz.ntmps183;go_wp2_with fail;go_ret;exact⟨rfl,cB w _⟩
set_option maxHeartbeats 4000000 in
theorem jP(a b:aL)(w:World):Calls Tryz.prog 143 #[aK a,aK b] w (Pv w (.bool (dz a b))):=by
 cases a with
 |item t n=>
  cases b with
  |item u m=>
   by_cases h:t=u
   ·subst h;have HE:=aa (show dz (.item t n) (.item t m)=true by simp[dz]);exact Pr
   ·have HE:=aa (show dz (.item t n) (.item u m)=false by simp[dz,h]);have d:=beq_eq_false_iff_ne.2 h;exact Pr
  |_=>
   go_enter Tryz.func143,Tryz.ntmps143;go_wp2_with fail;go_ret;exact⟨rfl,(cB w _).trans ((cB _ _).mono (cB w _).size)⟩
 |whole n=>
  have HE:=aa (show dz (.whole n) b=(lZ b).2 by cases b<;>rfl);have HG:=aa (show Below w.heap.size w ((w.alloc (.cells #[.int .i64 0,.int .i64 0] 105)).alloc (.cells #[.func (.func 180) #[] #[],.func (.func 181) #[] #[],.func (.func 182) #[] #[],.func (.func 183) #[] #[]] 222))from(cB w _).trans ((cB _ _).mono (cB w _).size));go_enter Tryz.func143,Tryz.ntmps143;go_wp2_with fail;refine wp_loop_rounds 6 ?_;rw[rounds_succ];go_wp2_with fail;refine(uE _ _).mono ?_;rintro e w0 ⟨rfl,rfl⟩;go_wp2_with fail;refine(uE _ _).mono ?_;exact GF
 |letter n=>
  have HE:=aa (show dz (.letter n) b=(kl b).2 by cases b<;>rfl);have HG:=aa (show Below w.heap.size w ((w.alloc (.cells #[.int .i64 0,.int .i64 0] 105)).alloc (.cells #[.func (.func 180) #[] #[],.func (.func 181) #[] #[],.func (.func 182) #[] #[],.func (.func 183) #[] #[]] 222))from(cB w _).trans ((cB _ _).mono (cB w _).size));go_enter Tryz.func143,Tryz.ntmps143;go_wp2_with fail;refine wp_loop_rounds 6 ?_;rw[rounds_succ];go_wp2_with fail;refine(uE _ _).mono ?_;rintro e w0 ⟨rfl,rfl⟩;go_wp2_with fail;rw[rounds_succ];go_wp2_with fail;refine(wS _ _).mono ?_;rintro e w1 ⟨rfl,rfl⟩;go_wp2_with fail;refine(wS _ _).mono ?_;exact GF
 |truth n=>
  have HE:=aa (show dz (.truth n) b=(kh b).2 by cases b<;>rfl);have HG:=aa (show Below w.heap.size w ((w.alloc (.cells #[.int .i64 0,.int .i64 0] 105)).alloc (.cells #[.func (.func 180) #[] #[],.func (.func 181) #[] #[],.func (.func 182) #[] #[],.func (.func 183) #[] #[]] 222))from(cB w _).trans ((cB _ _).mono (cB w _).size));go_enter Tryz.func143,Tryz.ntmps143;go_wp2_with fail;refine wp_loop_rounds 6 ?_;rw[rounds_succ];go_wp2_with fail;refine(uE _ _).mono ?_;rintro e w0 ⟨rfl,rfl⟩;go_wp2_with fail;rw[rounds_succ];go_wp2_with fail;refine(wS _ _).mono ?_;rintro e w1 ⟨rfl,rfl⟩;go_wp2_with fail;rw[rounds_succ];go_wp2_with fail;refine(Bu _ _).mono ?_;rintro e w2 ⟨rfl,rfl⟩;go_wp2_with fail;refine(Bu _ _).mono ?_;exact GF
 |null=>
  have HE:=aa (show dz (.null) b=mY b by cases b<;>rfl);have HG:=aa (show Below w.heap.size w ((w.alloc (.cells #[.int .i64 0,.int .i64 0] 105)).alloc (.cells #[.func (.func 180) #[] #[],.func (.func 181) #[] #[],.func (.func 182) #[] #[],.func (.func 183) #[] #[]] 222))from(cB w _).trans ((cB _ _).mono (cB w _).size));go_enter Tryz.func143,Tryz.ntmps143;go_wp2_with fail;refine wp_loop_rounds 6 ?_;rw[rounds_succ];go_wp2_with fail;refine(uE _ _).mono ?_;rintro e w0 ⟨rfl,rfl⟩;go_wp2_with fail;rw[rounds_succ];go_wp2_with fail;refine(wS _ _).mono ?_;rintro e w1 ⟨rfl,rfl⟩;go_wp2_with fail;rw[rounds_succ];go_wp2_with fail;refine(Bu _ _).mono ?_;rintro e w2 ⟨rfl,rfl⟩;go_wp2_with fail;rw[rounds_succ];go_wp2_with fail;refine(GE _ _).mono ?_;rintro e w4 ⟨rfl,aw⟩;have cd:=aa (HG.out.trans (aw.mono HG.out.size));clear aw;go_wp2_with fail;refine(GE _ _).mono ?_;rintro e w5 ⟨rfl,au⟩;have bc:=aa (cd.out.trans (au.mono cd.out.size));clear au;go_wp2_with fail;go_ret;exact⟨by rw[HE.out];rfl,bc.out⟩
 |none=>
  have HE:=aa (show dz (.none) b=false by cases b<;>rfl);exact GG
 |bits n=>
  have HE:=aa (show dz (.bits n) b=false by cases b<;>rfl);exact GG
 |str n=>
  have HE:=aa (show dz (.str n) b=false by cases b<;>rfl);exact GG
@[go_sem high] theorem aiY(w:World):(Instr.makeMap 226 none).run Tryz.prog w=.ok (.map (some w.heap.size)) (cC eV w []):=lW w _
@[go_sem] theorem aiZ(w:World)(l:List (List UInt8×Value))(x:List UInt8)(v:Value)(hx:x∉l.map (·.1)):(Instr.mapUpdate 226 (.map (some w.heap.size)) (.string ⟨x.toArray⟩) v).run Tryz.prog (cC eV w l)=.ok () (cC eV w (l++[(x,v)])):=nP Tryz.underlying226 (lD Tryz.underlying9) w l x v hx
@[go_sem high] theorem ai0(w:World):(Instr.makeMap 234 none).run Tryz.prog w=.ok (.map (some w.heap.size)) (cC eV w []):=lW w _
@[go_sem] theorem ai1(w:World)(l:List (List UInt8×Value))(x:List UInt8)(v:Value)(hx:x∉l.map (·.1)):(Instr.mapUpdate 234 (.map (some w.heap.size)) (.string ⟨x.toArray⟩) v).run Tryz.prog (cC eV w l)=.ok () (cC eV w (l++[(x,v)])):=nP Tryz.underlying234 (lD Tryz.underlying9) w l x v hx
def cm(f:Nat):Value:=.func (.func f) #[] #[]
def sx:List (List UInt8×Value):=[(dT,cm 159),(eI,cm 160),(gm,cm 161),(fw,cm 162),(gn,cm 163),(fy,cm 164)]
def sy:List (List UInt8×Value):=[(bV,cm 172),(bW,cm 173),(cP,cm 174),(fe,cm 175),(fw,cm 176),(fy,cm 177),(dT,cm 178),(eI,cm 179)]
def Ps(w:World)(l:List (List UInt8×Value))(e:Ending)(w':World):Prop:=∃r,e=.returned (.map (some r))∧KM eV w' r l∧Below w.heap.size w w'
theorem ma(w:World):Calls Tryz.prog 139 #[] w (Ps w sx):=by
 go_enter Tryz.func139,Tryz.ntmps139;go_wp2_with fail;go_ret;exact⟨w.heap.size,rfl,nR eV w sx,nQ eV w _⟩
theorem mb(w:World):Calls Tryz.prog 141 #[] w (Ps w sy):=by
 go_enter Tryz.func141,Tryz.ntmps141;go_wp2_with fail;go_ret;exact⟨w.heap.size,rfl,nR eV w sy,nQ eV w _⟩
def Bw(v:Value)(args:Array Value)(u:Value):Prop:=∃f,v=cm f∧(∀args w,(callFunc f args).run Tryz.prog w=.ok (.enter f args) w)∧∀w,Calls Tryz.prog f args w (fun e w'=>e=.returned u∧w=w')
theorem qO(a:Nat)(h:a<65536):(BitVec.ofInt 16 (a:Int)).toNat=a:=by
 rw[BitVec.ofInt_natCast,BitVec.toNat_ofNat];exact Nat.mod_eq_of_lt (by omega)
theorem By(n:Nat)(h:n<65536):IntKind.u16.wrap (n:Int)=n:=by
 rw[IntKind.wrap_u16];omega
theorem Pt(a b:Nat)(ha:a<65536)(hb:b<65536):Go.bits .and .u16 (a:Int) (b:Int)=((a &&& b:Nat):Int):=by
 show IntKind.u16.wrap ((BitVec.ofInt 16 (a:Int) &&& BitVec.ofInt 16 (b:Int)).toNat:Int)=_;rw[BitVec.toNat_and,qO a ha,qO b hb,By _ (Nat.and_lt_two_pow (n:=16) _ (by omega))]
theorem Gy(a b:Nat)(ha:a<65536)(hb:b<65536):Go.bits .or .u16 (a:Int) (b:Int)=((a ||| b:Nat):Int):=by
 show IntKind.u16.wrap ((BitVec.ofInt 16 (a:Int) ||| BitVec.ofInt 16 (b:Int)).toNat:Int)=_;rw[BitVec.toNat_or,qO a ha,qO b hb,By _ (Nat.or_lt_two_pow (n:=16) (by omega) (by omega))]
theorem ZK(a b:Nat)(ha:a<65536)(hb:b<65536):Go.bits .xor .u16 (a:Int) (b:Int)=((a ^^^ b:Nat):Int):=by
 show IntKind.u16.wrap ((BitVec.ofInt 16 (a:Int) ^^^ BitVec.ofInt 16 (b:Int)).toNat:Int)=_;rw[BitVec.toNat_xor,qO a ha,qO b hb,By _ (Nat.xor_lt_two_pow (n:=16) (by omega) (by omega))]
theorem GH(a b:Nat)(ha:a<65536)(hb:b<65536):Go.bits .andNot .u16 (a:Int) (b:Int)=((a &&& (65535-b):Nat):Int):=by
 show IntKind.u16.wrap ((BitVec.ofInt 16 (a:Int) &&& ~~~ BitVec.ofInt 16 (b:Int)).toNat:Int)=_;rw[BitVec.toNat_and,BitVec.toNat_not,qO a ha,qO b hb,By _ (Nat.and_lt_two_pow (n:=16) _ (by omega))]
theorem Pu(op:List UInt8)(a b:Int):(bm sx op=none∧gE op a b=none)∨∃v r,bm sx op=some v∧gE op a b=some r∧Bw v #[.int .i64 a,.int .i64 b] (.bool r):=by
 by_cases h1:op=dT
 ·subst h1;refine .inr ⟨_,a==b,rfl,(by simp[gE,dT];rfl),_,rfl,fun _ _=>by kernel_rfl,fun w=>?_⟩;go_enter Tryz.func159,Tryz.ntmps159;exact iW
 by_cases h2:op=eI
 ·subst h2;refine .inr ⟨_,a != b,rfl,(by simp[gE,dT,eI,bne];rfl),_,rfl,fun _ _=>by kernel_rfl,fun w=>?_⟩;go_enter Tryz.func160,Tryz.ntmps160;exact iW
 by_cases h3:op=gm
 ·subst h3;refine .inr ⟨_,decide (a<b),rfl,rfl,_,rfl,fun _ _=>by kernel_rfl,fun w=>?_⟩;go_enter Tryz.func161,Tryz.ntmps161;exact iW
 by_cases h4:op=fw
 ·subst h4;refine .inr ⟨_,decide (a≤b),rfl,rfl,_,rfl,fun _ _=>by kernel_rfl,fun w=>?_⟩;go_enter Tryz.func162,Tryz.ntmps162;exact iW
 by_cases h5:op=gn
 ·subst h5;refine .inr ⟨_,decide (b<a),rfl,rfl,_,rfl,fun _ _=>by kernel_rfl,fun w=>?_⟩;go_enter Tryz.func163,Tryz.ntmps163;exact iW
 by_cases h6:op=fy
 ·subst h6;refine .inr ⟨_,decide (b≤a),rfl,rfl,_,rfl,fun _ _=>by kernel_rfl,fun w=>?_⟩;go_enter Tryz.func164,Tryz.ntmps164;exact iW
 ·refine .inl ⟨?_,?_⟩
  ·simp[bm,sx,Ne.symm h1,Ne.symm h2,Ne.symm h3,Ne.symm h4,Ne.symm h5,Ne.symm h6]
  ·simp[gE,h1,h2,h3,h4,h5,h6]
theorem GI(a b:Nat):((a:Int)==(b:Int))=decide (a=b):=by
 by_cases h:a=b
 ·simp[h]
 ·rw[decide_eq_false h];exact beq_eq_false_iff_ne.2 (by omega)
theorem Pw(op:List UInt8)(a b:Nat)(ha:a<65536)(hb:b<65536):(bm sy op=none∧eY op a b=none)∨∃v r,bm sy op=some v∧eY op a b=some r∧Bw v #[.int .u16 a,.int .u16 b] (aK r):=by
 by_cases h1:op=bV
 ·subst h1;refine .inr ⟨_,.bits (a ||| b),rfl,rfl,_,rfl,fun _ _=>by kernel_rfl,fun w=>?_⟩;go_enter Tryz.func172,Tryz.ntmps172;go_wp2_with fail;rw[Gy a b ha hb];go_ret;exact⟨rfl,rfl⟩
 by_cases h2:op=bW
 ·subst h2;refine .inr ⟨_,.bits (a &&& (65535-b)),rfl,rfl,_,rfl,fun _ _=>by kernel_rfl,fun w=>?_⟩;go_enter Tryz.func173,Tryz.ntmps173;go_wp2_with fail;rw[GH a b ha hb];go_ret;exact⟨rfl,rfl⟩
 by_cases h3:op=cP
 ·subst h3;refine .inr ⟨_,.bits (a &&& b),rfl,rfl,_,rfl,fun _ _=>by kernel_rfl,fun w=>?_⟩;go_enter Tryz.func174,Tryz.ntmps174;go_wp2_with fail;rw[Pt a b ha hb];go_ret;exact⟨rfl,rfl⟩
 by_cases h4:op=fe
 ·subst h4;refine .inr ⟨_,.bits (a ^^^ b),rfl,rfl,_,rfl,fun _ _=>by kernel_rfl,fun w=>?_⟩;go_enter Tryz.func175,Tryz.ntmps175;go_wp2_with fail;rw[ZK a b ha hb];go_ret;exact⟨rfl,rfl⟩
 by_cases h5:op=fw
 ·subst h5;refine .inr ⟨_,.truth (decide (a &&& (65535-b)=0)),rfl,rfl,_,rfl,fun _ _=>by kernel_rfl,fun w=>?_⟩;go_enter Tryz.func176,Tryz.ntmps176;go_wp2_with fail;rw[GH a b ha hb];exact Px
 by_cases h6:op=fy
 ·subst h6;refine .inr ⟨_,.truth (decide (b &&& (65535-a)=0)),rfl,rfl,_,rfl,fun _ _=>by kernel_rfl,fun w=>?_⟩;go_enter Tryz.func177,Tryz.ntmps177;go_wp2_with fail;rw[GH b a hb ha];exact Px
 by_cases h7:op=dT
 ·subst h7;refine .inr ⟨_,.truth (decide (a=b)),rfl,rfl,_,rfl,fun _ _=>by kernel_rfl,fun w=>?_⟩;go_enter Tryz.func178,Tryz.ntmps178;go_wp2_with fail;go_ret;exact⟨nG (congrArg (fun b=>aK (.truth b)) (GI _ _)),rfl⟩
 by_cases h8:op=eI
 ·subst h8;refine .inr ⟨_,.truth (decide (a≠b)),rfl,rfl,_,rfl,fun _ _=>by kernel_rfl,fun w=>?_⟩;go_enter Tryz.func179,Tryz.ntmps179;go_wp2_with fail;go_ret;exact⟨nG (congrArg (fun b=>aK (.truth b)) (by rw[bne,GI];simp)),rfl⟩
 ·refine .inl ⟨?_,?_⟩
  ·simp[bm,sy,Ne.symm h1,Ne.symm h2,Ne.symm h3,Ne.symm h4,Ne.symm h5,Ne.symm h6,Ne.symm h7,Ne.symm h8]
  ·simp[eY,h1,h2,h3,h4,h5,h6,h7,h8]
@[go_sem high] theorem ai2(w:World):(Instr.makeMap 230 none).run Tryz.prog w=.ok (.map (some w.heap.size)) (cC eV w []):=lW w _
@[go_sem] theorem ai3(w:World)(l:List (List UInt8×Value))(x:List UInt8)(v:Value)(hx:x∉l.map (·.1)):(Instr.mapUpdate 230 (.map (some w.heap.size)) (.string ⟨x.toArray⟩) v).run Tryz.prog (cC eV w l)=.ok () (cC eV w (l++[(x,v)])):=nP Tryz.underlying230 (lD Tryz.underlying9) w l x v hx
def pE(p:Nat):Value:=.func (.func 166) #[] #[.pointer (some ⟨p,0,none⟩)]
def uG(p q:Nat):List (List UInt8×Value):=[(bV,cm 167),(bW,cm 168),(cP,cm 169),(eO,pE p),(eP,pE q)]
def ZL(w:World)(e:Ending)(w':World):Prop:=∃r p q,e=.returned (.map (some r))∧KM eV w' r (uG p q)∧w'.cell? ⟨p,0,none⟩=some (cm 170)∧w'.cell? ⟨q,0,none⟩=some (cm 171)∧Below w.heap.size w w'
theorem Py(v:Value)(f:Nat)(hv:v=cm f)(w:World):Calls Tryz.prog 165 #[v] w (fun e w'=>e=.returned (pE w.heap.size)∧w'=w.alloc (.cells #[v] 256)):=by
 subst hv;dsimp only[cm];go_enter Tryz.func165,Tryz.ntmps165;exact iW
theorem mc(w:World):Calls Tryz.prog 140 #[] w (ZL w):=by
 go_enter Tryz.func140,Tryz.ntmps140;go_wp2_with fail;have HK:=aa (nR eV w [(bV,cm 167),(bW,cm 168),(cP,cm 169)]);have HB:=aa (nQ eV w [(bV,cm 167),(bW,cm 168),(cP,cm 169)]);dsimp only[bV,bW,cP,cm]at HK HB;generalize cC eV w _=w1 at *;refine(Py _ 170 rfl w1).mono ?_;rintro e w2 ⟨rfl,hw⟩;obtain⟨hb,x1,_⟩:=made hw.symm;have HX:=aa x1;have aV:=aa (HB.out.trans (hb.mono HB.out.size));have hk:=HK.out.later hb;obtain⟨o,ho,yF⟩:=BA Tryz.underlying230 (lD Tryz.underlying9) hk eO (pE w1.heap.size);have HL:=aa (show w.heap.size<w1.heap.size from HK.out.lt);have DG:=aa yF;dsimp only[eO,pE,eV]at ho DG;clear hw hb x1 hk yF HK HB;dsimp only[pE];go_wp2_with fail;have bD:=aa (wT aV.out (Nat.le_refl _) o);have jE:=aa (show Bx w1.heap.size #[cm 170] 256 (iX w2 w.heap.size o)from(sB w2 _ o (by have:=HL.out;omega)).trans HX.out);clear HX aV ho;generalize iX w2 w.heap.size o=w3 at *;refine(Py _ 171 rfl w3).mono ?_;rintro e w4 ⟨rfl,hw⟩;obtain⟨hb,x1,_⟩:=made hw.symm;have HY:=aa x1;have iP:=aa (jE.out.grow hb);have cd:=aa (bD.out.trans (hb.mono bD.out.size));have hk:=DG.out.later hb;obtain⟨o2,ho,yF⟩:=BA Tryz.underlying230 (lD Tryz.underlying9) hk eP (pE w3.heap.size);have yB:=aa (show w.heap.size<w3.heap.size from DG.out.lt);have VT:=aa yF;dsimp only[eP,pE,eV]at ho VT;clear hw hb x1 hk yF DG bD jE;dsimp only[pE];go_wp2_with fail;go_ret;refine⟨w.heap.size,w1.heap.size,w3.heap.size,rfl,VT.out,?_,?_,wT cd.out (Nat.le_refl _) o2⟩
 ·have h:Bx w1.heap.size _ _ (iX w4 w.heap.size o2):=(sB w4 _ o2 (by have:=HL.out;omega)).trans iP.out;exact h.cell 0
 ·have h:Bx w3.heap.size _ _ (iX w4 w.heap.size o2):=(sB w4 _ o2 (by have:=yB.out;omega)).trans HY.out;exact h.cell 0
def Pz(w0:World)(v:Value)(args:Array Value)(u:Value):Prop:=∃f cap,v=.func (.func f) #[] cap∧(∀args w,(callFunc f args).run Tryz.prog w=.ok (.enter f args) w)∧∀w,Below w0.heap.size w0 w→Calls Tryz.prog f (args++cap) w (fun e w'=>e=.returned u∧w=w')
def kL(n:Int):Prop:= -1000000≤n∧n≤1000000
theorem ZM{a b:Int}(ha:kL a)(hb:kL b): -1000000000000≤a*b∧a*b≤1000000000000:=by
 obtain⟨h1,h2⟩:=ha;obtain⟨h3,h4⟩:=hb;have h5:(a+1000000)*(b+1000000)≥0:=Int.mul_nonneg (by omega) (by omega);have h6:(1000000-a)*(1000000-b)≥0:=Int.mul_nonneg (by omega) (by omega);have h7:(a+1000000)*(1000000-b)≥0:=Int.mul_nonneg (by omega) (by omega);have h8:(1000000-a)*(b+1000000)≥0:=Int.mul_nonneg (by omega) (by omega);constructor<;>grind
theorem ZN{a b:Int}(ha:kL a)(_hb:kL b): -9223372036854775808≤a.tdiv b∧a.tdiv b≤9223372036854775807:=by
 have h:=Int.natAbs_tdiv_le_natAbs a b;have h1:=ha.1;have h2:=ha.2;omega
theorem ZO(a b:Int)(hb:b≠0)(w:World):Calls Tryz.prog 170 #[.int .i64 a,.int .i64 b] w (fun e w'=>e=.returned (.int .i64 (wrap64 (a.tdiv b)))∧w=w'):=by
 go_enter Tryz.func170,Tryz.ntmps170;exact iW
theorem ZP(a b:Int)(hb:b≠0)(w:World):Calls Tryz.prog 171 #[.int .i64 a,.int .i64 b] w (fun e w'=>e=.returned (.int .i64 (a.tmod b))∧w=w'):=by
 go_enter Tryz.func171,Tryz.ntmps171;exact iW
theorem PA(p:Nat)(f:Nat)(hf:∀args w,(callFunc f args).run Tryz.prog w=.ok (.enter f args) w)(a b c:Int)(hc:∀w,b≠0→Calls Tryz.prog f #[.int .i64 a,.int .i64 b] w (fun e w'=>e=.returned (.int .i64 c)∧w=w'))(w:World)(cp:w.cell? ⟨p,0,none⟩=some (cm f)):
 Calls Tryz.prog 166 #[.int .i64 a,.int .i64 b,.pointer (some ⟨p,0,none⟩)] w (fun e w'=>e=.returned (.tuple #[aK (if b=0 then((.none,102):aL×Int)else eQ c).1,.int .i64 (if b=0 then((.none,102):aL×Int)else eQ c).2])∧w=w'):=by
 by_cases h:b=0
 ·subst h;rw[if_pos rfl];go_enter Tryz.func166,Tryz.ntmps166;exact GJ
 ·rw[if_neg h];have HC:=aa (hc w h);have d:=beq_eq_false_iff_ne.2 h;dsimp only[cm]at cp;clear hc h;go_enter Tryz.func166,Tryz.ntmps166;go_wp2_with fail;refine(HC.out).mono ?_;rintro e w1 ⟨rfl,rfl⟩;go_wp2_with fail;exact BC
theorem PC(op:List UInt8)(a b:Int)(ha:kL a)(hb:kL b)(w0:World)(p q:Nat)(cp:w0.cell? ⟨p,0,none⟩=some (cm 170))(cq:w0.cell? ⟨q,0,none⟩=some (cm 171)):
 (bm (uG p q) op=none∧fB op a b=none)∨∃v r,bm (uG p q) op=some v∧fB op a b=some r∧Pz w0 v #[.int .i64 a,.int .i64 b] (.tuple #[aK r.1,.int .i64 r.2]):=by
 by_cases h1:op=bV
 ·subst h1;refine .inr ⟨_,eQ (a+b),rfl,rfl,_,_,rfl,fun _ _=>by kernel_rfl,fun w _=>?_⟩;have HW:=aa (show wrap64 (a+b)=a+b from Go.IntWalk.wrap64_in _ (by have h1:=ha.1;have h2:=ha.2;have h3:=hb.1;have h4:=hb.2;omega));show Calls Tryz.prog 167 #[.int .i64 a,.int .i64 b] w _;go_enter Tryz.func167,Tryz.ntmps167;go_wp2_with fail;rw[HW.out];exact BC
 by_cases h2:op=bW
 ·subst h2;refine .inr ⟨_,eQ (a-b),rfl,rfl,_,_,rfl,fun _ _=>by kernel_rfl,fun w _=>?_⟩;have HW:=aa (show wrap64 (a-b)=a-b from Go.IntWalk.wrap64_in _ (by have h1:=ha.1;have h2:=ha.2;have h3:=hb.1;have h4:=hb.2;omega));show Calls Tryz.prog 168 #[.int .i64 a,.int .i64 b] w _;go_enter Tryz.func168,Tryz.ntmps168;go_wp2_with fail;rw[HW.out];exact BC
 by_cases h3:op=cP
 ·subst h3;refine .inr ⟨_,eQ (a*b),rfl,rfl,_,_,rfl,fun _ _=>by kernel_rfl,fun w _=>?_⟩;have HW:=aa (show wrap64 (a*b)=a*b from Go.IntWalk.wrap64_in _ (by have h1:=ha.1;have h2:=ha.2;have h3:=hb.1;have h4:=hb.2;have:=ZM ha hb;omega));show Calls Tryz.prog 169 #[.int .i64 a,.int .i64 b] w _;go_enter Tryz.func169,Tryz.ntmps169;go_wp2_with fail;rw[HW.out];exact BC
 by_cases h4:op=eO
 ·subst h4;refine .inr ⟨_,if b=0 then(.none,102)else eQ (a.tdiv b),rfl,rfl,_,_,rfl,fun _ _=>by kernel_rfl,fun w hw=>?_⟩;exact PA p 170 (fun _ _=>by kernel_rfl) a b (a.tdiv b) (fun w h=>(ZO a b h w).mono fun e w' ⟨he,hw⟩=>⟨by rw[he,Go.IntWalk.wrap64_in _ (ZN ha hb)],hw⟩) w (bo cp hw)
 by_cases h5:op=eP
 ·subst h5;refine .inr ⟨_,if b=0 then(.none,102)else eQ (a.tmod b),rfl,rfl,_,_,rfl,fun _ _=>by kernel_rfl,fun w hw=>?_⟩;exact PA q 171 (fun _ _=>by kernel_rfl) a b (a.tmod b) (fun w h=>ZP a b h w) w (bo cq hw)
 ·refine .inl ⟨?_,?_⟩
  ·simp[bm,uG,Ne.symm h1,Ne.symm h2,Ne.symm h3,Ne.symm h4,Ne.symm h5]
  ·simp[fB,h1,h2,h3,h4,h5]
theorem nN{w:World}{pt pv:Nat}{T:List Ty}{L:List Lv}(h:bO w pt pv T L)(i:Int):Calls Tryz.prog 72 #[qV pt pv,.int .i64 i] w (Pv w (.int .u8 (aJ T i))):=by
 have H:=aa h;have HK:=aa (show aJ T i=(aF T i).kind from rfl);clear h;dsimp only[qV,qC];go_enter Tryz.func72,Tryz.ntmps72;go_upto_region 1 with(fail);generalize az:w.alloc _=w1;obtain⟨ae,x1,aE⟩:=made az;have B1:=aa ae;have z1:=fun j=>x1.cell j
 clear az ae aE x1;go_wp2_with fail;refine(nO (H.out.later B1.out).tab i).mono ?_;rintro e w2 ⟨s,rfl,_,af⟩;dsimp only[bX];have B2:=aa (B1.out.trans (af.mono B1.out.size));clear af B1;go_wp2_with fail;go_ret;exact⟨rfl,B2.out⟩
theorem qK{w:World}{pt pv:Nat}{T:List Ty}{L:List Lv}(h:bO w pt pv T L)(i:Int):Calls Tryz.prog 104 #[qV pt pv,.int .i64 i] w (Pv w (.int .u8 (bP T i))):=by
 have H:=aa h;clear h;dsimp only[qV,qC];go_enter Tryz.func104,Tryz.ntmps104;go_upto_region 1 with(fail);generalize az:w.alloc _=w1;obtain⟨ae,x1,aE⟩:=made az;have B1:=aa ae;have z1:=fun j=>x1.cell j
 have l1:=x1.lt;clear az ae aE x1;refine bh [6] [] (by kernel_rfl) ?_;refine FQ (Below.refl _ _) [0,1,2,3] ?_;refine FC 4 aG (Below.refl _ _) (fun w4 ab=>(mT ((H.out.later B1.out).later ab).tab i).mono ?_);rintro e w5 ⟨rfl,hb⟩;refine⟨hb,?_⟩;have B5:=aa (ab.trans (hb.mono ab.size));clear hb ab;refine FC 5 aG B5.out (fun w6 aH=>(nN (((H.out.later B1.out).later B5.out).later aH) (aP T i)).mono ?_);rintro e w7 ⟨rfl,hb⟩;refine⟨hb,?_⟩;have B7:=aa (B5.out.trans ((aH.trans (hb.mono aH.size)).mono B5.out.size));clear hb aH;refine cV 6 (by kernel_rfl) (by kernel_rfl) B7.out (fun wr hwr=>?_);refine FA ?_;go_wp2_with fail;go_ret;exact⟨rfl,bb (bb B1.out B7.out) hwr⟩
theorem AF(j:Jd)(w:World):Calls Tryz.prog 97 #[bU j] w (Pv w (.bool (gj j))):=by
 have HV:=aa (show gj j=decide (j.is=1∨j.is=2)from rfl);obtain⟨t,v,i⟩:=j;dsimp only at HV;dsimp only[bU];go_enter Tryz.func97,Tryz.ntmps97;go_upto_region 1 with(fail);generalize az:w.alloc _=w1;obtain⟨ae,x1,aE⟩:=made az;have B1:=aa ae;have z1:=fun j=>x1.cell j
 clear az ae aE x1;by_cases h1:i=1
 ·subst h1;exact Gj
 ·have d1:=beq_eq_false_iff_ne.2 h1;have aq:=aa (show gj ⟨t,v,i⟩=(i==2)by rw[HV.out];by_cases h2:i=2<;>simp[h1,h2]);exact AG
theorem AH{w:World}{pt pv:Nat}{T:List Ty}{L:List Lv}(h:bO w pt pv T L){b:Nat}{x:ao}(hx:bg w b x)(hn:x.kind=2→0<x.kids.length):Calls Tryz.prog 96 #[qV pt pv,.pointer (some ⟨b,0,none⟩)] w (Pv w (.bool (jn (aj T L) x))):=by
 have H:=aa h;have HX:=aa hx;have HN:=aa hn;have HV:=aa (show jn (aj T L) x=(decide (x.kind=2)&&decide ((kid x 0).kind=1)&&(match jL L (kid x 0).name with|some e=>decide (e.kind=7)|none=>false))from rfl);clear h hx hn;dsimp only[qV,qC];go_enter Tryz.func96,Tryz.ntmps96;go_upto_region 1 with(fail);generalize az:w.alloc _=w1;obtain⟨ae,x1,aE⟩:=made az;have B1:=aa ae;have z1:=fun j=>x1.cell j
 have l1:=x1.lt;obtain⟨A,c,k0,_,_,_,k4,hkid⟩:=(HX.out.later ae).cells;have lb:=aQ k0;have HKID:=aa hkid;clear az ae aE x1 hkid;by_cases h2:x.kind=2
 ·rw[h2]at k0;obtain⟨g,o,y,rfl,hc,hp,ht⟩:=HKID.out 0 (HN.out h2);rw[Nat.add_zero]at hp;have lg:=aQ hp;obtain⟨A2,c2,m0,_,m2,_,_,_⟩:=ht.cells;have ly:=aQ m0;have h0:(0:Int)<(x.kids.length:Int):=by have:=HN.out h2;omega
  have h0n:0<x.kids.length:=HN.out h2;clear ht HKID;by_cases h1:(kid x 0).kind=1
  ·rw[h1]at m0;go_upto_region 3 with(fail);refine bh [16,17] [⟨15,5,wL,74⟩] (by kernel_rfl) ?_;refine FQ (Below.refl _ _) [0,1,2,3,4,5,6,7,8,9,10] ?_;refine FC 11 (cr lT) (Below.refl _ _) (fun w4 ab=>(AI ((H.out.later B1.out).later ab).env (kid x 0).name).mono ?_);rintro e w5 ⟨en,q,rfl,hq,hb⟩;refine⟨hb,?_⟩;have B5:=aa (ab.trans (hb.mono ab.size));have HQ:=aa hq;clear hb ab hq;dsimp only[eG];refine FS (cr lT) B5.out [12,13,14] ?_;refine fU 16 (by kernel_rfl) lT (by kernel_rfl) B5.out rfl rfl rfl rfl (fun _=>rfl) (fun _=>rfl) info74 rfl (AJ en) (fun b6 w6 aD x6 aH _=>?_);refine FA ?_;have B6:=aa (B1.out.trans (aH.mono B1.out.size));have z6:=fun j=>x6.cell j
   have l6:=x6.lt;clear x6 aH;have d2:decide (x.kind=2)=true:=decide_eq_true h2;have d1:decide ((kid x 0).kind=1)=true:=decide_eq_true h1;have hv:=HV.out;rw[d2,d1,Bool.true_and,Bool.true_and]at hv;rcases HQ.out with⟨rfl,hf,rfl⟩|⟨rfl,hf⟩
   ·rw[hf]at hv;have aq:=aa hv;clear hv HV HQ d1 d2;exact AK
   ·rw[hf]at hv;have aq:=aa hv;clear hv HV HQ d1 d2;exact AK
  ·have d1:=beq_eq_false_iff_ne.2 h1;have aq:=aa (show jn (aj T L) x=false by rw[HV.out];simp[h1]);exact AG
 ·have d2:=beq_eq_false_iff_ne.2 h2;have aq:=aa (show jn (aj T L) x=false by rw[HV.out];simp[h2]);exact AG
theorem Gk{w:World}{pt pv:Nat}{T:List Ty}{L:List Lv}(h:bO w pt pv T L){b:Nat}{x:ao}(hx:bg w b x):Calls Tryz.prog 108 #[qV pt pv,.pointer (some ⟨b,0,none⟩)] w (Pv w (.bool (eN (aj T L) x))):=by
 have H:=aa h;have HX:=aa hx;have HV:=aa (show eN (aj T L) x=if x.kind≠1 then true else match jL L x.name with|some e=>decide (e.level=0)|none=>true from rfl);clear h hx;dsimp only[qV,qC];go_enter Tryz.func108,Tryz.ntmps108;go_upto_region 1 with(fail);generalize az:w.alloc _=w1;obtain⟨ae,x1,aE⟩:=made az;have B1:=aa ae;have z1:=fun j=>x1.cell j
 have l1:=x1.lt;obtain⟨A,c,k0,_,k2,_,_,hkid⟩:=(HX.out.later ae).cells;have lb:=aQ k0;clear az ae aE x1 hkid;by_cases h1:x.kind=1
 ·rw[h1]at k0;go_upto_region 3 with(fail);refine bh [11,12] [⟨10,5,wL,74⟩] (by kernel_rfl) ?_;refine FQ (Below.refl _ _) [0,1,2,3,4,5] ?_;refine FC 6 (cr lT) (Below.refl _ _) (fun w4 ab=>(AI ((H.out.later B1.out).later ab).env x.name).mono ?_);rintro e w5 ⟨en,q,rfl,hq,hb⟩;refine⟨hb,?_⟩;have B5:=aa (ab.trans (hb.mono ab.size));have HQ:=aa hq;clear hb ab hq;dsimp only[eG];refine FS (cr lT) B5.out [7,8,9] ?_;refine fU 11 (by kernel_rfl) lT (by kernel_rfl) B5.out rfl rfl rfl rfl (fun _=>rfl) (fun _=>rfl) info74 rfl (AJ en) (fun b6 w6 aD x6 aH _=>?_);refine FA ?_;have B6:=ah B1 aH;have z6:=fun j=>x6.cell j
  have l6:=x6.lt;clear x6 aH;have hv:=HV.out;rw[if_neg (by simp[h1])]at hv;rcases HQ.out with⟨rfl,hf,rfl⟩|⟨rfl,hf⟩
  ·rw[hf]at hv;have aq:=aa hv;clear hv HV HQ;exact AK
  ·rw[hf]at hv;have aq:=aa hv;clear hv HV HQ;exact AK
 ·have d1:=beq_eq_false_iff_ne.2 h1;have aq:=aa (show eN (aj T L) x=true by rw[HV.out,if_pos h1]);exact AG
theorem uz{w:World}{pt pv:Nat}{T:List Ty}{L:List Lv}(h:bO w pt pv T L)(j:Jd)(hv:Vw j.val)(i:Int):Calls Tryz.prog 102 #[qV pt pv,bU j,.int .i64 i] w (Pv w (.bool (eh T j.val i))):=by
 have H:=aa h;obtain⟨jt,v,js⟩:=j;have HVW:=aa (show Vw v from hv);have HV:=aa (show eh T v i=(match aR v with|some n=>decide ((rangeT T i).1≤n)&&decide (n≤(rangeT T i).2.1)|none=>true)from rfl);have HR:=aa (fun w (h:cF w pt T)=>uA h i);generalize rangeT T i=rg at *;obtain⟨lo,hi,is⟩:=rg;clear h hv;dsimp only[qV,qC,bU];go_enter Tryz.func102,Tryz.ntmps102;go_upto_region 1 with(fail);generalize az:w.alloc _=w1;obtain⟨ae,x1,aE⟩:=made az;generalize aU:w1.alloc _=w2;obtain⟨af,x2,bu⟩:=made aU;rw[aE]at x2;have B2:=aa (bb ae af);have X1:=aa (x1.grow af);have z1:=X1.out.cell;have z2:=fun j=>x2.cell j
 clear az ae aE x1 aU af bu x2;go_wp2_with fail;refine(eH v HVW.out w2).mono ?_;rintro e w3 ⟨rfl,ad⟩;have X3:=aa (X1.out.grow ad);have B3:=ah B2 ad;have y1:=X3.out.cell;have l1:=X3.out.lt;clear ad z1 z2 X1 B2;go_wp2_with fail;refine(HR.out _ (H.out.later B3.out).tab).mono ?_;rintro e w4 ⟨rfl,aw⟩;have B4:=ah B3 aw;clear aw B3 X3 y1 l1 HR;cases hn:aR v with
 |none=>
  have aq:=aa (show eh T v i=true by rw[HV.out,hn]);clear hn HV;dsimp only[Option.getD,Option.isSome];go_wp2_with fail;go_ret;exact⟨by rw[aq.out];rfl,B4.out⟩
 |some n=>
  have hv:=HV.out;rw[hn]at hv;have aq:=aa (show eh T v i=(decide (lo≤n)&&decide (n≤hi))from hv);clear hn HV hv;dsimp only[Option.getD,Option.isSome];by_cases h1:lo≤n
  ·by_cases h2:n≤hi
   ·exact NL
   ·exact NL
  ·go_wp2_with fail;go_ret;exact⟨by rw[aq.out,decide_eq_false (by omega:¬lo≤n)];rfl,B4.out⟩
theorem YR{T:List Ty}{t:Int}{v:aL}{s i:Int}(h:jo v=([],false)):bG T ⟨t,v,s⟩ i=⟨t,v,s⟩:=by
 cases v<;>first|rfl|(rename_i s';cases h)
theorem NM{T:List Ty}{t:Int}{l:List UInt8}{s i:Int}(h:¬(t=6∧l.length=1∧bP T i=4)):bG T ⟨t,.str l,s⟩ i=⟨t,.str l,s⟩:=by
 match l with
 |[]=>rfl
 |[c]=>exact if_neg fun hh=>h ⟨hh.1,rfl,hh.2⟩
 |_::_::_=>rfl
theorem qL{w:World}{pt pv:Nat}{T:List Ty}{L:List Lv}(h:bO w pt pv T L)(j:Jd)(i:Int):Calls Tryz.prog 100 #[qV pt pv,bU j,.int .i64 i] w (Pv w (bU (bG T j i))):=by
 have H:=aa h;obtain⟨jt,v,js⟩:=j;clear h;dsimp only[qV,qC,bU];go_enter Tryz.func100,Tryz.ntmps100;go_upto_region 1 with(fail);generalize az:w.alloc _=w1;obtain⟨ae,x1,aE⟩:=made az;generalize aU:w1.alloc _=w2;obtain⟨af,x2,bu⟩:=made aU;generalize cU:w2.alloc _=w3;obtain⟨ad,x3,iv⟩:=made cU;rw[bu,aE]at x3;rw[aE]at x2;have B3:=aa (bb (bb ae af) ad);have X1:=aa ((x1.grow af).grow ad);have X2:=aa (x2.grow ad);have X3:=aa x3;have z1:=X1.out.cell;have z2:=X2.out.cell;have z3:=X3.out.cell;have f3:=X3.out.frozen;have l3:=X3.out.lt;clear az ae aE x1 aU af bu x2 cU ad iv x3;by_cases ha:jo v=([],false)
 ·have HV:=aa (YR (T:=T) (t:=jt) (s:=js) (i:=i) ha);go_wp2_with fail;rw[HV.out];exact uy rfl ⟨jt,v,js⟩ X3.out B3.out (by omega) rfl rfl
 obtain⟨s,rfl⟩:∃s,v=.str s:=by
  cases v<;>first|exact⟨_,rfl⟩|exact absurd rfl ha
 clear ha;by_cases h6:jt=6
 ·subst h6
  match s with
  |[c]=>
   go_wp2_with fail;refine(qK (H.out.later B3.out) i).mono ?_;rintro e w4 ⟨rfl,aw⟩;have B4:=ah B3 aw;have X4:=aa (X3.out.grow aw);have X5:=aa (X2.out.grow aw);have y3:=X4.out.cell;have y2:=X5.out.cell;have g3:=X4.out.frozen;have m3:=X4.out.lt;clear aw z1 z2 z3 f3;by_cases hk:bP T i=4
   ·have HV:=aa (show bG T ⟨6,.str [c],js⟩ i=⟨4,.letter c.toNat,0⟩from if_pos ⟨rfl,hk⟩);rw[hk];go_wp2_with fail;rw[HV.out];exact uy rfl ⟨4,.letter c.toNat,0⟩ X4.out B4.out (by omega) rfl rfl
   ·have HV:=aa (NM (T:=T) (t:=6) (l:=[c]) (s:=js) (i:=i) (by simp[hk]));have dk:=beq_eq_false_iff_ne.2 hk;go_wp2_with fail;rw[HV.out];exact uy rfl ⟨6,.str [c],js⟩ X4.out B4.out (by omega) rfl rfl
  |[]=>
   go_wp2_with fail;exact uy rfl ⟨6,.str [],js⟩ X3.out B3.out (by omega) rfl rfl
  |a::b::l=>
   go_wp2_with fail;exact uy rfl ⟨6,.str (a::b::l),js⟩ X3.out B3.out (by omega) rfl rfl
 ·have HV:=aa (NM (T:=T) (t:=jt) (l:=s) (s:=js) (i:=i) (by simp[h6]));have d6:=beq_eq_false_iff_ne.2 h6;go_wp2_with fail;rw[HV.out];exact uy rfl ⟨jt,.str s,js⟩ X3.out B3.out (by omega) rfl rfl
theorem wM{w:World}{pt pv:Nat}{T:List Ty}{L:List Lv}(h:bO w pt pv T L){b:Nat}{x:ao}(hx:bg w b x)(t:Int)(v:aL)(er:Int)(hv:er=0→Vw v):Calls Tryz.prog 107 #[qV pt pv,.pointer (some ⟨b,0,none⟩),.int .i64 t,aK v,.int .i64 er] w (jN w (cS T x t (v,er))):=by
 have H:=aa h;have HX:=aa hx;have HVW:=aa hv;clear h hx hv;dsimp only[qV,qC];go_enter Tryz.func107,Tryz.ntmps107;go_upto_region 1 with(fail);generalize az:w.alloc _=w1;obtain⟨ae,x1,aE⟩:=made az;generalize aU:w1.alloc _=w2;obtain⟨af,x2,bu⟩:=made aU;rw[aE]at x2;have B2:=aa (bb ae af);have X1:=aa (x1.grow af);have X2:=aa x2;clear az ae aE x1 aU af bu x2;by_cases he:er=0
 ·subst he;have HVZ:=aa (HVW.out rfl);clear HVW;have HF:=aa (show cS T x t (v,0)=if bE T t&& !eh T v t then .error (x.pos,254)else .ok ⟨t,v,0⟩from if_neg (by simp));go_wp2_with fail;refine(iI true (HX.out.later B2.out) 254).mono ?_;rintro e w3 ⟨rfl,rfl⟩;go_upto_region 3 with(fail);generalize cU:w2.alloc _=w3;obtain⟨ad,x3,iv⟩:=made cU;have B3:=ah B2 ad;have Y1:=aa (X1.out.grow ad);have Y2:=aa (X2.out.grow ad);have Y3:=aa x3;have z1:=Y1.out.cell;have z3:=Y3.out.cell;clear cU ad x3 iv X1 X2 B2;go_wp2_with fail;refine(lU (H.out.later B3.out).tab t).mono ?_;rintro e w4 ⟨rfl,aw⟩;have B4:=ah B3 aw;have V1:=aa (Y1.out.grow aw);have V2:=aa (Y2.out.grow aw);have V3:=aa (Y3.out.grow aw);have z1:=V1.out.cell;have z2:=V2.out.cell;have f2:=V2.out.frozen;have z3:=V3.out.cell;have l2:=V2.out.lt;have l3:=V3.out.lt;clear aw Y1 Y2 Y3 B3;cases hn:bE T t
  ·have HV:=aa (show cS T x t (v,0)=.ok ⟨t,v,0⟩by rw[HF.out,hn];rfl);clear hn HF;go_wp2_with fail;refine(iI true (HX.out.later B4.out) 254).mono ?_;rintro e w5 ⟨rfl,rfl⟩;go_wp2_with fail;exact ef rfl ⟨t,v,0⟩ V2.out B4.out (by omega) rfl rfl HV.out (HVZ.out)
  ·have gG:=aa (show cS T x t (v,0)=if !eh T v t then .error (x.pos,254)else .ok ⟨t,v,0⟩by rw[HF.out,hn,Bool.true_and]);clear hn HF;go_wp2_with fail;refine(uz (H.out.later B4.out) ⟨t,v,0⟩ (HVZ.out) t).mono ?_;rintro e w5 ⟨rfl,au⟩;have B5:=ah B4 au;have U2:=aa (V2.out.grow au);have U3:=aa (V3.out.grow au);have z2:=U2.out.cell;have f2:=U2.out.frozen;have z3:=U3.out.cell;have l2:=U2.out.lt;have l3:=U3.out.lt;clear au V1 V2 V3 B4;dsimp only;cases hw:eh T v t
   ·have HV:=aa (show cS T x t (v,0)=.error (x.pos,254)by rw[gG.out,hw];rfl);clear hw gG;go_wp2_with fail;refine(iI false (HX.out.later B5.out) 254).mono ?_;rintro e w6 ⟨rfl,rfl⟩;exact bj HV.out B5.out rfl
   ·have HV:=aa (show cS T x t (v,0)=.ok ⟨t,v,0⟩by rw[gG.out,hw];rfl);clear hw gG;go_wp2_with fail;refine(iI true (HX.out.later B5.out) 254).mono ?_;rintro e w6 ⟨rfl,rfl⟩;go_wp2_with fail;exact ef rfl ⟨t,v,0⟩ U2.out B5.out (by omega) rfl rfl HV.out (HVZ.out)
 ·have HV:=aa (show cS T x t (v,er)=.error (x.pos,254)from if_pos he);have d0:=beq_eq_false_iff_ne.2 he;go_wp2_with fail;refine(iI false (HX.out.later B2.out) 254).mono ?_;rintro e w3 ⟨rfl,rfl⟩;exact bj HV.out B2.out rfl
end Go.Proofs.YtlpombjidhloiaaGreat
