/- konst. The judge's parts upon expressions. Condition: what each theorem says. -/
import Derived.Test.YtlpombjidhloiaaGreatBac
import Derived.Test.YtlpombjidhloiaaGreatBad
import Derived.Test.YtlpombjidhloiaaGreatBae
import Derived.Test.YtlpombjidhloiaaGreatBaa
import Derived.Test.YtlpombjidhloiaaGreatBab
namespace Go.Proofs.YtlpombjidhloiaaGreat
open Go.RowKit
theorem aac(op:List UInt8)(a b:aL)(hx:∃p,aT a=.truth p)(ha:Vw a)(hb:Vw b)(w:World):Calls Tryz.prog 111 #[.string ⟨op.toArray⟩,aK a,aK b] w (kM w (bC op a b)):=by
 obtain⟨p,hp⟩:=hx;cases hal:dz (aT a) (aT b)with
 |false=>exact aad op a b hal ⟨p,hp⟩ ha hb w
 |true=>
  rw[hp]at hal;cases hB:aT b with
  |truth q=>
   cases p<;>cases q
   ·exact aae op a b hp hB ha hb w
   ·exact aaf op a b hp hB ha hb w
   ·exact aag op a b hp hB ha hb w
   ·exact aah op a b hp hB ha hb w
  |_=>rw[hB]at hal;exact absurd (show false=true from hal) (by decide)
theorem aak(op:List UInt8)(a b:aL)(ha:Vw a)(hb:Vw b)(w:World):Calls Tryz.prog 111 #[.string ⟨op.toArray⟩,aK a,aK b] w (kM w (bC op a b)):=by
 cases h:aT a with
 |bits x=>exact ZX op a b ⟨x,h⟩ ha hb w
 |none=>exact aaa op a b h ha hb w
 |str s=>exact aab op a b ⟨s,h⟩ ha hb w
 |whole n=>exact aai op a b ⟨n,h⟩ ha hb w
 |letter c=>exact ZZ op a b ⟨c,h⟩ ha hb w
 |item u n=>exact ZY op a b ⟨u,n,h⟩ ha hb w
 |null=>exact aaj op a b h ha hb w
 |truth p=>exact aac op a b ⟨p,h⟩ ha hb w
end Go.Proofs.YtlpombjidhloiaaGreat
namespace Go.Proofs.YtlpombjidhloiaaGreat
open Go.RowKit
set_option maxRecDepth 100000
attribute [local go_sem ↓] Go.wp_at_zero Go.wp_at_succ
theorem YZ(a b:List UInt8):((⟨a.toArray⟩:ByteArray)==⟨b.toArray⟩)=decide (a=b):=qM a b
attribute [local go_sem] YZ
set_option maxHeartbeats 8000000 in
theorem Ot{w:World}{pt pv:Nat}{T:List Ty}{L:List Lv}(h:bO w pt pv T L)(op:List UInt8)(a b:Int):Calls Tryz.prog 109 #[qV pt pv,.string ⟨op.toArray⟩,.int .i64 a,.int .i64 b] w (Pv w (.bool (cM T op a b))):=by
 have H:=aa h;have HV:=aa (show cM T op a b=(if !ey T a b then false else if op=bV∨op=bW∨op=cP then(bE T a&&bE T b)||(decide (aJ T a=13)&&decide (aJ T b=13))else if op=fe then(decide (aJ T a=13)&&decide (aJ T b=13))else if op=eO∨op=eP then(bE T a&&bE T b)else if op=bQ∨op=bR then decide (bP T a=3)&&decide (bP T b=3)else if op=gm∨op=gn then(bH T a&&bH T b)else if op=fw∨op=fy then(bH T a&&bH T b)||(decide (aJ T a=13)&&decide (aJ T b=13))else(bH T a&&bH T b)||(decide (aJ T a=13)&&decide (aJ T b=13))||(lV (aJ T a)&&lV (aJ T b)))from rfl);clear h;dsimp only[qV,qC];go_enter Tryz.func109,Tryz.ntmps109;go_upto_region 1 with(fail);generalize az:w.alloc _=w1;obtain⟨ae,x1,aE⟩:=made az;have B1:=aa ae;have X1:=aa x1;have z1:=X1.out.cell;have l1:=X1.out.lt;clear az ae aE x1;go_wp2_with fail;refine(wO (H.out.later B1.out).tab a b).mono ?_;rintro e w2 ⟨rfl,af⟩;have B2:=ah B1 af;have X1:=aa (X1.out.grow af);clear af;have z1:=X1.out.cell;have l1:=X1.out.lt;cases hc:ey T a b
 ·have aq:=aa (show cM T op a b=false by rw[HV.out,hc];rfl);clear hc HV;go_wp2_with fail;go_ret;exact⟨by rw[aq.out];rfl,B2.out⟩
 have hv:=HV.out;rw[hc,if_neg (by decide)]at hv;have aq:=aa hv;clear hc hv HV;go_upto_region 3 with(fail);refine bh [7] [] (by kernel_rfl) ?_;refine FQ (Below.refl _ _) [0,1,3,4] ?_;refine FC 2 aG (Below.refl _ _) (fun w4 ab=>(nN ((H.out.later B2.out).later ab) a).mono ?_);rintro e w3 ⟨rfl,ad⟩;refine⟨ad,?_⟩;have C3:=aa (bb ab ad);clear ad ab;refine FC 5 aG C3.out (fun w4 ab=>(nN ((H.out.later B2.out).later (bb C3.out ab)) b).mono ?_);rintro e w5 ⟨rfl,au⟩;refine⟨au,?_⟩;have C5:=aa (bb C3.out (bb ab au));clear au ab C3;refine FS aG C5.out [6] ?_;refine cV 7 (by kernel_rfl) (by kernel_rfl) C5.out (fun wr hwr=>?_);refine FA ?_;have aD:=bb C5.out hwr;have B6:=ah B2 aD;have X1:=aa (X1.out.grow aD);clear aD;have z1:=X1.out.cell;have l1:=X1.out.lt;clear hwr C5;generalize aJ T a=ka at *;generalize aJ T b=kb at *;go_upto_region 4 with(fail);have HOa:=aa (fun w (h:cF w pt T)=>mV h a);have HOb:=aa (fun w (h:cF w pt T)=>mV h b);have HNa:=aa (fun w (h:cF w pt T)=>lU h a);have HNb:=aa (fun w (h:cF w pt T)=>lU h b);generalize bH T a=oa at *;generalize bH T b=ob at *;generalize bE T a=na at *;generalize bE T b=nb at *;generalize hoo:(oa&&ob)=oo at *;generalize hnn:(na&&nb)=nn at *;generalize hss:(decide (ka=13)&&decide (kb=13))=ss at *;have HOO:=aa hoo;have HNN:=aa hnn;have HSS:=aa hss;clear hoo hnn hss;go_cut [11,12,13] (fun u v x w'=>u=.bool oo∧v=.bool nn∧x=.bool ss∧Below wr.heap.size wr w');case first=>
  clear aq;by_cases h13:ka=13;case pos=>
   subst h13;refine bh [28] [] (by kernel_rfl) ?_;refine FQ (Below.refl _ _) [0,1,2,10,11,12,20,21] ?_;refine FC 3 aG (Below.refl _ _) (fun w4 ab=>(HOa.out _ ((H.out.later B6.out).later ab).tab).mono ?_);rintro e w7 ⟨rfl,aC⟩;refine⟨aC,?_⟩;have C7:=aa (bb ab aC);clear aC ab;have B7:=aa (bb B6.out C7.out);have X6:=aa X1.out;have X1:=aa (X1.out.grow C7.out);have z1:=X1.out.cell;have l1:=X1.out.lt;cases oa;case true=>
    refine FS aG C7.out [4,7,5,6] ?_;refine FC 8 aG C7.out (fun w4 ab=>(HOb.out _ ((H.out.later B6.out).later (bb C7.out ab)).tab).mono ?_);rintro e w8 ⟨rfl,aB⟩;refine⟨aB,?_⟩;have C8:=aa (bb C7.out (bb ab aB));clear aB ab C7;exact Ou
   case false=>
    refine FS aG C7.out [4,7,5,6] ?_;refine FN 8 aG C7.out ?_;have C8:=aa C7.out;clear C7;exact Ou
  case neg=>
   have d13:=beq_eq_false_iff_ne.2 h13;refine bh [28] [] (by kernel_rfl) ?_;refine FQ (Below.refl _ _) [0,1,2,10,11,12,20,21] ?_;refine FC 3 aG (Below.refl _ _) (fun w4 ab=>(HOa.out _ ((H.out.later B6.out).later ab).tab).mono ?_);rintro e w7 ⟨rfl,aC⟩;refine⟨aC,?_⟩;have C7:=aa (bb ab aC);clear aC ab;have B7:=aa (bb B6.out C7.out);have X6:=aa X1.out;have X1:=aa (X1.out.grow C7.out);have z1:=X1.out.cell;have l1:=X1.out.lt;cases oa;case true=>
    refine FS aG C7.out [4,7,5,6] ?_;refine FC 8 aG C7.out (fun w4 ab=>(HOb.out _ ((H.out.later B6.out).later (bb C7.out ab)).tab).mono ?_);rintro e w8 ⟨rfl,aB⟩;refine⟨aB,?_⟩;have C8:=aa (bb C7.out (bb ab aB));clear aB ab C7;exact Ov
   case false=>
    refine FS aG C7.out [4,7,5,6] ?_;refine FN 8 aG C7.out ?_;have C8:=aa C7.out;clear C7;exact Ov
 case rest=>
 obtain⟨rfl,rfl,rfl,hbc⟩:=hcut;have Bc:=ah B6 hbc;have X1:=aa (X1.out.grow hbc);clear hbc;have z1:=X1.out.cell;have l1:=X1.out.lt;clear HOO HNN HSS HOa HOb HNa HNb;by_cases hoAdd:op=bV
 ·subst hoAdd;dsimp only[bV];cases nn
  ·have ar:=aa (show cM T bV a b=ss by rw[aq.out];simp[bV,bW,cP]);exact kj
  ·have ar:=aa (show cM T bV a b=true by rw[aq.out];simp[bV,bW,cP]);exact kj
 by_cases hoSub:op=bW
 ·subst hoSub;dsimp only[bW];cases nn
  ·have ar:=aa (show cM T bW a b=ss by rw[aq.out];simp[bV,bW,cP]);exact kj
  ·have ar:=aa (show cM T bW a b=true by rw[aq.out];simp[bV,bW,cP]);exact kj
 by_cases hoMul:op=cP
 ·subst hoMul;dsimp only[cP];cases nn
  ·have ar:=aa (show cM T cP a b=ss by rw[aq.out];simp[bV,bW,cP]);exact kj
  ·have ar:=aa (show cM T cP a b=true by rw[aq.out];simp[bV,bW,cP]);exact kj
 by_cases hoQuo:op=fe
 ·subst hoQuo;dsimp only[fe];have ar:=aa (show cM T fe a b=ss by rw[aq.out];simp[bV,bW,cP,fe]);exact kj
 by_cases hoDiv:op=eO
 ·subst hoDiv;dsimp only[eO];have ar:=aa (show cM T eO a b=nn by rw[aq.out];simp[bV,bW,cP,fe,eO,eP]);exact kj
 by_cases hoMod:op=eP
 ·subst hoMod;dsimp only[eP];have ar:=aa (show cM T eP a b=nn by rw[aq.out];simp[bV,bW,cP,fe,eO,eP]);exact kj
 by_cases hoAnd:op=bQ
 ·subst hoAnd;dsimp only[bQ];have ar:=aa (show cM T bQ a b=(decide (bP T a=3)&&decide (bP T b=3))by rw[aq.out];simp[bV,bW,cP,fe,eO,eP,bQ,bR]);clear aq;go_wp2_with fail;refine(qK (H.out.later Bc.out) a).mono ?_;rintro e wd ⟨rfl,hbd⟩;have Bd:=ah Bc hbd;have X1:=aa (X1.out.grow hbd);clear hbd;have z1:=X1.out.cell;have l1:=X1.out.lt;by_cases h3:bP T a=3
  ·rw[h3];have aA:=aa (show cM T bQ a b=(bP T b==3)by rw[ar.out,h3];by_cases h:bP T b=3<;>simp[h]);exact Ow
  ·have aA:=aa (show cM T bQ a b=false by rw[ar.out,decide_eq_false h3];rfl);exact Ox
 by_cases hoOr:op=bR
 ·subst hoOr;dsimp only[bR];have ar:=aa (show cM T bR a b=(decide (bP T a=3)&&decide (bP T b=3))by rw[aq.out];simp[bV,bW,cP,fe,eO,eP,bQ,bR]);clear aq;go_wp2_with fail;refine(qK (H.out.later Bc.out) a).mono ?_;rintro e wd ⟨rfl,hbd⟩;have Bd:=ah Bc hbd;have X1:=aa (X1.out.grow hbd);clear hbd;have z1:=X1.out.cell;have l1:=X1.out.lt;by_cases h3:bP T a=3
  ·rw[h3];have aA:=aa (show cM T bR a b=(bP T b==3)by rw[ar.out,h3];by_cases h:bP T b=3<;>simp[h]);exact Ow
  ·have aA:=aa (show cM T bR a b=false by rw[ar.out,decide_eq_false h3];rfl);exact Ox
 by_cases hoLt:op=gm
 ·subst hoLt;dsimp only[gm];have ar:=aa (show cM T gm a b=oo by rw[aq.out];simp[bV,bW,cP,fe,eO,eP,bQ,bR,gm,gn]);exact kj
 by_cases hoGt:op=gn
 ·subst hoGt;dsimp only[gn];have ar:=aa (show cM T gn a b=oo by rw[aq.out];simp[bV,bW,cP,fe,eO,eP,bQ,bR,gm,gn]);exact kj
 by_cases hoLe:op=fw
 ·subst hoLe;dsimp only[fw];cases oo
  ·have ar:=aa (show cM T fw a b=ss by rw[aq.out];simp[bV,bW,cP,fe,eO,eP,bQ,bR,gm,gn,fw,fy]);exact kj
  ·have ar:=aa (show cM T fw a b=true by rw[aq.out];simp[bV,bW,cP,fe,eO,eP,bQ,bR,gm,gn,fw,fy]);exact kj
 by_cases hoGe:op=fy
 ·subst hoGe;dsimp only[fy];cases oo
  ·have ar:=aa (show cM T fy a b=ss by rw[aq.out];simp[bV,bW,cP,fe,eO,eP,bQ,bR,gm,gn,fw,fy]);exact kj
  ·have ar:=aa (show cM T fy a b=true by rw[aq.out];simp[bV,bW,cP,fe,eO,eP,bQ,bR,gm,gn,fw,fy]);exact kj
 have doAdd:(op==[43])=false:=beq_eq_false_iff_ne.2 hoAdd;have doSub:(op==[45])=false:=beq_eq_false_iff_ne.2 hoSub;have doMul:(op==[42])=false:=beq_eq_false_iff_ne.2 hoMul;have doQuo:(op==[47])=false:=beq_eq_false_iff_ne.2 hoQuo;have doDiv:(op==[68,73,86])=false:=beq_eq_false_iff_ne.2 hoDiv;have doMod:(op==[77,79,68])=false:=beq_eq_false_iff_ne.2 hoMod;have doAnd:(op==[65,78,68])=false:=beq_eq_false_iff_ne.2 hoAnd;have doOr:(op==[79,82])=false:=beq_eq_false_iff_ne.2 hoOr;have doLt:(op==[60])=false:=beq_eq_false_iff_ne.2 hoLt;have doGt:(op==[62])=false:=beq_eq_false_iff_ne.2 hoGt;have doLe:(op==[60,61])=false:=beq_eq_false_iff_ne.2 hoLe;have doGe:(op==[62,61])=false:=beq_eq_false_iff_ne.2 hoGe;have ar:=aa (show cM T op a b=(oo||ss||(lV ka&&lV kb))by
  rw[aq.out,if_neg (by rintro(h|h|h)<;>contradiction),if_neg hoQuo,if_neg (by rintro(h|h)<;>contradiction),if_neg (by rintro(h|h)<;>contradiction),if_neg (by rintro(h|h)<;>contradiction),if_neg (by rintro(h|h)<;>contradiction)])
 clear aq hoAdd hoSub hoMul hoQuo hoDiv hoMod hoAnd hoOr hoLt hoGt hoLe hoGe;cases oo
 ·cases ss
  ·go_wp2_with fail;refine(Oa ka wc).mono ?_;rintro e wd ⟨rfl,rfl⟩;cases hpa:lV ka
   ·have aA:=aa (show cM T op a b=false by rw[ar.out,hpa];rfl);go_wp2_with fail;go_ret;exact⟨by rw[aA.out];rfl,Bc.out⟩
   ·have aA:=aa (show cM T op a b=lV kb by rw[ar.out,hpa];rfl);go_wp2_with fail;refine(Oa kb wc).mono ?_;rintro e we ⟨rfl,rfl⟩;go_wp2_with fail;go_ret;exact⟨by rw[aA.out];rfl,Bc.out⟩
  ·go_wp2_with fail;go_ret;exact⟨by rw[ar.out];rfl,Bc.out⟩
 ·go_wp2_with fail;go_ret;exact⟨by rw[ar.out];rfl,Bc.out⟩
@[go_sem] theorem aiV(b:Bool)(w:World):(Instr.makeInterface 97 (.bool b)).run Tryz.prog w=.ok (aK (.truth b)) w:=by kernel_rfl
@[go_sem] theorem aiW(t n:Int)(w:World):(Instr.makeInterface 105 (.agg #[.int .i64 t,.int .i64 n])).run Tryz.prog w=.ok (aK (.item t n)) w:=by kernel_rfl
@[go_sem] theorem aiX(a b:List UInt8):((⟨a.toArray⟩:ByteArray)==⟨b.toArray⟩)=decide (a=b):=qM a b
def ZJ(w:World)(r:aL×Int):Ending→World→Prop:=Pv w (.tuple #[aK r.1,.int .i64 r.2])
theorem Ze(op:List UInt8)(v:aL)(hv:Vw v)(w:World):Calls Tryz.prog 106 #[.string ⟨op.toArray⟩,aK v] w (ZJ w (jO op v)):=by
 have HV:=aa hv;by_cases h1:op=bV
 ·subst h1;dsimp only[bV];cases v with
  |whole n=>
   have HR:=aa (show jO [43] (.whole n)=(.whole n,0)by have h:=hv;simp[jO,bV,bW,dm,h.1,h.2]);go_enter Tryz.func106,Tryz.ntmps106;go_wp2_with fail;refine(fA _ HV.out _).mono ?_;rintro e w1 ⟨rfl,hb⟩;have HB:=aa hb;clear hb;rw[GD HV.out];go_wp2_with fail;go_ret2;exact⟨by rw[HR.out];rfl,HB.out⟩
  |_=>
   exact Bv
 by_cases h2:op=bW
 ·subst h2;dsimp only[bW];cases v with
  |whole n=>
   have HR:=aa (show jO [45] (.whole n)=eQ (-n)by have h:=hv;simp[jO,bV,bW,dm,h.1,h.2]);have HN:=aa (show wrap64 (-n)= -n from Go.IntWalk.wrap64_in _ (by have h:=hv;have:=h.1;have:=h.2;omega));go_enter Tryz.func106,Tryz.ntmps106;go_wp2_with fail;refine(fA _ HV.out _).mono ?_;rintro e w1 ⟨rfl,hb⟩;have HB:=aa hb;clear hb;rw[GD HV.out];go_wp2_with fail;rw[HN.out];refine(GB _ _).mono ?_;rintro e w2 ⟨rfl,rfl⟩;go_wp2_with fail;go_ret2;exact⟨by rw[HR.out];rfl,HB.out⟩
  |_=>
   exact Bv
 by_cases h3:op=pz
 ·subst h3;dsimp only[pz];cases v with
  |truth b=>
   exact Bv
  |_=>
   exact Bv
 ·have HR:=aa (show jO op v=(.none,103)by unfold jO;rw[if_neg (by simp[h1,h2]),if_neg h3]);have d1:¬op=[43]:=h1;have d2:¬op=[45]:=h2;have d3:¬op=[78,79,84]:=h3;have b1:(op==[43])=false:=beq_eq_false_iff_ne.2 d1;have b2:(op==[45])=false:=beq_eq_false_iff_ne.2 d2;have b3:(op==[78,79,84])=false:=beq_eq_false_iff_ne.2 d3;clear h1 h2 h3;go_enter Tryz.func106,Tryz.ntmps106;go_wp2_with fail;go_ret2;exact⟨by rw[HR.out];rfl,Below.refl _ _⟩
theorem GA(t n:Int)(w:World):Calls Tryz.prog 114 #[.int .i64 t,.int .i64 n] w (fun e w'=>e=.returned (aK (cR t n))∧w=w'):=by
 by_cases h1:t=1∨t=2∨t=5
 ·have HR:=aa (show cR t n=(eQ n).1 from if_pos h1);rcases h1 with rfl|rfl|rfl
  all_goals
   go_enter Tryz.func114,Tryz.ntmps114;go_wp2_with fail;refine(GB _ _).mono ?_;rintro e w2 ⟨rfl,rfl⟩;go_wp2_with fail;go_ret;exact⟨by rw[HR.out];rfl,rfl⟩
 by_cases h3:t=3
 ·subst h3;by_cases n0:n=0
  ·subst n0;go_enter Tryz.func114,Tryz.ntmps114;exact iW
  by_cases n1:n=1
  ·subst n1;go_enter Tryz.func114,Tryz.ntmps114;exact iW
  ·have HR:=aa (show cR 3 n=.none by unfold cR;rw[if_neg (by decide),if_pos rfl,if_neg n0,if_neg n1]);have d0:=beq_eq_false_iff_ne.2 n0;have d1:=beq_eq_false_iff_ne.2 n1;clear n0 n1;exact uF
 by_cases h4:t=4
 ·subst h4;by_cases hn:0≤n∧n≤255
  ·obtain⟨k,rfl⟩:∃k:Nat,n=k:=⟨n.toNat,by omega⟩;have HR:=aa (show cR 4 (k:Int)=.letter k by unfold cR;rw[if_neg (by decide),if_neg (by decide),if_pos rfl,if_pos hn];simp);have e1:=hn.1;have e2:=hn.2;have HW:=aa (show(k:Int)% 256=k by omega);clear hn;exact uF
  ·have HR:=aa (show cR 4 n=.none by unfold cR;rw[if_neg (by decide),if_neg (by decide),if_pos rfl,if_neg hn]);by_cases e1:n<0
   ·clear hn;exact uF
   ·have e2:255<n:=by omega
    clear hn;exact uF
 simp only[not_or]at h1;obtain⟨h1,h2,h5⟩:=h1;have d1:=beq_eq_false_iff_ne.2 h1;have d2:=beq_eq_false_iff_ne.2 h2;have d3:=beq_eq_false_iff_ne.2 h3;have d4:=beq_eq_false_iff_ne.2 h4;have d5:=beq_eq_false_iff_ne.2 h5;by_cases h10:10≤t
 ·have HR:=aa (show cR t n=.item t n by unfold cR;rw[if_neg (by omega),if_neg h3,if_neg h4,if_pos h10]);clear h1 h2 h3 h4 h5;exact uF
 ·have HR:=aa (show cR t n=.none by unfold cR;rw[if_neg (by omega),if_neg h3,if_neg h4,if_neg h10]);clear h1 h2 h3 h4 h5;exact uF
theorem Zc{op:Op}{v:aL}(h:Vw v)(h0:(jO op v).2=0):Vw (jO op v).1:=by
 unfold jO at h0 ⊢;split
 ·rename_i ho;rw[if_pos ho]at h0;cases v with
  |whole n=>
   dsimp only at h0 ⊢;by_cases hi:(!dm (.whole n))=true
   ·rw[if_pos hi]at h0;exact absurd h0 (by decide)
   ·rw[if_neg hi]at h0 ⊢;by_cases hs:op=bW
    ·rw[if_pos hs]at h0 ⊢;unfold eQ at h0 ⊢;split
     ·assumption
     ·rename_i hn;rw[if_neg hn]at h0;exact absurd h0 (by decide)
    ·rw[if_neg hs];exact h
  |_=>exact absurd (show(100:Int)=0 from h0) (by decide)
 ·rename_i ho;rw[if_neg ho]at h0;split
  ·rename_i hn;rw[if_pos hn]at h0;cases v with
   |truth b=>trivial
   |_=>exact absurd (show(100:Int)=0 from h0) (by decide)
  ·rename_i hn;rw[if_neg hn]at h0;exact absurd h0 (by decide)
theorem Oz(a b:List UInt8):((⟨a.toArray⟩:ByteArray)==⟨b.toArray⟩)=decide (a=b):=qM a b
attribute [local go_sem] Oz
theorem OC:Tryz.prog.underlying 20=some (.interface (Tryz.prog.methodsAt 20)):=by kernel_rfl
@[go_sem] theorem ahD(v:aL)(x:Operand):eqGuard .eql 20 x (.const .nilIface) (aK v) .nilIface=pure ():=by cases v<;>cases x<;>rfl
@[go_sem] theorem ahE(v:aL)(w:World):(binOp .eql 20 (aK v) .nilIface).run Tryz.prog w=.ok (.bool (decide (v=.none))) w:=by
 cases v;case none=>exact run_eql_nil_nil _ _ OC
 all_goals exact run_eql_held_nil _ _ _ _ OC
set_option maxHeartbeats 4000000 in
theorem Zd{w:World}{pt pv:Nat}{T:List Ty}{L:List Lv}(h:bO w pt pv T L){b:Nat}{x:ao}(hx:bg w b x)(hk:0<x.kids.length)(E:df pt pv T L (kid x 0))(f:Nat)(hf:8*bq (kid x 0)≤f):Calls Tryz.prog 68 #[qV pt pv,.pointer (some ⟨b,0,none⟩)] w (jN w (oneJ (aj T L) (f+1) x)):=by
 have H:=aa h;have HX:=aa hx;have HK:=aa hk;have HE:=aa (E f hf);have HV:=aa (show oneJ (aj T L) (f+1) x=(exprJ (aj T L) f (kid x 0) >>= fun j=>aI (decide (j.is≠3)&&((bE T j.type&&(decide (x.name=bV)||(decide (x.name=bW)&&decide (bP T j.type≠2))))||(decide (x.name=pz)&&decide (bP T j.type=3)))) x 252 >>= fun _=>if j.val=.none then .ok ⟨aP T j.type,.none,0⟩else cS T x (aP T j.type) (jO x.name j.val))from oneJ.eq_2 (aj T L) x f);generalize oneJ (aj T L) (f+1) x=r at HV ⊢;clear h hx E hf hk;dsimp only[qV,qC];dsimp only[qV,qC]at HE;go_enter Tryz.func68,Tryz.ntmps68;go_upto_region 1 with(fail);generalize az:w.alloc _=w1;obtain⟨ae,x1,aE⟩:=made az;generalize aU:w1.alloc _=w2;obtain⟨af,x2,bu⟩:=made aU;rw[aE]at x2;have B2:=aa (bb ae af);have X1:=aa (x1.grow af);have X2:=aa x2;have z1:=X1.out.cell;have l1:=X1.out.lt;clear az ae aE x1 aU af bu x2;obtain⟨Ax,cx,k0x,k1x,k2x,k3x,k4x,hkidx⟩:=(HX.out.later B2.out).cells;have lbx:=aQ k0x;have KIDx:=aa hkidx;clear hkidx;obtain⟨gy,oy,yy,rfl,hcy,hpy,hty⟩:=KIDx.out 0 HK.out;have lgy:=aQ hpy;have HTy:=aa hty;clear hty;rw[Nat.add_zero]at hpy;have h0:(0:Int)<(x.kids.length:Int):=by have:=HK.out;omega
 have h0n:0<x.kids.length:=HK.out;have hC:=fun w' (hb:Below w2.heap.size w2 w')=>HE.out w' _ ((H.out.later B2.out).later hb) (HTy.out.later hb)
 cases hr:exprJ (aj T L) f (kid x 0)with
 |error q=>
  obtain⟨p,c⟩:=q;have hv:=HV.out;simp only[hr,fV]at hv;have aq:=aa hv;rw[hr]at hC;have HC:=aa hC;clear hr HV hv hC HE;go_upto_region 1 with(fail);refine bh [9] [⟨8,5,ei,29⟩] (by kernel_rfl) ?_;refine FQ (Below.refl _ _) [0,1,2,3,4,5,6] ?_;refine FC 7 (cr bN) (Below.refl _ _) (fun w4 ab=>(HC.out _ ab).mono ?_);rintro e w3 ⟨ad,rfl⟩;exact bj (fn:=Tryz.f68) aq.out (bb (bb B2.out ab) ad) rfl
 |ok j=>
  have hv:=HV.out;simp only[hr,dc]at hv;rw[hr]at hC;have HC:=aa hC;obtain⟨t,v,i⟩:=j;have HBK:=aa (fun w (h:bO w pt pv T L)=>qK h t);have HNM:=aa (fun w (h:cF w pt T)=>lU h t);have HBS:=aa (fun w (h:cF w pt T)=>mT h t);generalize bP T t=kb at *;generalize bE T t=nq at *;generalize aP T t=bt at *;have aq:=aa hv;clear hr HV hv hC HE;go_upto_region 1 with(fail);refine bh [9] [⟨8,5,ei,29⟩] (by kernel_rfl) ?_;refine FQ (Below.refl _ _) [0,1,2,3,4,5,6] ?_;refine FC 7 (cr bN) (Below.refl _ _) (fun w4 ab=>(HC.out _ ab).mono ?_);rintro e w3 ⟨ad,rfl,hvw⟩;refine⟨ad,?_⟩;have VW:=aa hvw;have B3:=aa (bb ab ad);clear ad ab hvw;dsimp only[bU];refine fU 9 (by kernel_rfl) bN (by kernel_rfl) B3.out rfl rfl rfl rfl (fun _=>rfl) (fun _=>rfl) info29 rfl (ig ⟨t,v,i⟩) (fun b6 w6 aD x6 aH _=>?_);refine FA ?_;have aH:=aH;have J6:=aa (show Bx b6 #[.int .i64 t,aK v,.int .u8 i] 29 w6 from x6);have vn:=aa aD;have B6:=ah B2 aH;have X1:=aa (X1.out.grow aH);have X2:=aa (X2.out.grow aH);clear x6 aH aD B3;have z6:=J6.out.cell;have l6:=J6.out.lt;have z1:=X1.out.cell;have l1:=X1.out.lt;go_wp2_with fail;refine(HBK.out _ (H.out.later B6.out)).mono ?_;rintro e w7 ⟨rfl,aC⟩;have B7:=ah B6 aC;have J6:=aa (J6.out.grow aC);have X1:=aa (X1.out.grow aC);have X2:=aa (X2.out.grow aC);clear aC;have z6:=J6.out.cell;have l6:=J6.out.lt;have z1:=X1.out.cell;have l1:=X1.out.lt;clear HBK B6;obtain⟨Aq,cq,k0q,k1q,k2q,k3q,k4q,hkidq⟩:=(HX.out.later B7.out).cells;have lbq:=aQ k0q;have KIDq:=aa hkidq;clear hkidq;go_upto_region 3 with(fail);generalize hsg:(nq&&(decide (x.name=bV)||(decide (x.name=bW)&&decide (kb≠2))))=sg at *;generalize hnt:(decide (x.name=pz)&&decide (kb=3))=nt at *;have HSG:=aa hsg;have HNT:=aa hnt;clear hsg hnt;go_cut [7] (fun u w'=>u=.bool sg∧Below w7.heap.size w7 w');case first=>
   clear HNT aq;cases nq;case false=>
    go_wp2_with fail;refine(HNM.out _ (H.out.later B7.out).tab).mono ?_;rintro e w8 ⟨rfl,aB⟩;go_wp2_with fail;go_meet;exact⟨by rw[←HSG.out];rfl,aB⟩
   go_wp2_with fail;refine(HNM.out _ (H.out.later B7.out).tab).mono ?_;rintro e w8 ⟨rfl,aB⟩;obtain⟨As,cs,k0s,k1s,k2s,k3s,k4s,hkids⟩:=(HX.out.later (bb B7.out aB)).cells;have lbs:=aQ k0s;have KIDs:=aa hkids;clear hkids;by_cases h1:x.name=bV
   ·rw[h1]at k2s;dsimp only[bV]at k2s;go_wp2_with fail;go_meet;exact⟨by rw[←HSG.out,h1];rfl,aB⟩
   have d1:¬x.name=[43]:=h1;by_cases h2:x.name=bW
   ·rw[h2]at k2s;dsimp only[bW]at k2s;by_cases h3:kb=2
    ·subst h3;go_wp2_with fail;go_meet;exact⟨by rw[←HSG.out,h2];rfl,aB⟩
    ·have d3:(kb != 2)=true:=bne_iff_ne.2 h3;go_wp2_with fail;go_meet;exact⟨by rw[←HSG.out,h2,decide_eq_true h3];rfl,aB⟩
   ·have d2:¬x.name=[45]:=h2;go_wp2_with fail;go_meet;exact⟨by rw[←HSG.out];simp[bV,bW,d1,d2],aB⟩
  case rest=>
  obtain⟨rfl,aB⟩:=hcut;have fY:=aa (HX.out.later (bb B7.out aB));have B8:=ah B7 aB;have J6:=aa (J6.out.grow aB);have X1:=aa (X1.out.grow aB);have X2:=aa (X2.out.grow aB);clear aB;have z6:=J6.out.cell;have l6:=J6.out.lt;have z1:=X1.out.cell;have l1:=X1.out.lt;have z2:=X2.out.cell;have f2:=X2.out.frozen;have l2:=X2.out.lt;obtain⟨As,cs,k0s,k1s,k2s,k3s,k4s,hkids⟩:=(HX.out.later B8.out).cells;have lbs:=aQ k0s;have KIDs:=aa hkids;clear hkids;clear HSG HNM;go_upto_region 4 with(fail);go_cut [62] (fun _ w'=>(decide (i≠3)&&(sg||nt))=true∧w'=wc);case first=>
   by_cases h3:i=3
   ·subst h3;have ar:=aa (show r=.error (x.pos,252)from aq.out);clear aq;exact AS
   have e3:(i != 3)=true:=bne_iff_ne.2 h3;have d3:decide (i≠3)=true:=decide_eq_true h3;cases sg;case true=>
    go_wp2_with fail;refine(da fY.out 252).mono ?_;rintro e wq ⟨rfl,rfl⟩;go_wp2_with fail;go_meet;exact⟨by rw[d3];rfl,rfl⟩
   by_cases h1:x.name=pz
   ·rw[h1]at k2s;dsimp only[pz]at k2s;by_cases h4:kb=3
    ·subst h4;go_wp2_with fail;refine(da fY.out 252).mono ?_;rintro e wq ⟨rfl,rfl⟩;go_wp2_with fail;go_meet;exact⟨by rw[d3,←HNT.out,h1];rfl,rfl⟩
    ·have hnt:nt=false:=by rw[←HNT.out,decide_eq_false h4];simp
     have ar:=aa (show r=.error (x.pos,252)by have:=aq.out;rw[d3,hnt]at this;exact this);have d4:=beq_eq_false_iff_ne.2 h4;clear aq hnt;exact AS
   ·have hnt:nt=false:=by rw[←HNT.out,decide_eq_false h1];simp
    have ar:=aa (show r=.error (x.pos,252)by have:=aq.out;rw[d3,hnt]at this;exact this);have d4:¬x.name=[78,79,84]:=h1;clear aq hnt;exact AS
  case rest=>
  obtain⟨hcond,rfl⟩:=hcut;have hv:=aq.out;rw[hcond]at hv;have ar:=aa ((show _=_ from hv).trans (dc () _));clear aq hv hcond HNT;go_wp2_with fail;refine(HBS.out _ (H.out.later B8.out).tab).mono ?_;rintro e w9 ⟨rfl,br⟩;have gH:=aa (fY.out.later br);have B9:=ah B8 br;have J6:=aa (J6.out.grow br);have X1:=aa (X1.out.grow br);have X2:=aa (X2.out.grow br);clear br;have z6:=J6.out.cell;have l6:=J6.out.lt;have z1:=X1.out.cell;have l1:=X1.out.lt;have z2:=X2.out.cell;have f2:=X2.out.frozen;have l2:=X2.out.lt;obtain⟨Au,cu,k0u,k1u,k2u,k3u,k4u,hkidu⟩:=(HX.out.later B9.out).cells;have lbu:=aQ k0u;have KIDu:=aa hkidu;clear hkidu;clear HBS fY;go_upto_region 6 with(fail);by_cases hvn:v=.none
  ·subst hvn;have aA:=aa (show r=.ok ⟨bt,.none,0⟩from ar.out);clear ar;go_wp2_with fail;exact ef rfl ⟨bt,.none,0⟩ X2.out B9.out (by omega) rfl rfl aA.out trivial
  ·have aA:=aa (ar.out.trans (if_neg hvn));have dvn:=decide_eq_false hvn;go_upto_region 8 with(fail);have HO:=aa (fun w=>Ze x.name v VW.out w);have HOV:=aa (Zc (op:=x.name) (v:=v) VW.out);generalize jO x.name v=ro at *;obtain⟨vo,eo⟩:=ro;refine bh [11] [] (by kernel_rfl) ?_;refine FQ (Below.refl _ _) [0,1,2,3,4,5] ?_;refine FC 6 aG (Below.refl _ _) (fun w4 ab=>(HO.out _).mono ?_);rintro e w10 ⟨rfl,cN⟩;refine⟨cN,?_⟩;have C10:=aa (bb ab cN);clear cN ab;refine FS aG C10.out [7,8,9,10] ?_;refine cV 11 (by kernel_rfl) (by kernel_rfl) C10.out (fun wr hwr=>?_);refine FA ?_;have fj:=bb C10.out hwr;have agx:=aa (gH.out.later fj);have B11:=ah B9 fj;have J6:=aa (J6.out.grow fj);have X1:=aa (X1.out.grow fj);have X2:=aa (X2.out.grow fj);clear fj;have z1:=X1.out.cell;have l1:=X1.out.lt;have z2:=X2.out.cell;have f2:=X2.out.frozen;have l2:=X2.out.lt;clear hwr C10;have HFD:=aa (fun w' (hb:Below wr.heap.size wr w')=>wM ((H.out.later B11.out).later hb) (agx.out.later hb) bt vo eo HOV.out);have hfd:=HFD.out;have aM:=aa (show r=cS T x bt (vo,eo)from aA.out);clear aA HFD;cases eL:cS T x bt (vo,eo)with
   |error q=>
    obtain⟨p,c⟩:=q;rw[eL]at hfd;have HFE:=aa hfd;have bf:=aa (aM.out.trans eL);clear hfd eL aM;go_wp2_with fail;refine(HFE.out _ (Below.refl _ _)).mono ?_;rintro e w12 ⟨fH,rfl⟩;exact bj bf.out (bb B11.out fH) rfl
   |ok j3=>
    obtain⟨t3,v3,i3⟩:=j3;rw[eL]at hfd;have HFE:=aa hfd;have bf:=aa (aM.out.trans eL);clear hfd eL aM;go_wp2_with fail;refine(HFE.out _ (Below.refl _ _)).mono ?_;rintro e w12 ⟨fH,rfl,hvw⟩;have JU:=aa (show Vw v3 from hvw);have B12:=ah B11 fH;have X2:=aa (X2.out.grow fH);clear fH;have z2:=X2.out.cell;have f2:=X2.out.frozen;have l2:=X2.out.lt;clear hvw;dsimp only[bU];go_wp2_with fail;exact ef rfl ⟨t3,v3,i3⟩ X2.out B12.out (by omega) rfl rfl bf.out JU.out
theorem OJ{fn:Func}(h:fn.results=#[]){R:Ending→World→Prop}{a:Act}{w:World}(hd:a.defers=[])(hR:R (.returned (.tuple #[])) w):bodyPost Tryz.prog fn R .ret a w:=⟨hd,.tuple #[],by simp[results,h],hR⟩
def Zl:World→Jr Unit→Ending→World→Prop:=sk (fun _=>True) (fun _=>.tuple #[])
def iJ(T:List Ty)(a b:Jd):Bool:=decide (a.type≠5)||decide (b.type=5)||eh T a.val (aP T b.type)
def pA(T:List Ty)(x:ao)(a b:Jd):Nat→Jr Unit
 |0=>match aI (iJ T a b) (kid x 0) 254 with|.error e=>.error e|.ok _=>aI (iJ T b a) (kid x 1) 254
 |1=>aI (iJ T b a) (kid x 1) 254
 |_=>.ok ()
set_option maxHeartbeats 8000000 in
theorem OK{w:World}{pt pv:Nat}{T:List Ty}{L:List Lv}(h:bO w pt pv T L){b:Nat}{x:ao}(hx:bg w b x)(hk:x.kids.length=2)(ja jb:Jd)(va:Vw ja.val)(vb:Vw jb.val):Calls Tryz.prog 110 #[qV pt pv,.pointer (some ⟨b,0,none⟩),bU ja,bU jb] w (Zl w (gC T x ja jb)):=by
 have H:=aa h;have HX:=aa hx;have HK:=aa hk;have VA:=aa va;have VB:=aa vb;have HV:=aa (show gC T x ja jb=(if !bE T ja.type|| !bE T jb.type then .ok ()else pA T x ja jb 0)from rfl);generalize gC T x ja jb=r at HV ⊢;have HNA:=aa (fun w (h:cF w pt T)=>lU h ja.type);have HNB:=aa (fun w (h:cF w pt T)=>lU h jb.type);generalize bE T ja.type=na at *;generalize bE T jb.type=nb at *;obtain⟨at_,av,ai⟩:=ja;obtain⟨bt,bv,bi⟩:=jb;clear h hx hk va vb;dsimp only[qV,qC,bU];dsimp only at HNA HNB;go_enter Tryz.func110,Tryz.ntmps110;go_upto_region 1 with(fail);generalize az:w.alloc _=w1;obtain⟨ae,x1,aE⟩:=made az;generalize aU:w1.alloc _=w2;obtain⟨af,x2,bu⟩:=made aU;generalize cU:w2.alloc _=w3;obtain⟨ad,x3,iv⟩:=made cU;rw[bu,aE]at x3;rw[aE]at x2;have B3:=aa (bb (bb ae af) ad);have X1:=aa ((x1.grow af).grow ad);have P2:=aa (x2.grow ad);have Q3:=aa x3;have z1:=X1.out.cell;have l1:=X1.out.lt;have z2:=P2.out.cell;have l2:=P2.out.lt;have z3:=Q3.out.cell;have l3:=Q3.out.lt;clear az ae aE x1 aU af bu x2 cU ad iv x3;go_wp2_with fail;refine(HNA.out _ (H.out.later B3.out).tab).mono ?_;rintro e w4 ⟨rfl,aw⟩;have B4:=ah B3 aw;have X1:=aa (X1.out.grow aw);have P2:=aa (P2.out.grow aw);have Q3:=aa (Q3.out.grow aw);clear aw;have z1:=X1.out.cell;have l1:=X1.out.lt;have z2:=P2.out.cell;have l2:=P2.out.lt;have z3:=Q3.out.cell;have l3:=Q3.out.lt;cases na;case false=>
  have aq:=aa (show r=.ok ()from HV.out);clear HV;go_wp2_with fail;rw[aq.out];exact OJ rfl rfl ⟨B4.out,rfl,trivial⟩
 go_wp2_with fail;refine(HNB.out _ (H.out.later B4.out).tab).mono ?_;rintro e w5 ⟨rfl,au⟩;have B5:=ah B4 au;have X1:=aa (X1.out.grow au);have P2:=aa (P2.out.grow au);have Q3:=aa (Q3.out.grow au);clear au;have z1:=X1.out.cell;have l1:=X1.out.lt;have z2:=P2.out.cell;have l2:=P2.out.lt;have z3:=Q3.out.cell;have l3:=Q3.out.lt;cases nb;case false=>
  have aq:=aa (show r=.ok ()from HV.out);clear HV;go_wp2_with fail;rw[aq.out];exact OJ rfl rfl ⟨B5.out,rfl,trivial⟩
 have aq:=aa (show r=pA T x ⟨at_,av,ai⟩ ⟨bt,bv,bi⟩ 0 from HV.out);clear HV;go_wp2_with fail;generalize aH:w5.alloc _=w6;obtain⟨aD,x6,pV⟩:=made aH;have S6:=aa x6;have B6:=ah B5 aD;have X1:=aa (X1.out.grow aD);have P2:=aa (P2.out.grow aD);have Q3:=aa (Q3.out.grow aD);clear aD;clear aH x6 pV HNA HNB
 go_loopg [8,9,10,29] 2 (fun gg _ _ _ s29 wr=>∃kk:Nat,kk≤2∧gg=2-kk∧s29=.int .i64 kk∧Below w6.heap.size w6 wr∧r=pA T x ⟨at_,av,ai⟩ ⟨bt,bv,bi⟩ kk)
 case atStart=>exact⟨0,by omega,rfl,rfl,Below.refl _ _,aq.out⟩
 case round=>
  obtain⟨kk,hkk,hgk,rfl,hbr,hvr⟩:=hrel;have HVr:=aa hvr;have HXr:=aa (HX.out.later (bb B6.out hbr));have Cr:=aa hbr;have Br:=ah B6 hbr;have X1:=aa (X1.out.grow hbr);have P2:=aa (P2.out.grow hbr);have Q3:=aa (Q3.out.grow hbr);have S6:=aa (S6.out.grow hbr);clear hbr;have z1:=X1.out.cell;have l1:=X1.out.lt;have z2:=P2.out.cell;have l2:=P2.out.lt;have z3:=Q3.out.cell;have l3:=Q3.out.lt;have z6:=S6.out.cell;have l6:=S6.out.lt;clear hvr;rcases(show kk=0∨kk=1∨kk=2 by omega)with kX|mE|fQ
  ·subst kX;have HN:=aa (show wrap64 (((0:Nat):Int)+1)=((1:Nat):Int)from Go.IntWalk.wrap64_in _ (by omega));have HVy:=aa (fun(hq:iJ T ⟨at_,av,ai⟩ ⟨bt,bv,bi⟩=true)=>show r=pA T x ⟨at_,av,ai⟩ ⟨bt,bv,bi⟩ 1 by rw[HVr.out];unfold pA;rw[hq];rfl);have HVn:=aa (fun(hq:iJ T ⟨at_,av,ai⟩ ⟨bt,bv,bi⟩=false)=>show r=.error ((kid x 0).pos,254)by rw[HVr.out];unfold pA;rw[hq];rfl);clear HVr;go_upto_region 6 with(fail);generalize fI:wr.alloc _=w7;obtain⟨aC,x7,mG⟩:=made fI;generalize fZ:w7.alloc _=w8;obtain⟨aB,x8,mF⟩:=made fZ;generalize nw:w8.alloc _=w9;obtain⟨br,x9,oJ⟩:=made nw;rw[mF,mG]at x9;have J7:=aa ((x7.grow aB).grow br);have O9:=aa x9;have hbb:=bb (bb aC aB) br;have D9:=ah Cr hbb;have B9:=ah Br hbb;have X1:=aa (X1.out.grow hbb);clear hbb;have z1:=X1.out.cell;have l1:=X1.out.lt;have z7:=J7.out.cell;have l7:=J7.out.lt;have z9:=O9.out.cell;have l9:=O9.out.lt;clear fI fZ nw aC aB br x7 x8 x9 mG mF oJ;obtain⟨Au,cu,k0u,k1u,k2u,k3u,k4u,hkidu⟩:=(HX.out.later B9.out).cells;have lbu:=aQ k0u;have KIDu:=aa hkidu;clear hkidu;obtain⟨gy,oy,yy,rfl,hcy,hpy,hty⟩:=KIDu.out 0 (by have:=HK.out;omega);have lgy:=aQ hpy;have HTy:=aa hty;clear hty;rw[Nat.add_zero]at hpy;have h1:((0:Nat):Int)<(x.kids.length:Int):=by have:=HK.out;omega
   have h1n:0<x.kids.length:=by have:=HK.out;omega
   refine bh [] [] (by kernel_rfl) ?_;by_cases c1:at_=5
   ·by_cases c2:bt=5
    ·have gX:=aa (show iJ T ⟨at_,av,ai⟩ ⟨bt,bv,bi⟩=true by unfold iJ;simp[c2]);have e2:(bt==5)=true:=beq_iff_eq.2 c2;have e1:(at_ != 5)=false:=by simp[c1]
     refine FQ (Below.refl _ _) [0,1,2,3,4,5,6,7,8,18,19,20,21,22,23,24,9,10,11,12,13,14] ?_;refine FN 15 aG (Below.refl _ _) ?_;refine FN 16 aG (Below.refl _ _) ?_;refine FQ (Below.refl _ _) [17] ?_;refine FC 25 aG (Below.refl _ _) (fun w4 ab=>(jm rfl (HTy.out.later (bb (Below.refl _ _) ab)) 254).mono ?_);rintro e wn ⟨rfl,rfl⟩;refine⟨Below.refl _ _,?_⟩;refine cV 26 (by kernel_rfl) (by kernel_rfl) (bb (Below.refl _ _) ab) (fun wq hwq=>?_);refine FA ?_;have CQ:=aa (bb D9.out (bb (bb (Below.refl _ _) ab) hwq));go_wp2_with fail
     go_roundg (gk-1)
     case measure=>omega
     exact⟨1,by omega,by omega,by first|rfl|(rw[HN.out])|simp,CQ.out,HVy.out gX.out⟩
    ·have gX:=aa (show iJ T ⟨at_,av,ai⟩ ⟨bt,bv,bi⟩=eh T av (aP T bt)by unfold iJ;simp[c1,c2]);have e2:(bt==5)=false:=beq_eq_false_iff_ne.2 c2;have e1:(at_ != 5)=false:=by simp[c1]
     refine FQ (Below.refl _ _) [0,1,2,3,4,5,6,7,8,18,19,20,21,22,23,24,9,10,11,12,13,14] ?_;refine FC 15 aG (Below.refl _ _) (fun w4 ab=>(mT (H.out.later (bb B9.out ab)).tab bt).mono ?_);rintro e wb ⟨rfl,kC⟩;refine⟨kC,?_⟩;have CB:=aa (bb ab kC);clear kC ab;refine lf (i:=16) (by kernel_rfl) aG rfl (by kernel_rfl) CB.out rfl (by intro c a d v w;cases d<;>exact Iff.rfl) (fun w1 _=>?_) (fun w4 ab=>(uz (H.out.later (bb B9.out (bb CB.out ab))) ⟨at_,av,ai⟩ VA.out (aP T bt)).mono ?_)
     ·(go_simp;exact⟨rfl,rfl⟩)
     rintro e wc ⟨rfl,hbc⟩;refine⟨hbc,?_⟩;have CC:=aa (bb CB.out (bb ab hbc));clear hbc ab CB;dsimp only;generalize eh T av (aP T bt)=wq at *;refine FS aG CC.out [17] ?_;cases wq
     ·exact OL
     ·have gX:=aa gX.out;refine FC 25 aG CC.out (fun w4 ab=>(jm rfl (HTy.out.later (bb CC.out ab)) 254).mono ?_);rintro e wn ⟨rfl,rfl⟩;refine⟨Below.refl _ _,?_⟩;refine cV 26 (by kernel_rfl) (by kernel_rfl) (bb CC.out ab) (fun wq hwq=>?_);refine FA ?_;have CQ:=aa (bb D9.out (bb (bb CC.out ab) hwq));go_wp2_with fail
      go_roundg (gk-1)
      case measure=>omega
      exact⟨1,by omega,by omega,by first|rfl|(rw[HN.out])|simp,CQ.out,HVy.out gX.out⟩
   ·have gX:=aa (show iJ T ⟨at_,av,ai⟩ ⟨bt,bv,bi⟩=true by unfold iJ;simp[c1]);have e1:(at_ != 5)=true:=bne_iff_ne.2 c1;refine FQ (Below.refl _ _) [0,1,2,3,4,5,6,7,8,18,19,20,21,22,23,24,9,10,11,12,13,14] ?_;refine FN 15 aG (Below.refl _ _) ?_;refine FN 16 aG (Below.refl _ _) ?_;refine FQ (Below.refl _ _) [17] ?_;refine FC 25 aG (Below.refl _ _) (fun w4 ab=>(jm rfl (HTy.out.later (bb (Below.refl _ _) ab)) 254).mono ?_);rintro e wn ⟨rfl,rfl⟩;refine⟨Below.refl _ _,?_⟩;refine cV 26 (by kernel_rfl) (by kernel_rfl) (bb (Below.refl _ _) ab) (fun wq hwq=>?_);refine FA ?_;have CQ:=aa (bb D9.out (bb (bb (Below.refl _ _) ab) hwq));go_wp2_with fail
    go_roundg (gk-1)
    case measure=>omega
    exact⟨1,by omega,by omega,by first|rfl|(rw[HN.out])|simp,CQ.out,HVy.out gX.out⟩
  ·subst mE;have HN:=aa (show wrap64 (((1:Nat):Int)+1)=((2:Nat):Int)from Go.IntWalk.wrap64_in _ (by omega));have HVy:=aa (fun(hq:iJ T ⟨bt,bv,bi⟩ ⟨at_,av,ai⟩=true)=>show r=pA T x ⟨at_,av,ai⟩ ⟨bt,bv,bi⟩ 2 by rw[HVr.out];unfold pA;rw[hq];rfl);have HVn:=aa (fun(hq:iJ T ⟨bt,bv,bi⟩ ⟨at_,av,ai⟩=false)=>show r=.error ((kid x 1).pos,254)by rw[HVr.out];unfold pA;rw[hq];rfl);clear HVr;go_upto_region 6 with(fail);generalize fI:wr.alloc _=w7;obtain⟨aC,x7,mG⟩:=made fI;generalize fZ:w7.alloc _=w8;obtain⟨aB,x8,mF⟩:=made fZ;generalize nw:w8.alloc _=w9;obtain⟨br,x9,oJ⟩:=made nw;rw[mF,mG]at x9;have J7:=aa ((x7.grow aB).grow br);have O9:=aa x9;have hbb:=bb (bb aC aB) br;have D9:=ah Cr hbb;have B9:=ah Br hbb;have X1:=aa (X1.out.grow hbb);clear hbb;have z1:=X1.out.cell;have l1:=X1.out.lt;have z7:=J7.out.cell;have l7:=J7.out.lt;have z9:=O9.out.cell;have l9:=O9.out.lt;clear fI fZ nw aC aB br x7 x8 x9 mG mF oJ;obtain⟨Au,cu,k0u,k1u,k2u,k3u,k4u,hkidu⟩:=(HX.out.later B9.out).cells;have lbu:=aQ k0u;have KIDu:=aa hkidu;clear hkidu;obtain⟨gy,oy,yy,rfl,hcy,hpy,hty⟩:=KIDu.out 1 (by have:=HK.out;omega);have lgy:=aQ hpy;have HTy:=aa hty;clear hty;have h1:((1:Nat):Int)<(x.kids.length:Int):=by have:=HK.out;omega
   have h1n:1<x.kids.length:=by have:=HK.out;omega
   refine bh [] [] (by kernel_rfl) ?_;by_cases c1:bt=5
   ·by_cases c2:at_=5
    ·have gX:=aa (show iJ T ⟨bt,bv,bi⟩ ⟨at_,av,ai⟩=true by unfold iJ;simp[c2]);have e2:(at_==5)=true:=beq_iff_eq.2 c2;have e1:(bt != 5)=false:=by simp[c1]
     refine FQ (Below.refl _ _) [0,1,2,3,4,5,6,7,8,18,19,20,21,22,23,24,9,10,11,12,13,14] ?_;refine FN 15 aG (Below.refl _ _) ?_;refine FN 16 aG (Below.refl _ _) ?_;refine FQ (Below.refl _ _) [17] ?_;refine FC 25 aG (Below.refl _ _) (fun w4 ab=>(jm rfl (HTy.out.later (bb (Below.refl _ _) ab)) 254).mono ?_);rintro e wn ⟨rfl,rfl⟩;refine⟨Below.refl _ _,?_⟩;refine cV 26 (by kernel_rfl) (by kernel_rfl) (bb (Below.refl _ _) ab) (fun wq hwq=>?_);refine FA ?_;have CQ:=aa (bb D9.out (bb (bb (Below.refl _ _) ab) hwq));go_wp2_with fail
     go_roundg (gk-1)
     case measure=>omega
     exact⟨2,by omega,by omega,by first|rfl|(rw[HN.out])|simp,CQ.out,HVy.out gX.out⟩
    ·have gX:=aa (show iJ T ⟨bt,bv,bi⟩ ⟨at_,av,ai⟩=eh T bv (aP T at_)by unfold iJ;simp[c1,c2]);have e2:(at_==5)=false:=beq_eq_false_iff_ne.2 c2;have e1:(bt != 5)=false:=by simp[c1]
     refine FQ (Below.refl _ _) [0,1,2,3,4,5,6,7,8,18,19,20,21,22,23,24,9,10,11,12,13,14] ?_;refine FC 15 aG (Below.refl _ _) (fun w4 ab=>(mT (H.out.later (bb B9.out ab)).tab at_).mono ?_);rintro e wb ⟨rfl,kC⟩;refine⟨kC,?_⟩;have CB:=aa (bb ab kC);clear kC ab;refine lf (i:=16) (by kernel_rfl) aG rfl (by kernel_rfl) CB.out rfl (by intro c a d v w;cases d<;>exact Iff.rfl) (fun w1 _=>?_) (fun w4 ab=>(uz (H.out.later (bb B9.out (bb CB.out ab))) ⟨bt,bv,bi⟩ VB.out (aP T at_)).mono ?_)
     ·(go_simp;exact⟨rfl,rfl⟩)
     rintro e wc ⟨rfl,hbc⟩;refine⟨hbc,?_⟩;have CC:=aa (bb CB.out (bb ab hbc));clear hbc ab CB;dsimp only;generalize eh T bv (aP T at_)=wq at *;refine FS aG CC.out [17] ?_;cases wq
     ·exact OL
     ·have gX:=aa gX.out;refine FC 25 aG CC.out (fun w4 ab=>(jm rfl (HTy.out.later (bb CC.out ab)) 254).mono ?_);rintro e wn ⟨rfl,rfl⟩;refine⟨Below.refl _ _,?_⟩;refine cV 26 (by kernel_rfl) (by kernel_rfl) (bb CC.out ab) (fun wq hwq=>?_);refine FA ?_;have CQ:=aa (bb D9.out (bb (bb CC.out ab) hwq));go_wp2_with fail
      go_roundg (gk-1)
      case measure=>omega
      exact⟨2,by omega,by omega,by first|rfl|(rw[HN.out])|simp,CQ.out,HVy.out gX.out⟩
   ·have gX:=aa (show iJ T ⟨bt,bv,bi⟩ ⟨at_,av,ai⟩=true by unfold iJ;simp[c1]);have e1:(bt != 5)=true:=bne_iff_ne.2 c1;refine FQ (Below.refl _ _) [0,1,2,3,4,5,6,7,8,18,19,20,21,22,23,24,9,10,11,12,13,14] ?_;refine FN 15 aG (Below.refl _ _) ?_;refine FN 16 aG (Below.refl _ _) ?_;refine FQ (Below.refl _ _) [17] ?_;refine FC 25 aG (Below.refl _ _) (fun w4 ab=>(jm rfl (HTy.out.later (bb (Below.refl _ _) ab)) 254).mono ?_);rintro e wn ⟨rfl,rfl⟩;refine⟨Below.refl _ _,?_⟩;refine cV 26 (by kernel_rfl) (by kernel_rfl) (bb (Below.refl _ _) ab) (fun wq hwq=>?_);refine FA ?_;have CQ:=aa (bb D9.out (bb (bb (Below.refl _ _) ab) hwq));go_wp2_with fail
    go_roundg (gk-1)
    case measure=>omega
    exact⟨2,by omega,by omega,by first|rfl|(rw[HN.out])|simp,CQ.out,HVy.out gX.out⟩
  ·subst fQ;have ar:=aa (show r=.ok ()from HVr.out);go_wp2_with fail;rw[ar.out];exact sm rfl rfl ⟨Br.out,rfl,trivial⟩
end Go.Proofs.YtlpombjidhloiaaGreat
namespace Go.Proofs.YtlpombjidhloiaaGreat
open Go.RowKit
section
variable {P:Program} {ops:Array Oper} {Q:Exit→Act→World→Prop} {md:Region.Mode} {S S2:World→Prop} {late:List Nat}
inductive mP(md:Region.Mode)(ops:Array Oper)(listed:Array Bool)(i:Nat):Nat→Prop where
 |one (j:Nat) (h:nI md ops j i):mP md ops listed i j
 |via (j k:Nat) (hk:listed.getD k true=false) (h:nI md ops j k) (t:mP md ops listed i k):mP md ops listed i j
theorem mP.not_ready{listed:Array Bool}{i j:Nat}(h:mP md ops listed i j)(hi:listed.getD i true=false):j∉Region.ready md ops listed:=by
 cases h with
 |one _ h=>exact wv h hi
 |via _ k hk h _=>exact wv h hk
theorem mP.set{listed:Array Bool}{i j l:Nat}(h:mP md ops listed i j)(hi:listed.getD i true=false)(hl:l∈Region.ready md ops listed):mP md ops (listed.setIfInBounds l true) i j:=by
 induction h with
 |one j h=>exact .one j h
 |via j k hk h t ih=>
  have hne:l≠k:=fun e=>by subst e;exact t.not_ready hi hl
  exact .via j k (by rw[getD_set_ne true hne];exact hk) h ih
theorem MC{i:Nat}{oi:Oper}{v:Value}(hi:ops[i]? =some oi)(hsel:∀(j:Nat) (o:Oper) cs b,ops[j]? =some o→o.op≠.select cs b)(hQ:∀c a w,Q (.panic c) (a.put oi.dst v) w→Q (.panic c) a w):
 ∀(n:Nat) (listed:Array Bool) (a:Act) (w:World),(∀j,late.contains j=true→mP md ops listed i j)→(∀j oj,ops[j]? =some oj→j≠i→listed.getD j true=false→(∀e∈oj.after,Region.binds md e=true→e.on≠i)→oi.apart ops oj=true)→
  i∈Region.ready md ops listed→YieldsIf P ops S oi v a→S w→S2 w→late.contains i=false→iH P md ops Q S S2 late n (listed.setIfInBounds i true) (a.put oi.dst v) w→iH P md ops Q S S2 late (n+1) listed a w
 |n,listed,a,w,hlate,hfree,hr,hy,hS,oH,hil,H=>by
  refine⟨fun h=>absurd hr (by rw[h];exact List.not_mem_nil),fun j hj=>?_⟩;by_cases hji:j=i
  ·exact Fz
  have hiu:=(mem_ready.1 hr).1;have hjl:late.contains j=false:=by
   cases hc:late.contains j
   ·rfl
   ·exact absurd hj ((hlate j hc).not_ready hiu)
  cases n with
  |zero=>
   exact zT
  |succ n=>
   have h1:=H.2 j (ready_mono hj hji);obtain⟨hjun,oj,hoj,hall⟩:=mem_ready.1 hj;have hnot:∀e∈oj.after,Region.binds md e=true→e.on≠i:=fun e he hb heq=>by
    exact zU
   have h2:=wpOp_putIf hoj (hfree j oj hoj hji hjun hnot) (fun cs b=>hsel i oi cs b hi) (fun cs b=>hsel j oj cs b hoj) hQ hy h1;refine wpOp_mono (fun a' w' h3=>?_) h2;obtain⟨hy',h5,h4⟩:=h3;rw[hjl]at h4 ⊢;refine⟨h5,h4.1,MC hi hsel hQ n _ a' w' (fun l hl=>?_) (fun k ok hk hki hun hno=>hfree k ok hk hki ?_ hno) (ready_mono hr (Ne.symm hji)) hy' h4.1 h5 hil ?_⟩
   ·exact(hlate l hl).set hiu hj
   ·exact zV
   ·exact zW
def zX(ops:Array Oper)(L:Array Bool)(i:Nat):Nat→Nat→Bool
 |0,j=>qA ops j i
 |f+1,j=>qA ops j i||(List.range ops.size).any fun k=>!L.getD k true&&qA ops j k&&zX ops L i f k
theorem ME{L:Array Bool}{i:Nat}:∀(f j:Nat),zX ops L i f j=true→mP .any ops L i j
 |0,j,h=>.one j (ue h)
 |f+1,j,h=>by
  unfold zX at h;simp only[Bool.or_eq_true,List.any_eq_true,Bool.and_eq_true,Bool.not_eq_true']at h;rcases h with h|⟨k,_,⟨h1,h2⟩,h3⟩
  ·exact .one j (ue h)
  ·exact .via j k h1 (ue h2) (ME f k h3)
def FE(ops:Array Oper)(late:List Nat)(L:Array Bool)(i:Nat):Bool:=late.all fun j=>zX ops L i 8 j
theorem Xu{L:Array Bool}{i:Nat}(h:FE ops late L i=true)(j:Nat)(hj:late.contains j=true):mP .any ops L i j:=
 ME 8 j (List.all_eq_true.1 h j (by simpa using hj))
def zY(ops:Array Oper)(late:List Nat)(ms:List Al)(listed:Array Bool)(i:Nat):Bool:=
 pg ops ms i&& !late.contains i&&(bits ms.length).all fun b=>(Region.ready .any ops (ft listed ms b)).contains i&&Region.free .any ops (ft listed ms b) i&&FE ops late (ft listed ms b) i
theorem Xv{w0 w:World}{ms:List Al}{listed:Array Bool}{a:Act}{i:Nat}{o:Oper}{v:Value}(hf:eE ops late ms=true)(ho:ops[i]? =some o)(hB:zY ops late ms listed i=true)
 (hQ:∀c a d v w,Q (.panic c) (a.put d v) w↔Q (.panic c) a w) (hw:Below w0.heap.size w0 w) (hy:YieldsIf P ops (fun w'=>Below w0.heap.size w0 w') o v a)
 (h:cZ P ops Q w0 late ms w (listed.setIfInBounds i true) (a.put o.dst v)):cZ P ops Q w0 late ms w listed a:=by
 intro fl hm wr hwr hN n hn;simp only[zY,Bool.and_eq_true,Bool.not_eq_true']at hB;obtain⟨⟨hoff,hnl⟩,hall⟩:=hB;have hrf:=rX (f:=fun L=>(Region.ready .any ops L).contains i&&Region.free .any ops L i&&FE ops late L i) hall fl hm;simp only[Bool.and_eq_true]at hrf;simp only[eE,Bool.and_eq_true]at hf;obtain⟨k,rfl,hk⟩:=qx hrf.1.1 n hn;obtain⟨hd,hix⟩:=ua ho hoff;obtain⟨he,hwt⟩:=tZ ho hoff (fun cs b=>Region.noSelect_spec hf.1.1.1 i o cs b ho) a fl hm;have h2:=h fl hm wr hwr hN k (by rw[lN _ _ _ (by rw[hm];exact hix)];exact hk);rw[lN _ _ _ (by rw[hm];exact hix),tY _ _ _ _ (by rw[hm];exact hd)]at h2;exact MC ho (Region.noSelect_spec hf.1.1.1) (fun c a w=>(hQ c a _ _ w).1) k _ _ _ (Xu hrf.2) (Region.free_spec ho hrf.1.2) (by simpa using hrf.1.1) (hy.of_same he hwt) (hw.trans (hwr.mono hw.size)) trivial hnl h2
theorem Xw{w0 w:World}{ms:List Al}(hf:eE ops late ms=true)(hQ:∀c a d v w,Q (.panic c) (a.put d v) w↔Q (.panic c) a w)(hw:Below w0.heap.size w0 w)(i:Nat)(listed:Array Bool)(a:Act)(hp:nH ops [i]=true)(hB:zY ops late ms listed i=true)
 (h:wpQuiet P ops (fun w'=>∃x,w'=fc w0 x) (cZ P ops Q w0 late ms w (listed.setIfInBounds i true)) (dX ops [i]) a):cZ P ops Q w0 late ms w listed a:=by
 obtain⟨o,ho,hpo,_⟩:=zN hp;rw[zO ho]at h;have hst:qOp P ops (fun w'=>∃x,w'=fc w0 x) i (wpQuiet P ops (fun w'=>∃x,w'=fc w0 x) (cZ P ops Q w0 late ms w (listed.setIfInBounds i true)) (dX ops [])) a:=by unfold qOp;simp only[ho];exact h
 obtain⟨v,hy,hK⟩:=yieldsIn_of_qOp ho hst;refine Xv hf ho hB hQ hw ?_ hK;rcases hy with⟨h1,h2⟩|h1
 ·exact zP
 ·exact .inr h1
end
end Go.Proofs.YtlpombjidhloiaaGreat
