/- law10. Condition: what each theorem says. -/
import Derived.Test.YtlpombjidhloiaaGreatBaj
namespace Go.Proofs.YtlpombjidhloiaaGreat
open Go.RowKit
set_option maxRecDepth 100000
attribute [local go_sem ↓] Go.wp_at_zero Go.wp_at_succ
structure Lk where
 sort:Int
 n:Int
 s:List UInt8
 t:Int
deriving DecidableEq
def xF:Lk:=⟨0,0,[],0⟩
def pO:aL→Lk
 |.none=>xF
 |.whole n=>if n< -32768∨65535<n then xF else⟨1,n,[],0⟩
 |.letter n=>⟨2,n,[],0⟩
 |.truth b=>⟨3,if b then 1 else 0,[],0⟩
 |.bits n=>⟨4,n,[],0⟩
 |.str s=>⟨5,0,s,0⟩
 |.item t n=>⟨6,n,[],t⟩
 |.null=>⟨7,0,[],0⟩
def fa(l:Lk):Array Value:=#[.int .i64 l.sort,.int .i64 l.n,.string ⟨l.s.toArray⟩,.int .i64 l.t]
theorem info40:(Tryz.prog.info? 40).map (·.size)=some 4:=by kernel_rfl
def IF(w:World)(l:Lk):Ending→World→Prop:=Pv w (.agg (fa l))
theorem CO{fn:Func}{p:Tmp}(hfn:fn.results=#[.cell p 40]){w wF:World}{l:Lk}{tmps:Array Value}{ds:List Deferred}{k:Nat}(X:Bx k (fa l) 40 wF)(hb:Below w.heap.size w wF)(hd:ds=[])
 (hp:tmps.getD p undef=.pointer (some ⟨k,0,none⟩)):bodyPost Tryz.prog fn (IF w l) .ret ⟨tmps,ds⟩ wF:=by
 have hp':tmps[p]?.getD undef=.pointer (some ⟨k,0,none⟩):=by simpa using hp
 have hR:(results fn (Act.mk tmps ds).tmps).run Tryz.prog wF=.ok (.agg (fa l)) wF:=by
  simp[results,hfn,hp',asAddr,run_loadVar_row wF k _ _ _ (0,0) _ X Tryz.underlying40 rfl (info40.trans rfl)]
 exact bodyPost_ret hR hd ⟨rfl,hb⟩
theorem adP(w:World)(A B:Obj):((w.alloc A).alloc B).heap[w.heap.size]? =some A:=(Below.heap_alloc _ _ _ (by simp)).trans (heap_alloc_new _ _)
theorem IG(w:World)(A B:Obj):Below w.heap.size w ((w.alloc A).alloc B):=(cB w A).alloc (by simp) B
theorem SS(v:aL)(hv:Vw v)(w:World):Calls Tryz.prog 11 #[aK v] w (IF w (pO v)):=by
 cases v with
 |none=>
  exact IJ
 |null=>
  exact IJ
 |item t n=>
  exact IJ
 |letter n=>
  have HW:=aa (show wrap64 (n:Int)=n from Go.IntWalk.wrap64_in _ (by have:n<256:=hv;omega));go_enter Tryz.func11,Tryz.ntmps11;go_wp2_with fail;rw[HW.out];exact sL
 |bits n=>
  have HW:=aa (show wrap64 (n:Int)=n from Go.IntWalk.wrap64_in _ (by have:n<65536:=hv;omega));go_enter Tryz.func11,Tryz.ntmps11;go_wp2_with fail;rw[HW.out];exact sL
 |str s=>
  go_enter Tryz.func11,Tryz.ntmps11;go_wp2_with fail;exact sL
 |truth b=>
  go_enter Tryz.func11,Tryz.ntmps11;cases b<;>
  ·go_wp2_with fail;exact sL
 |whole n=>
  by_cases h1:n< -32768
  ·have HV:=aa (show pO (.whole n)=xF from if_pos (.inl h1));go_enter Tryz.func11,Tryz.ntmps11;go_wp2_with fail;rw[HV.out];exact sL
  by_cases h2:65535<n
  ·have HV:=aa (show pO (.whole n)=xF from if_pos (.inr h2));go_enter Tryz.func11,Tryz.ntmps11;go_wp2_with fail;rw[HV.out];exact sL
  ·have HV:=aa (show pO (.whole n)=⟨1,n,[],0⟩from if_neg (by omega));go_enter Tryz.func11,Tryz.ntmps11;go_wp2_with fail;rw[HV.out];exact sL
def kB(l:Lk):Lk:=match l.s with
 |[c]=>if l.sort=5 then⟨2,c.toNat,[],0⟩else l
 |_=>l
def uW(l:Lk):Bool:=let l:=kB l;decide (l.sort=1)||decide (l.sort=2)||decide (l.sort=3)||decide (l.sort=6)
def ID(l:Lk):Int:=if !uW (kB l)then 0 else(kB l).n
theorem Te(w:World)(A B:Obj):((w.alloc A).alloc B).heap[w.heap.size+1]? =some B:=by simpa using heap_alloc_new (w.alloc A) B
theorem Tf(l:Lk)(w:World):Calls Tryz.prog 42 #[.agg (fa l)] w (IF w (kB l)):=by
 obtain⟨so,n,s,t⟩:=l;dsimp only[fa];by_cases h5:so=5
 ·subst h5
  match s with
  |[c]=>
   have HW:=aa (show wrap64 (c.toNat:Int)=c.toNat from Go.IntWalk.wrap64_in _ (by have:=c.toNat_lt;omega));go_enter Tryz.func42,Tryz.ntmps42;go_wp2_with fail;refine CO (k:=w.heap.size+1) rfl ?_ (IG _ _ _) rfl rfl;refine(Te _ _ _).trans ?_;show some (Obj.cells #[_,.int .i64 (wrap64 (c.toNat:Int)),_,_] _)=_;rw[HW.out];rfl
  |[]=>
   go_enter Tryz.func42,Tryz.ntmps42;go_wp2_with fail;exact IK
  |a::b::s=>
   go_enter Tryz.func42,Tryz.ntmps42;go_wp2_with fail;exact IK
 ·have HV:=aa (show kB ⟨so,n,s,t⟩=⟨so,n,s,t⟩by unfold kB;split<;>simp[h5]);have d5:=beq_eq_false_iff_ne.2 h5;go_enter Tryz.func42,Tryz.ntmps42;go_wp2_with fail;rw[HV.out];exact IK
theorem IL{B k:Nat}{a w:World}{v0 v1 v2 v3:Value}(h:Below B a w)(hk:B≤k):Below B a ((((w.setCell ⟨k,0,none⟩ v0).setCell ⟨k,1,none⟩ v1).setCell ⟨k,2,none⟩ v2).setCell ⟨k,3,none⟩ v3):=(((h.setCell hk _).setCell hk _).setCell hk _).setCell hk _
theorem adQ{w:World}{k:Nat}{l:Lk}(h:Bx k (fa l) 40 w)(m:Lk):Bx k (fa m) 40 ((((w.setCell ⟨k,0,none⟩ (.int .i64 m.sort)).setCell ⟨k,1,none⟩ (.int .i64 m.n)).setCell ⟨k,2,none⟩ (.string ⟨m.s.toArray⟩)).setCell ⟨k,3,none⟩ (.int .i64 m.t)):=((((h.set 0 _).set 1 _).set 2 _).set 3 _)
theorem Tc(l:Lk)(w:World):Calls Tryz.prog 15 #[.agg (fa l)] w (Pv w (.bool (uW l))):=by
 have HV:=aa (show uW l=(decide ((kB l).sort=1)||decide ((kB l).sort=2)||decide ((kB l).sort=3)||decide ((kB l).sort=6))from rfl);have HC:=aa (fun w=>Tf l w);dsimp only[fa];go_enter Tryz.func15,Tryz.ntmps15;go_upto_region 1 with(fail);generalize az:w.alloc _=w1;obtain⟨ae,x1,aE⟩:=made az;have X1:=aa x1;have B1:=aa ae;have z1:=fun j=>x1.cell j
 clear az ae aE x1;go_wp2_with fail;refine(HC.out _).mono ?_;rintro e w2 ⟨rfl,af⟩;have x2:=X1.out.grow af;have B2:=aa (B1.out.trans (af.mono B1.out.size));have z2:=fun j=>x2.cell j
 have f2:=fun j=>x2.frozen j
 have l2:=x2.lt;clear af z1 x2 X1 B1 HC;generalize kB l=m at *;obtain⟨so,n,s,t⟩:=m;dsimp only[fa];dsimp only at HV;by_cases h1:so=1
 ·subst h1;exact CP
 have dh1:=beq_eq_false_iff_ne.2 h1;by_cases h2:so=2
 ·subst h2;exact CP
 have dh2:=beq_eq_false_iff_ne.2 h2;by_cases h3:so=3
 ·subst h3;exact CP
 have dh3:=beq_eq_false_iff_ne.2 h3;by_cases h6:so=6
 ·subst h6;exact CP
 have dh6:=beq_eq_false_iff_ne.2 h6;go_wp2_with fail;go_ret;exact⟨by rw[HV.out];simp[h1,h2,h3,h6],IL B2.out (Nat.le_refl _)⟩
theorem adL(l:Lk)(w:World):Calls Tryz.prog 14 #[.agg (fa l)] w (Pv w (.int .i64 (ID l))):=by
 have HV:=aa (show ID l=if !uW (kB l)then 0 else(kB l).n from rfl);have HC:=aa (fun w=>Tf l w);have HH:=aa (fun w=>Tc (kB l) w);dsimp only[fa];go_enter Tryz.func14,Tryz.ntmps14;go_upto_region 1 with(fail);generalize az:w.alloc _=w1;obtain⟨ae,x1,aE⟩:=made az;have X1:=aa x1;have B1:=aa ae;have z1:=fun j=>x1.cell j
 clear az ae aE x1;go_wp2_with fail;refine(HC.out _).mono ?_;rintro e w2 ⟨rfl,af⟩;have X2:=aa (X1.out.grow af);have B2:=aa (B1.out.trans (af.mono B1.out.size));have z2:=X2.out.cell;have f2:=X2.out.frozen;have l2:=X2.out.lt;clear af z1 X1 B1 HC;generalize kB l=m at *;generalize uW m=q at *;obtain⟨so,n,s,t⟩:=m;dsimp only[fa]at HH;dsimp only[fa];dsimp only at HV;go_upto_region 2 with(fail);have x3:=adQ X2.out ⟨so,n,s,t⟩;have b3:Below w.heap.size w _:=IL (v0:=.int .i64 so) (v1:=.int .i64 n) (v2:=.string ⟨s.toArray⟩) (v3:=.int .i64 t) B2.out (Nat.le_refl _);have X3:=aa x3;have B3:=aa b3;clear x3 b3 z2 f2 l2 X2 B2;dsimp only at X3;generalize(((w2.setCell _ _).setCell _ _).setCell _ _).setCell _ _=w3 at *;have z3:=X3.out.cell;have l3:=X3.out.lt;dsimp only[fa]at z3;go_wp2_with fail;refine(HH.out _).mono ?_;rintro e w4 ⟨rfl,aw⟩;have x4:=X3.out.grow aw;have B4:=aa (B3.out.trans (aw.mono B3.out.size));have z4:=fun j=>x4.cell j
 dsimp only[fa]at z4;clear aw z3 x4 X3 B3 HH;cases q
 ·go_wp2_with fail;go_ret;exact⟨by rw[HV.out];rfl,B4.out⟩
 ·go_wp2_with fail;go_ret;exact⟨by rw[HV.out];rfl,B4.out⟩
end Go.Proofs.YtlpombjidhloiaaGreat
