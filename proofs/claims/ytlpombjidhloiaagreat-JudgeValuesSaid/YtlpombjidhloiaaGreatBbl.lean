/- The engine's tables at this program, with the hooks of strin. What the run tells of scope. Condition: what each theorem says. -/
import Derived.Test.YtlpombjidhloiaaGreatBbk
import Derived.Test.YtlpombjidhloiaaGreatShelf
import Derived.Test.YtlpombjidhloiaaGreatBan
namespace Go.Proofs.Tryz
open Go.Proofs.YtlpombjidhloiaaGreat.Eng
noncomputable def Aj(l:List Nat)(s:St):Option (AV×St):=List.rec none (fun c _ ih=>Bool.rec ih (some (.ptr (Nat.add c 2) 0,⟨po (wH c) s.heap,Nat.add c 55,s.wr⟩)) (Nat.ble s.next c)) l
noncomputable def Gb(l:List Nat):List AV→St→Option (AV×St)
 |[]=>Aj l
 |_=>fun _=>none
noncomputable def Yf(c:Nat)(args:List AV)(s:St):Option (AV×St):=Nat.rec (uf s args) (fun c _=>Nat.rec (Gb [20000] args s) (fun _ _=>none) c) c
noncomputable def ext1:T Nat:=(T.set .leaf 148 0).set 18 1
noncomputable def B1:Tb:=tb Tryz.prog ext1 Yf
end Go.Proofs.Tryz
namespace Go.Proofs.Tryz
open Go.Proofs.YtlpombjidhloiaaGreat.Eng
set_option maxRecDepth 100000
theorem Yl:MR 20000 where
 big:=by decide
 a0:=by kernel_rfl
 a1:=by kernel_rfl
 a2:=by kernel_rfl
 a2m:=by kernel_rfl
 a3:=fun i it x y L hi hx=>by
  rcases XT hi with rfl|rfl|rfl|rfl|rfl|rfl<;>rcases hx with rfl|rfl<;>kernel_rfl
 a4:=fun i it p L hi hp=>by
  rcases MS hi with rfl|rfl|rfl|rfl|rfl<;>rcases wI hp with rfl|rfl|rfl|rfl|rfl<;>kernel_rfl
 a5:=fun i it p L hi hp=>by
  rcases MS hi with rfl|rfl|rfl|rfl|rfl<;>rcases wI hp with rfl|rfl|rfl|rfl|rfl<;>kernel_rfl
 a6:=fun it=>by kernel_rfl
theorem lP(l:List Nat):(bw l).size=l.length:=by
 show((l.map UInt8.ofNat).toArray).size=_;simp
theorem mR(l:List Nat):(bw l).data.toList=l.map UInt8.ofNat:=by
 show((l.map UInt8.ofNat).toArray).toList=_;simp
theorem XA:Enters Tryz.prog 148:=enters_of Tryz.func148 (by kernel_rfl) rfl
theorem XB [FX]{s s':St}{e:En}{w:World}{args:List AV}{v:AV}{vs:Array Value}(hx:uf s args=some (v,s'))(hr:aZ e s w)(hl:RL e s.next args vs.toList){ob:Obj}{m:Int}(hf:FX.F 0=some ob)(hm:∀w:World,w.heap[0]? =some ob→w.cell? ⟨0,0,none⟩=some (.int .i64 m))
 {o:Oper} {a:Act} {K:Act→World→Prop} {Q:Exit→Act→World→Prop} (hK:∀e' w' u,aW e s w e' s' w'→R e' s'.next v u→K (a.put o.dst u) w'):o.upon Tryz.prog a K Q ((callFunc 148 vs).run Tryz.prog w):=by
 obtain⟨x,y,rfl,hlt,rfl,rfl⟩:=XC hx;obtain⟨h1,h2,rfl⟩:=XE hl;rw[gQ]at hlt;have hc:=Tryz.strings_Contains (bw x) (bw y) m w (by rw[lP];exact hlt) (hm w (hr.fx 0 ob hf).1);refine XG hr (XA _ w) hc ?_ hK;rw[mR,mR,←MK h2 h1];rfl
theorem FJ [FX]:bS Tryz.prog B0:=ML _ _ _ (by kernel_rfl)
theorem XH [FX]{ob:Obj}{m:Int}(hf:FX.F 0=some ob)(hm:∀w:World,w.heap[0]? =some ob→w.cell? ⟨0,0,none⟩=some (.int .i64 m)):ug Tryz.prog B0:=by
 intro f c args s s' v e w vs h hx hr hgl hl o a K Q hK
 replace h:(T.set .leaf 148 0).at_ f=some c:=h
 rw[T.at_set]at h;by_cases hfe:148=f
 ·rw[if_pos hfe]at h;cases h;subst hfe;exact MM
 ·rw[if_neg hfe,T.at_leaf]at h;cases h
theorem mixed:Tryz.prog.follows .mixedOrders=true:=by kernel_rfl
theorem XI [FX]{ob:Obj}{m:Int}(hf:FX.F 0=some ob)(hm:∀w:World,w.heap[0]? =some ob→w.cell? ⟨0,0,none⟩=some (.int .i64 m))(n:Nat):(uh Tryz.prog B0 n∧qB Tryz.prog B0 n∧qD Tryz.prog B0 n)∧ui Tryz.prog B0 n∧Ac Tryz.prog B0 n∧wB Tryz.prog B0 n∧wC Tryz.prog B0 n:=
 FK FJ (XH hf hm) mixed n
end Go.Proofs.Tryz
namespace Go.Proofs.Tryz
open Go.Proofs.YtlpombjidhloiaaGreat.Eng
set_option maxRecDepth 100000
open Go.RowKit (Below)
theorem FV{c0:Nat}{L:List (AV×AV)}{b:Nat}{o:bk}(h:(jK c0 L).at_ b=some o):(b=c0∧o=.map .str L)∨(b=c0+1∧o=nJ c0)∨(b=c0+2∧o=nK c0):=by
 unfold jK at h;rw[T.at_set,T.at_set,T.at_set]at h;by_cases h2:c0+2=b
 ·rw[if_pos h2]at h;cases h;exact .inr (.inr ⟨h2.symm,rfl⟩)
 ·rw[if_neg h2]at h;by_cases h1:c0+1=b
  ·rw[if_pos h1]at h;cases h;exact .inr (.inl ⟨h1.symm,rfl⟩)
  ·rw[if_neg h1]at h;by_cases h0:c0=b
   ·rw[if_pos h0]at h;cases h;exact .inl ⟨h0.symm,rfl⟩
   ·rw[if_neg h0,T.at_leaf]at h;cases h
theorem MT(c0:Nat)(L:List (AV×AV)):(jK c0 L).at_ c0=some (.map .str L):=by
 unfold jK;rw[T.at_set,T.at_set,T.at_set,if_neg (by omega),if_neg (by omega),if_pos rfl]
theorem XU(c0:Nat)(L:List (AV×AV)):(jK c0 L).at_ (c0+1)=some (nJ c0):=by
 unfold jK;rw[T.at_set,T.at_set,if_neg (by omega),if_pos rfl]
theorem XV(c0:Nat)(L:List (AV×AV)):(jK c0 L).at_ (c0+2)=some (nK c0):=by
 unfold jK;rw[T.at_set,if_pos rfl]
theorem uo [FX]{c0:Nat}{L:List (AV×AV)}{s:St}(h0:s.heap.at_ c0=some (.map .str L))(h1:s.heap.at_ (c0+1)=some (nJ c0))(h2:s.heap.at_ (c0+2)=some (nK c0)):∀b o,(jK c0 L).at_ b=some o→s.heap.at_ b=some o:=fun b o h=>by
 rcases FV h with⟨rfl,rfl⟩|⟨rfl,rfl⟩|⟨rfl,rfl⟩
 ·exact h0
 ·exact h1
 ·exact h2
theorem FW:∀p∈five,MU p:=fun p h=>by
 rcases wI h with rfl|rfl|rfl|rfl|rfl<;>exact⟨trivial,trivial⟩
theorem XW(ps:List (AV×AV)):(ps.map dB).map Prod.fst=ps.map Prod.fst:=by
 rw[List.map_map];rfl
structure NI [FX](e:En)(c0:Nat)(w:World)(q it:Nat)(ents xs:List MapEntry)(a':Act)(w':World):Prop where
 mk::
 all:∃e',eF e c0 w e' (Sx c0 xs.length ((xs.map cj).map dB)) w'∧lQ e' (Sx c0 xs.length ((xs.map cj).map dB)) w' q∧lQ e' (Sx c0 xs.length ((xs.map cj).map dB)) w' it∧aY e' (c0+4+2*xs.length) dY (nL c0 it) a'
 wk:Wk q it ents xs w'
 far:w.heap.size≤q∧w.heap.size≤it
 ne:q≠it
 sz:a'.tmps.size=52
 ds:a'.defers=[]
theorem Wk.len{q it:Nat}{es xs:List MapEntry}{w:World}(h:Wk q it es xs w):xs.length≤es.length:=by
 obtain⟨_,_,_,_,rfl,_,_,h⟩:=h;rw[h.length_eq];exact List.length_filter_le _ _
theorem Wk.nodup{α:Type}{g:MapEntry→α}{q it:Nat}{es xs:List MapEntry}{w:World}(h:Wk q it es xs w)(hn:(es.map g).Nodup):(xs.map g).Nodup:=by
 obtain⟨_,_,_,_,rfl,_,_,h⟩:=h;exact((h.map g).nodup_iff).2 ((List.filter_sublist.map g).nodup hn)
theorem Wk.mem{q it:Nat}{es xs:List MapEntry}{w:World}(h:Wk q it es xs w){x:MapEntry}(hx:x∈xs):x∈es:=by
 obtain⟨_,_,_,_,rfl,_,_,h⟩:=h;exact(List.mem_filter.1 (h.mem_iff.1 hx)).1
theorem MW{e e':En}{k k':Nat}{p:AV}{v:Value}(hp:match p with|.str _=>True|.int _ _=>True|_=>False)(h:R e k p v):R e' k' p v:=by
 cases p<;>first|exact h|exact hp.elim
theorem dZ.pick{e:En}{k:Nat}:∀{ps:List (AV×AV)} {l:List MapEntry},dZ e k ps (l.map fun x=>(x.key,x.val))→∀x∈l,∃p∈ps,R e k p.1 x.key∧R e k p.2 x.val
 |[],[],_,x,hx=>by cases hx
 |[],_::_,h,_,_=>by cases h
 |p::ps,[],h,x,hx=>by cases hx
 |p::ps,y::l,h,x,hx=>by
  obtain⟨u,v,r,h1,h2,h3,h4⟩:=h;injection h1 with h5 h6
  injection h5 with h7 h8
  subst h7 h8 h6;rcases List.mem_cons.1 hx with rfl|hx
  ·exact⟨p,by simp,h2,h3⟩
  ·obtain⟨p',h5,h6⟩:=dZ.pick h4 x hx;exact⟨p',by simp[h5],h6⟩
theorem FY [FX]{e:En}{k k':Nat}{tm:Tm}{a:Act}{it c0:Nat}(t:aY e k dY tm a)(h1:ev (bM dY 1) tm=.ptr (c0+2) 0)(h13:ev (bM dY 13) tm=.lit (.pointer (some ⟨it,0,none⟩)))(hk:k≤k'):aY e k' dY (nL c0 it) a:=
 aY.two (t.1.ext (cW.refl _ _) hk) (by have h:=t.2 1;rw[h1]at h;exact h.ext (cW.refl _ _) hk) (by have h:=t.2 13;rw[h13]at h;exact h)
theorem XX:Tryz.f18.results.toList=[.tmp 0]:=by kernel_rfl
theorem XY [FX]{c0:Nat}(F:MR c0){ob:Obj}{m:Int}(hf:FX.F 0=some ob)(hm:∀w:World,w.heap[0]? =some ob→w.cell? ⟨0,0,none⟩=some (.int .i64 m)):Go.Proofs.YtlpombjidhloiaaGreat.Eng.Loc Tryz.prog 18 [] c0 (c0+55) (.ptr (c0+2) 0) (wH c0):=by
 intro e w vs hr hgl hl o a K Q hK;obtain⟨⟨hO,hC,_⟩,_⟩:=XI hf hm 100000;have hvs:vs=#[]:=Array.toList_inj.1 (show vs.toList=[]from hl);subst hvs;obtain⟨hfn,hcall⟩:=FZ FJ XP MP #[] w;rw[hcall,Oper.upon_enter];refine calls_of_wp_defers hfn MP ?_;generalize hA:({tmps:=#[]++Array.replicate (Tryz.f18.ntmps-(#[]:Array Value).size) undef,defers:=[]}:Act)=a0;have hsz:a0.tmps.size=ew B0 18:=by rw[←hA,wE];kernel_rfl
 have hd:a0.defers=[]:=by rw[←hA]
 have T0:aY e c0 (cY B0 18) ⟨.leaf,.nil⟩ a0:=aY.none hgl;refine wp_seq (Ad hC hr T0 hsz hd F.a0 fun e1 a1 w1 Vs t1 sz1 d1=>?_);refine wp_seq (Ad hC Vs.rep t1 sz1 d1 F.a1 fun e2 a2 w2 Dv t2 sz2 d2=>?_);have F2:eF e c0 w e2 (uj (A1 c0)) w2:=((eF.start hr).step Vs).step Dv;obtain⟨Vt,s3,vm,p0,p1,p2,pn,v1,_,v12⟩:=wG F.a2;have pm:s3.heap.at_ (c0+3)=some (.map .str five):=by
  have:=F.a2m;rw[vm]at this;exact this
 refine wp_seq (wp_seq (wp_region_list (XZ XK ?_)));refine Ae hO Dv.rep t2.fresh (by rw[sz2,wE]) d2 vm fun e3 a3 w3 st3 t3 Vu d3=>?_
 have F3:=F2.step st3;obtain⟨m1,m2,r,m3,m4⟩:=F3.rep.obj _ _ pm;obtain⟨ents,clock,es',rfl,k1,k2,k3⟩:=m4;have hq:=F3.far _ _ pm;generalize hqe:e3.σ (c0+3)=q at *;have hback:ents.toList.map cj=es':=dZ.back k1 (fun p hp=>FW p (k2.1.mem_iff.2 hp));have Jz:ents.toList.length=5:=by
  have h1:=congrArg List.length hback;have h2:=k2.1.length_eq;rw[List.length_map]at h1;rw[h1,←h2];rfl
 obtain⟨kt,et,hmt⟩:=XN;obtain⟨x1,x2⟩:=Ya (P:=Tryz.prog) hmt m3 k3;have agd:a3.eval (.tmp 12)=.map (some q):=by
  have h:R e3 s3.next (ev (bM dY 12) Vt) _:=t3.2 12;rw[v12]at h;rw[←hqe];exact h.2
 refine Af FO.2.2 (Yb FO.1 agd x1) (wpList_nil ?_);rw[FO.2.1];refine wp_block ?_;have JA:∀b o,(jK c0 []).at_ b=some o→s3.heap.at_ b=some o:=uo p0 p1 p2;have F4:eF e c0 w e3 (Sx c0 0 []) (w3.alloc (.mapIter (some q) clock #[] clock)):=(F3.more _).drop (s':=Sx c0 0 []) JA (by show s3.next≤c0+4+2*0;omega);refine Yc (N:=5) (I:=NI e c0 w q w3.heap.size ents.toList) (fun xs a w h=>by rw[←Jz];exact Wk.len h.wk) ?_ ?_;case refine_2=>
  have hoff:lQ e3 (Sx c0 0 []) (w3.alloc (.mapIter (some q) clock #[] clock)) q:=⟨by have:=(Array.getElem?_eq_some_iff.1 m3).1;simp;omega,fun b o hb he=>by
   have h1:=F3.rep.inj _ _ _ _ (JA b o hb) pm (by rw[he,hqe]);rcases FV hb with⟨rfl,_⟩|⟨rfl,_⟩|⟨rfl,_⟩<;>omega⟩
  refine⟨⟨e3,F4,hoff,⟨by simp,fun b o hb he=>?_⟩,?_⟩,x2,⟨hq,F3.below.size⟩,?_,?_,?_⟩
  ·have:=(F3.rep.obj b o (JA b o hb)).2.1;omega
  ·refine aY.two (t3.1.ext (cW.refl _ _) (by show s3.next≤c0+4+2*0;omega)) ?_ ?_
   ·have h:R e3 s3.next (ev (bM dY 1) Vt) _:=t3.2 1;rw[v1]at h;rw[(Ag a3 (some 13) _ 1).2.2 (by decide)];exact h.ext (cW.refl _ _) (by show s3.next≤c0+4+2*0;omega)
   ·rw[(Ag a3 (some 13) _ 13).1 rfl (by rw[Vu];decide)];rfl
  ·have:=(Array.getElem?_eq_some_iff.1 m3).1;omega
  ·rw[jZ];exact Vu
  ·rw[kG];exact d3
 case refine_1=>
  intro xs a4 w4 I;obtain⟨⟨e4,G4,oq,oi,t4⟩,wk,⟨fq,fi⟩,hne,JB,d4⟩:=I;generalize hit:w3.heap.size=it at *;rw[XJ];have Vv:a4.eval (.tmp 13)=.pointer (some ⟨it,0,none⟩):=by
   have h:=t4.2 13;rw[show ev (bM dY 13) (nL c0 it)=.lit (.pointer (some ⟨it,0,none⟩))from by kernel_rfl]at h;exact h
  have rk:aY e4 (Sx c0 xs.length ((xs.map cj).map dB)).next dY (nL c0 it) a4:=t4;have Vx:∀d,(some 14:Option Nat)=some d→d<a4.tmps.size:=fun d hd=>by cases hd;rw[JB];decide
  have age:∀{a:Act},a.tmps.size=52→∀d,(some 16:Option Nat)=some d→d<a.tmps.size:=fun hs d hd=>by cases hd;rw[hs];decide
  refine wp_seq (wp_region_list ?_);rw[XL];rcases Yd (P:=Tryz.prog) wk hne (jY ops3 0).type with⟨hp,hnx⟩|⟨x,hxe,hxn,w5,hnx,Dw,hbut,hen⟩
  ·
   have hlen:xs.length=5:=by rw[hp.length_eq,Jz]
   refine Af uk.2.2 (MX uk.1 Vv hnx) ?_;rw[uk.2.1];have tA:aY e4 (Sx c0 xs.length ((xs.map cj).map dB)).next dY (put (md dY (some 14)) (.tup (.bool false::[])) (nL c0 it)) (a4.put (some 14) (.tuple #[.bool false])):=aY.put rk (show R e4 _ (.tup (.bool false::[])) (.tuple #[.bool false])from⟨_,rfl,_,_,rfl,rfl,rfl⟩) (fun d hd=>.inl (Vx d hd));obtain⟨JC,s5,JD,q0,q1,q2,qn,y1,y13,y15⟩:=wG (F.a3 xs.length it (.bool false) [] ((xs.map cj).map dB) (by omega) (.inr rfl));refine Ae hO G4.rep tA (by rw[jZ];exact JB) (by rw[kG];exact d4) JD fun e6 a6 w6 pS t6 Dx d6=>?_
   have h15:a6.eval (.tmp 15)=.bool false:=by
    exact MY
   refine wp_seq (wp_cond_false h15 (wp_exit ?_));simp only[Exit.then,Exit.inBlock,if_true];have F6:eF e c0 w e6 (Sx c0 5 ((xs.map cj).map dB)) w6:=(G4.step pS).drop (uo q0 q1 q2) (by show s5.next≤c0+4+2*5;rw[hlen]at qn;exact qn);have hperm:(five.map dB).Perm ((xs.map cj).map dB):=by
    refine List.Perm.map _ ?_;refine k2.1.trans ?_;rw[←hback];exact(hp.map cj).symm
   have F7:eF e c0 w e6 (Sx c0 5 (five.map dB)) w6:=F6.perm (MT _ _) hperm rfl fun c=>by
    show(jK c0 _).at_ c=if c0=c then _ else(jK c0 _).at_ c
    unfold jK;rw[T.at_set,T.at_set,T.at_set,T.at_set,T.at_set,T.at_set];by_cases hc:c0=c
    ·subst hc;rw[if_pos rfl,if_neg (by omega),if_neg (by omega),if_pos rfl]
    ·rw[if_neg hc,if_neg hc,if_neg hc]
   obtain⟨Dy,s9,hA6,r0,r1,r2,rn,_,_,r00⟩:=XS (F.a6 it);refine Ad hC F7.rep (FY t6 y1 y13 (by show s5.next≤c0+4+2*5;rw[hlen]at qn;exact qn)) (by rw[Dx,wE]) d6 hA6 fun e9 a9 w9 Vy t9 sz9 d9=>?_
   show Leaves Tryz.prog Tryz.f18 a9.tmps _ a9.defers .returning w9;rw[d9]
   let Z:Ending→World→Prop:=fun
    |.returned v,w''=>K (a.put o.dst v) w''
    |.panicked qE,w''=>Q (.panic qE) a w''
    |.outgrown,_=>LetsOut Q
   suffices hz:hY e9 s9 w9 Z (nG 18 Tryz.f18 B0 Dy s9)from Ga (P:=Tryz.prog) FJ Vy.rep t9 hz
   unfold nG;rw[XX];intro e10 w10 x10 agh agi;have F10:eF e c0 w e10 ⟨jK c0 items,c0+55,[]⟩ w10:=((F7.step Vy).step agh).drop (uo r0 r1 r2) rn;have agj:R e10 s9.next (.ptr (c0+2) 0) x10:=by
    have h:R e10 s9.next (ev (bM dY 0) Dy) x10:=agi;rw[r00]at h;exact h
   refine hK e10 w10 x10 _ (F10.stp rfl fun b hb=>?_) (Nat.le_refl _) ?_ (agj.ext (cW.refl _ _) rn)
   ·cases hh:(⟨jK c0 items,c0+55,[]⟩:St).heap.at_ b with
    |none=>rfl
    |some o=>rcases FV hh with⟨rfl,_⟩|⟨rfl,_⟩|⟨rfl,_⟩<;>omega
   ·intro z hz;rcases List.mem_cons.1 hz with rfl|hz
    ·exact⟨Nat.le_refl _,_,MT _ _,fun _ _ h=>h⟩
    rcases List.mem_cons.1 hz with rfl|hz
    ·exact⟨Nat.le_succ _,_,XU _ _,fun _ _ h=>h⟩
    rcases List.mem_cons.1 hz with rfl|hz
    ·exact⟨Nat.le_add_right _ _,_,XV _ _,fun _ _ h=>h⟩
    cases hz
  ·have hx5:(xs++[x]).length≤5:=by rw[←Jz];exact Wk.len Dw
   have Vz:xs.length<5:=by rw[List.length_append,List.length_singleton]at hx5;omega
   have hpf:cj x∈five:=by
    have:cj x∈ents.toList.map cj:=List.mem_map.2 ⟨x,hxe,rfl⟩;rw[hback]at this;exact k2.1.mem_iff.2 this
   have hpl:=FW _ hpf;obtain⟨p',hp',mE,fQ⟩:=dZ.pick k1 x hxe;have hpp:p'=cj x:=by
    have h5:=FW p' (k2.1.mem_iff.2 hp');unfold cj;rw[Ah h5.1 mE,Ah h5.2 fQ]
   subst hpp;refine Af uk.2.2 (MX uk.1 Vv hnx) ?_;rw[uk.2.1];have G5:eF e c0 w e4 (Sx c0 xs.length ((xs.map cj).map dB)) w5:=G4.side fi oi.2 hbut;have tA:aY e4 (Sx c0 xs.length ((xs.map cj).map dB)).next dY (put (md dY (some 14)) (.tup (.bool true::[.bot,.bot])) (nL c0 it)) (a4.put (some 14) (.tuple #[.bool true,x.key,x.val])):=aY.put rk (show R e4 _ (.tup (.bool true::[.bot,.bot])) (.tuple #[.bool true,x.key,x.val])from⟨_,rfl,_,_,rfl,rfl,_,_,rfl,trivial,_,_,rfl,trivial,rfl⟩) (fun d hd=>.inl (Vx d hd));obtain⟨JC,s5,JD,q0,q1,q2,qn,y1,y13,y15⟩:=wG (F.a3 xs.length it (.bool true) [.bot,.bot] ((xs.map cj).map dB) (by omega) (.inl rfl));refine Ae hO G5.rep tA (by rw[jZ];exact JB) (by rw[kG];exact d4) JD fun e6 a6 w6 pS t6 Dx d6=>?_
   have h15:a6.eval (.tmp 15)=.bool true:=by
    exact MY
   have JE:lQ e4 (Sx c0 xs.length ((xs.map cj).map dB)) w5 q:=⟨by rw[hbut.size];exact oq.1,oq.2⟩;have JF:lQ e4 (Sx c0 xs.length ((xs.map cj).map dB)) w5 it:=⟨by rw[hbut.size];exact oi.1,oi.2⟩;have JG:=uo q0 q1 q2;have G6:eF e c0 w e6 (Sx c0 xs.length ((xs.map cj).map dB)) w6:=(G5.step pS).drop JG qn;have JH:lQ e6 (Sx c0 xs.length ((xs.map cj).map dB)) w6 q:=⟨(JE.step pS).1.1,fun b o hb=>(JE.step pS).1.2 b o (JG b o hb)⟩;have JI:lQ e6 (Sx c0 xs.length ((xs.map cj).map dB)) w6 it:=⟨(JF.step pS).1.1,fun b o hb=>(JF.step pS).1.2 b o (JG b o hb)⟩;have VC:=(JE.step pS).2;have VD:=(JF.step pS).2;have wk6:=Dw.keep VC VD;refine wp_seq (wp_cond_true h15 (wp_skip ?_));refine wp_block (wp_seq (wp_region_list ?_));rw[XM];have agm:a6.eval (.tmp 13)=.pointer (some ⟨it,0,none⟩):=by
    have h:R e6 s5.next (ev (bM dY 13) JC) (a6.tmps.getD 13 undef):=t6.2 13;rw[y13]at h;exact h
   refine Af FP.2.2 (Ye FP.1 agm (hen w6 VC VD)) ?_;rw[FP.2.1];have tB:aY e6 (Sx c0 xs.length ((xs.map cj).map dB)).next dY (put (md dY (some 16)) (.tup [(cj x).1,(cj x).2]) (nL c0 it)) (a6.put (some 16) (.tuple #[x.key,x.val])):=
    aY.put (FY t6 y1 y13 qn) (show R e6 _ (.tup [(cj x).1,(cj x).2]) (.tuple #[x.key,x.val])from⟨_,rfl,_,_,rfl,MW hpl.1 mE,_,_,rfl,MW hpl.2 fQ,rfl⟩) (fun d hd=>.inl (age Dx d hd))
   obtain⟨JJ,s7,VE,u0,u1,u2,un,z1,z13,_⟩:=wG (F.a4 xs.length it (cj x) ((xs.map cj).map dB) Vz hpf);refine Ae hO G6.rep tB (by rw[jZ];exact Dx) (by rw[kG];exact d6) VE fun e7 a7 w7 sV t7 sz7 d7=>?_
   have JK:=uo u0 u1 u2;have G7:eF e c0 w e7 (Sx c0 xs.length ((xs.map cj).map dB)) w7:=(G6.step sV).drop JK un;have JL:lQ e7 (Sx c0 xs.length ((xs.map cj).map dB)) w7 q:=⟨(JH.step sV).1.1,fun b o hb=>(JH.step sV).1.2 b o (JK b o hb)⟩;have JM:lQ e7 (Sx c0 xs.length ((xs.map cj).map dB)) w7 it:=⟨(JI.step sV).1.1,fun b o hb=>(JI.step sV).1.2 b o (JK b o hb)⟩;have wk7:=wk6.keep (JH.step sV).2 (JI.step sV).2;obtain⟨tm8,s8,hA5,b0,b1,b2,bn,c1,c13,_⟩:=wG (F.a5 xs.length it (cj x) ((xs.map cj).map dB) Vz hpf);have hA5':run B0 100000 (.code FM 18 JJ [] (Sx c0 xs.length ((xs.map cj).map dB)))=.ok .normal tm8 [] s8:=by
    have h:sc (A4 c0 xs.length it (cj x).1 (cj x).2 ((xs.map cj).map dB))=JJ:=by rw[VE];rfl
    rw[←h];exact hA5
   have t7':aY e7 (Sx c0 xs.length ((xs.map cj).map dB)).next (cY B0 18) JJ a7:=t7.ext (cW.refl _ _) un;refine Ad hC G7.rep t7' (by rw[sz7,wE]) d7 hA5' fun e8 a8 w8 sW t8 sz8 d8=>?_
   show ∃x,NI e c0 w q it ents.toList (xs++[x]) a8 w8;have hnd:((xs++[x]).map fun x=>(cj x).1).Nodup:=Wk.nodup Dw (by
    have h:=k2.2.2;rw[←hback,List.map_map]at h;exact h)
   rw[List.map_append,List.nodup_append]at hnd;have hkeys:((xs.map cj).map dB).map Prod.fst=xs.map fun x=>(cj x).1:=by rw[XW,List.map_map];rfl
   have hfits:∀p∈(xs.map cj).map dB,fits .str p.1=true:=fun p hp=>by
    obtain⟨p2,hp2,rfl⟩:=List.mem_map.1 hp;obtain⟨y,hy,rfl⟩:=List.mem_map.1 hp2;have oI:cj y∈ents.toList.map cj:=List.mem_map.2 ⟨y,Wk.mem Dw (by simp[hy]),rfl⟩;rw[hback]at oI;rcases wI (k2.1.mem_iff.2 oI)with h|h|h|h|h<;>(rw[h];rfl)
   have hfx:fits .str (cj x).1=true:=by rcases wI hpf with h|h|h|h|h<;>(rw[h];rfl)
   have hput:gK (cj x).1 (dB (cj x)).2 ((xs.map cj).map dB)=((xs++[x]).map cj).map dB:=by
    rw[(Ai hfx hfits (by rw[hkeys];exact hnd.1)).2 (by
     rw[hkeys];intro hm;exact hnd.2.2 _ hm _ (by simp) rfl),List.map_append,List.map_append]
    rfl
   rw[hput]at b0;have JN:=uo b0 b1 b2;have ags:(xs++[x]).length=xs.length+1:=by simp
   have bn':s8.next≤(Sx c0 (xs++[x]).length (((xs++[x]).map cj).map dB)).next:=by rw[ags];exact bn
   have G8:eF e c0 w e8 (Sx c0 (xs++[x]).length (((xs++[x]).map cj).map dB)) w8:=(G7.step sW).drop JN bn';refine⟨x,⟨e8,G8,⟨(JL.step sW).1.1,fun b o hb=>(JL.step sW).1.2 b o (JN b o hb)⟩,⟨(JM.step sW).1.1,fun b o hb=>(JM.step sW).1.2 b o (JN b o hb)⟩,FY t8 c1 c13 bn'⟩,wk7.keep (JL.step sW).2 (JM.step sW).2,⟨fq,fi⟩,hne,by rw[sz8,wE],d8⟩
end Go.Proofs.Tryz
namespace Go.Proofs.Tryz
open Go.Proofs.YtlpombjidhloiaaGreat.Eng
set_option maxRecDepth 100000
theorem MZ:∀{l:List Nat} {s s':St} {v:AV},Aj l s=some (v,s')→∃c∈l,s.next≤c∧v=.ptr (c+2) 0∧s'=⟨po (wH c) s.heap,c+55,s.wr⟩
 |[],_,_,_,h=>by cases h
 |c::l,s,s',v,h=>by
  replace h:(Bool.rec (Aj l s) (some (.ptr (Nat.add c 2) 0,⟨po (wH c) s.heap,Nat.add c 55,s.wr⟩)) (Nat.ble s.next c):Option (AV×St))=some (v,s'):=h
  cases hb:Nat.ble s.next c with
  |false=>
   rw[hb]at h;obtain⟨c',h1,h2⟩:=MZ h;exact⟨c',by simp[h1],h2⟩
  |true=>
   rw[hb]at h;injection (show some (AV.ptr (c+2) 0,(⟨po (wH c) s.heap,c+55,s.wr⟩:St))=some (v,s')from h)with h
   injection h with h1 h2
   exact⟨c,by simp,Nat.le_of_ble_eq_true hb,h1.symm,h2.symm⟩
theorem Yj{l:List Nat}{args:List AV}{s s':St}{v:AV}(h:Gb l args s=some (v,s')):args=[]∧Aj l s=some (v,s'):=by
 cases args with
 |nil=>exact⟨rfl,h⟩
 |cons _ _=>cases h
theorem b1_tb [FX]:bS Tryz.prog B1:=ML _ _ _ (by kernel_rfl)
theorem b1_ext [FX]{ob:Obj}{m:Int}(hf:FX.F 0=some ob)(hm:∀w:World,w.heap[0]? =some ob→w.cell? ⟨0,0,none⟩=some (.int .i64 m)):ug Tryz.prog B1:=by
 intro f c args s s' v e w vs h hx hr hgl hl o a K Q hK
 replace h:ext1.at_ f=some c:=h
 unfold ext1 at h;rw[T.at_set]at h;by_cases h18:18=f
 ·rw[if_pos h18]at h;cases h;subst h18;obtain⟨rfl,dK⟩:=Yj (show Gb [20000] args s=some (v,s')from hx);obtain⟨c,hc,hle,rfl,rfl⟩:=MZ dK;rw[List.mem_singleton]at hc;subst hc;exact Yk (XY Yl hf hm) hle hr hgl hl hK
 rw[if_neg h18,T.at_set]at h;by_cases h463:148=f
 ·rw[if_pos h463]at h;cases h;subst h463;exact MM
 rw[if_neg h463,T.at_leaf]at h;cases h
theorem works_true [FX]{ob:Obj}{m:Int}(hf:FX.F 0=some ob)(hm:∀w:World,w.heap[0]? =some ob→w.cell? ⟨0,0,none⟩=some (.int .i64 m))(hW:zI (run B1 1000000 (.fn 7 [] ⟨.leaf,1000,[]⟩))=true){w:World}(h0:∀g o,FX.F g=some o→w.heap[g]? =some o):Calls Tryz.prog 7 #[] w fun e w'=>e=.returned (.bool true)∧RowKit.Below w.heap.size w w':=
 Ym b1_tb (b1_ext hf hm) mixed (n:=1000000) (f:=7) (args:=[]) (vs:=#[]) (w:=w) (by kernel_rfl) hW (fun e=>rfl) h0
end Go.Proofs.Tryz
namespace Go.Proofs.YtlpombjidhloiaaGreat
open Go.Proofs.YtlpombjidhloiaaGreat.Eng Go.RowKit
set_option maxRecDepth 100000
def sq(s:List UInt8):List Nat:=s.map UInt8.toNat
theorem Yn(s:List UInt8):bw (sq s)=⟨s.toArray⟩:=by
 show(⟨((s.map UInt8.toNat).map UInt8.ofNat).toArray⟩:ByteArray)=_;rw[List.map_map];congr 2
 induction s with
 |nil=>rfl
 |cons c s ih=>simp[ih]
def lh(e:Eng.En)(k:Nat)(w:World)(x:OB):Prop:=∃r,w.heap[e.σ x.b]? =some r∧RO e k x.b x.obj r
theorem Na{α:Type}{s:Nat}:∀{rows:List (List α)} (_:∀l∈rows,l.length=s) {idx:Nat} {a:α},rows.flatten[idx]? =some a→∃i j l,idx=i*s+j∧rows[i]? =some l∧l[j]? =some a
 |[],_,idx,a,h=>by simp at h
 |l::rows,hs,idx,a,h=>by
  have hl:=hs l (by simp);rw[List.flatten_cons]at h;rcases Nat.lt_or_ge idx l.length with hi|hi
  ·rw[List.getElem?_append_left hi]at h;exact⟨0,idx,l,by omega,rfl,h⟩
  ·rw[List.getElem?_append_right hi]at h;obtain⟨i,j,l',h1,h2,h3⟩:=Na (fun x hx=>hs x (by simp[hx])) h;exact⟨i+1,j,l',by rw[Nat.add_mul];omega,by simpa using h2,h3⟩
theorem Nb [FX](rows:List (List AV))(i:Nat):(fR rows 0 .leaf).at_ i=rows[i]? :=by
 rw[qF];by_cases h:i<rows.length
 ·rw[if_pos ⟨Nat.zero_le _,by omega⟩,Nat.sub_zero]
 ·rw[if_neg (by omega),T.at_leaf,List.getElem?_eq_none (by omega)]
theorem Nc [FX]{e:Eng.En}{k:Nat}{w:World}{x:OB}(h:lh e k w x){i j:Nat}{l:List AV}{a:AV}(hi:x.rows[i]? =some l)(hj:l[j]? =some a):∃v,w.cell? ⟨e.σ x.b,i*x.size+j,none⟩=some v∧R e k a v:=by
 obtain⟨r,h1,cs,fz,rfl,_,_,_,h2⟩:=h;obtain⟨_,_,h3⟩:=h2 i l (by rw[Nb];exact hi);obtain⟨_,v,h4,h5⟩:=h3 j a hj;refine⟨v,?_,h5⟩;unfold World.cell?;rw[h1];simpa using h4
theorem Yo [FX]{e:Eng.En}{k:Nat}{w:World}{x:OB}(h:lh e k w x):∀l∈x.rows,l.length=x.size:=by
 obtain⟨r,h1,cs,fz,rfl,_,_,_,h2⟩:=h;intro l hl;obtain⟨i,hi⟩:=List.getElem?_of_mem hl;exact(h2 i l (by rw[Nb];exact hi)).2.1
theorem Nd{e:Eng.En}{k:Nat}{w:World}{x:OB}(h:lh e k w x):e.σ x.b<w.heap.size:=by
 obtain⟨r,h1,_⟩:=h;exact(Array.getElem?_eq_some_iff.1 h1).1
theorem lR [FX]{e:Eng.En}{k:Nat}{w:World}{x:OB}(h:lh e k w x){idx:Nat}{a:AV}(ha:x.rows.flatten[idx]? =some a):∃v,w.cell? ⟨e.σ x.b,idx,none⟩=some v∧R e k a v:=by
 obtain⟨i,j,l,rfl,h2,h3⟩:=Na (Yo h) ha;exact Nc h h2 h3
def cv:AV→Option Value
 |.int q n=>some (.int q n)
 |.bool b=>some (.bool b)
 |.str l=>some (.string (bw l))
 |.lit v=>some v
 |.ifc t (.int q n)=>some (.iface t (.int q n))
 |_=>none
theorem Yp{e:Eng.En}{k:Nat}{a:AV}{v u:Value}(h:R e k a v)(hc:cv a=some u):v=u:=by
 cases a<;>simp only[cv,Option.some.injEq,reduceCtorEq]at hc
 case int q n=>exact(show v=.int q n from h).trans hc
 case bool b=>exact(show v=.bool b from h).trans hc
 case str l=>exact(show _∧v=.string (bw l)from h).2.trans hc
 case lit u'=>exact(show v=u' from h).trans hc
 case ifc ty b=>
  cases b<;>simp only[Option.some.injEq,reduceCtorEq]at hc
  obtain⟨u',rfl,hu⟩:=h;rw[show u'=_ from hu];exact hc
def qG(obs:List OB)(a:AV)(n:Nat)(cs:List Value):Prop:=(a=.lit (.slice none 0 0)∧n=0∧cs=[])∨∃x∈obs,∃g,a=.slc x.b 0 n (.gap g)∧x.rows.flatten.map cv=cs.map some
theorem Am [FX]{obs:List OB}{e:Eng.En}{k:Nat}{w:World}(ho:∀x∈obs,lh e k w x){a:AV}{n:Nat}{cs:List Value}(h:qG obs a n cs){v:Value}(hv:R e k a v):∃A c,v=.slice A n c∧Rw w (.slice A n c) n cs:=by
 rcases h with⟨rfl,rfl,rfl⟩|⟨x,hx,g,rfl,hcs⟩
 ·exact⟨none,0,hv,.inl ⟨rfl,rfl,rfl⟩⟩
 ·obtain⟨⟨_,hf⟩,rfl⟩:=hv;refine⟨_,_,rfl,.inr ⟨_,0,_,rfl,?_,Nd (ho x hx),fun j u hj=>?_⟩⟩
  ·show n≤e.κ x.b-g;have:n+g≤e.κ x.b:=hf;omega
  ·have h1:(x.rows.flatten.map cv)[j]? =some (some u):=by rw[hcs,List.getElem?_map,hj];rfl
   rw[List.getElem?_map]at h1;cases h2:x.rows.flatten[j]? with
   |none=>rw[h2]at h1;cases h1
   |some a=>
    rw[h2]at h1;obtain⟨v,h3,h4⟩:=lR (ho x hx) h2;rw[Nat.zero_add,h3,Yp h4 (Option.some.inj h1)]
end Go.Proofs.YtlpombjidhloiaaGreat
namespace Go.Proofs.YtlpombjidhloiaaGreat
open Go.Proofs.YtlpombjidhloiaaGreat.Eng
set_option maxRecDepth 100000
def uq(s:List UInt8):List Nat:=s.map UInt8.toNat
def sl0:AV:=.lit (.slice none 0 0)
def qH(t:Ty)(a:AV×AV×AV×AV):List AV:=[.int .u8 t.kind,.str (uq t.module),.str (uq t.name),.int .i64 t.base,.int .i64 t.index,.int .i64 t.low,.int .i64 t.high,a.1,a.2.1,a.2.2.1,a.2.2.2,.int .i64 t.result]
def gB:AV×AV×AV×AV:=(sl0,sl0,sl0,sl0)
def qI:List (AV×AV×AV×AV):=[gB,gB,gB,gB,gB,gB,gB,gB,gB,gB,gB,(.slc 20212 0 2 (.gap 0),sl0,sl0,sl0),gB,(sl0,.slc 20234 0 4 (.gap 0),.slc 20236 0 1 (.gap 0),sl0),gB,gB,gB,(sl0,sl0,sl0,.slc 20284 0 2 (.gap 0)),(sl0,sl0,sl0,.slc 20296 0 1 (.gap 0)),gB,gB,(sl0,sl0,sl0,.slc 20328 0 2 (.gap 0)),gB,gB]
def Nf:aL→AV
 |.none=>.lit .nilIface
 |.whole n=>.ifc 79 (.int .i64 n)
 |.truth b=>.ifc 97 (.bool b)
 |.item t n=>.ifc 105 (.agg [.int .i64 t,.int .i64 n])
 |.null=>.ifc 108 (.agg [])
 |_=>.bot
def Ng(e:En):List AV:=[.str (uq e.name),.int .u8 e.kind,.int .i64 e.type,Nf e.val,.int .i64 e.level,.int .i64 e.at_,.str (uq e.module)]
def pq(e:En)(x:AV):AV×AV:=(.str (uq e.name),.agg (Ng e++[x]))
def Gd:List (AV×AV):=(ee++constEns++stdEns).map fun e=>pq e sl0
def Ge:List (AV×AV):=(nameEns.map fun e=>pq e sl0)++[pq unitEn (.slc 20891 0 10 (.gap 0))]
def Nh:OB:=⟨20187,[[.ptr 1001 0,.ptr 20002 0,.ptr 20186 0]],3,38,false⟩
def Ni:OB:=⟨1001,[[.slc 20350 0 24 (.gap 0)]],1,118,false⟩
def Nj:OB:=⟨20002,[[.slc 20358 0 2 (.gap 0)]],1,124,false⟩
def Nk:OB:=⟨20358,[[.bool false,.map 20000],[.bool false,.map 20356]],2,121,true⟩
def obR:OB:=⟨20350,(worldT.zip qI).map fun p=>qH p.1 p.2,12,47,true⟩
def Nl:OB:=⟨20212,[[.str [114,101,100]],[.str [98,108,117,101]]],1,9,true⟩
def Nm:OB:=⟨20234,[[.str [102],.int .i64 1,.int .i64 0],[.str [103],.int .i64 12,.int .i64 0],[.str [116],.int .i64 11,.int .i64 1],[.str [104],.int .i64 4,.int .i64 2]],3,139,true⟩
def Nn:OB:=⟨20236,[[.slc 20240 0 1 (.gap 0),.slc 20242 0 1 (.gap 0),.bool false]],3,142,true⟩
def An:OB:=⟨20240,[[.int .i64 0]],1,2,true⟩
def Ao:OB:=⟨20242,[[.int .i64 0]],1,2,true⟩
def No:OB:=⟨20284,[[.bool false,.int .i64 1],[.bool true,.int .i64 2]],2,144,true⟩
def Np:OB:=⟨20296,[[.bool false,.int .i64 16]],2,144,true⟩
def Nq:OB:=⟨20328,[[.bool false,.int .i64 1],[.bool true,.int .i64 2]],2,144,true⟩
def Nr:OB:=⟨20891,unitEns.map Ng,7,74,true⟩
def fO:List OB:=[Nh,Ni,Nj,Nk,obR,Nl,Nm,Nn,An,Ao,No,Np,Nq,Nr]
noncomputable def Ap(l m:List (AV×AV)):Bool:=and (jX (l.map Prod.fst) (m.map Prod.fst)) (jX (l.map Prod.snd) (m.map Prod.snd))
noncomputable def ur(es:List (AV×AV)):Option bk→Bool
 |some (.map .str es')=>Ap es es'
 |_=>false
noncomputable def Yq:aS→Bool
 |.ret v s=>and (mO (.ptr 20187 0) v) (and (zH 1000 s.heap fO) (and (ur Gd (s.heap.at_ 20000)) (ur Ge (s.heap.at_ 20356))))
 |_=>false
noncomputable def Ns:aS:=run Tryz.B1 1000000 (.fn 8 [] ⟨.leaf,1000,[]⟩)
end Go.Proofs.YtlpombjidhloiaaGreat
namespace Go.Proofs.YtlpombjidhloiaaGreat
open Go.Proofs.YtlpombjidhloiaaGreat.Eng Go.RowKit
set_option maxRecDepth 100000
theorem Ar(s:List UInt8):bw (uq s)=⟨s.toArray⟩:=Yn s
theorem Ys{e:Eng.En}{k:Nat}{t:Ty}{x1 x2 x3 x4:AV}{A1 A2 A3 A4:Option Addr}{c1 c2 c3 c4:Nat}(h1:∀v,R e k x1 v→v=.slice A1 t.names.length c1)(h2:∀v,R e k x2 v→v=.slice A2 t.fields.length c2)(h3:∀v,R e k x3 v→v=.slice A3 t.arms.length c3)(h4:∀v,R e k x4 v→v=.slice A4 t.params.length c4){j:Nat}{a:AV}{v:Value}(ha:(qH t (x1,x2,x3,x4))[j]? =some a)(hv:R e k a v):(bX t ⟨A1,c1,A2,c2,A3,c3,A4,c4⟩)[j]? =some v:=by
 unfold qH at ha
 match j,ha with
 |0,ha=>cases ha;rw[show v=.int .u8 t.kind from hv];rfl
 |1,ha=>cases ha;rw[hv.2,Ar];rfl
 |2,ha=>cases ha;rw[hv.2,Ar];rfl
 |3,ha=>cases ha;rw[show v=_ from hv];rfl
 |4,ha=>cases ha;rw[show v=_ from hv];rfl
 |5,ha=>cases ha;rw[show v=_ from hv];rfl
 |6,ha=>cases ha;rw[show v=_ from hv];rfl
 |7,ha=>cases ha;rw[h1 v hv];rfl
 |8,ha=>cases ha;rw[h2 v hv];rfl
 |9,ha=>cases ha;rw[h3 v hv];rfl
 |10,ha=>cases ha;rw[h4 v hv];rfl
 |11,ha=>cases ha;rw[show v=_ from hv];rfl
 |j+12,ha=>simp at ha
structure Aw(obs:List OB)(t:Ty)(x:AV×AV×AV×AV):Prop where
 names:qG obs x.1 t.names.length (uu t.names)
 fields:qG obs x.2.1 t.fields.length (lj t.fields)
 arms:(x.2.2.1=sl0∧t.arms=[])∨(x.2.2.1=.slc 20236 0 1 (.gap 0)∧t.arms=[([0],[0],false)])
 params:qG obs x.2.2.2 t.params.length (kg t.params)
theorem Gf [FX]{obs:List OB}{e:Eng.En}{k:Nat}{w:World}(ho:∀x∈obs,lh e k w x){a:AV}{n:Nat}{cs:List Value}(h:qG obs a n cs){v0:Value}(h0:R e k a v0):∃A c,(∀v,R e k a v→v=.slice A n c)∧Rw w (.slice A n c) n cs:=by
 obtain⟨A,c,rfl,hr⟩:=Am ho h h0;refine⟨A,c,fun v hv=>?_,hr⟩;rcases h with⟨rfl,rfl,rfl⟩|⟨x,hx,g,rfl,hcs⟩
 ·exact(show v=_ from hv).trans (show _=_ from h0).symm
 ·exact hv.2.trans h0.2.symm
theorem Yt [FX]{obs:List OB}{e:Eng.En}{k:Nat}{w:World}(ho:∀x∈obs,lh e k w x)(hA:Nn∈obs)(JO:An∈obs)(vm:Ao∈obs){t:Ty}{x:AV}(h:(x=sl0∧t.arms=[])∨(x=.slc 20236 0 1 (.gap 0)∧t.arms=[([0],[0],false)])){v0:Value}(h0:R e k x v0):∃A c,(∀v,R e k x v→v=.slice A t.arms.length c)∧sh w (.slice A t.arms.length c) t.arms:=by
 rcases h with⟨rfl,hn⟩|⟨rfl,hn⟩
 ·rw[hn];exact⟨none,0,fun v hv=>hv,[],rfl,.inl ⟨rfl,rfl,rfl⟩,fun i x a hx=>by simp at hx⟩
 ·rw[hn];have oA:=ho _ hA;obtain⟨v1,q1,r1⟩:=lR oA (idx:=0) (a:=.slc 20240 0 1 (.gap 0)) rfl;obtain⟨v2,q2,r2⟩:=lR oA (idx:=1) (a:=.slc 20242 0 1 (.gap 0)) rfl;obtain⟨v3,q3,r3⟩:=lR oA (idx:=2) (a:=.bool false) rfl;have p1:qG [An] (.slc 20240 0 1 (.gap 0)) 1 (ll [0]):=.inr ⟨An,by simp,0,rfl,rfl⟩;have p2:qG [Ao] (.slc 20242 0 1 (.gap 0)) 1 (ll [0]):=.inr ⟨Ao,by simp,0,rfl,rfl⟩;obtain⟨B1,d1,rfl,w1⟩:=Am (w:=w) (fun y hy=>by rw[List.mem_singleton.1 hy];exact ho _ JO) p1 r1;obtain⟨B2,d2,rfl,w2⟩:=Am (w:=w) (fun y hy=>by rw[List.mem_singleton.1 hy];exact ho _ vm) p2 r2;obtain⟨⟨_,hf⟩,rfl⟩:=h0;refine⟨_,_,fun v hv=>hv.2,[(.slice B1 1 d1,.slice B2 1 d2)],rfl,.inr ⟨e.σ 20236,0,_,rfl,?_,Nd oA,fun j u hj=>?_⟩,fun i y a hy ha=>?_⟩
  ·have:1+0≤e.κ 20236:=hf;show 1≤e.κ 20236-0;omega
  ·rw[Nat.zero_add]
   match j,hj with
   |0,hj=>cases hj;exact q1
   |1,hj=>cases hj;exact q2
   |2,hj=>cases hj;rw[show v3=.bool false from r3]at q3;exact q3
   |j+3,hj=>simp at hj
  ·match i,hy,ha with
   |0,hy,ha=>cases hy;cases ha;exact⟨w1,w2⟩
   |i+1,hy,ha=>simp at hy
theorem Yu [FX]{e:Eng.En}{k:Nat}{w:World}(ho:∀x∈fO,lh e k w x)(hT:∀p∈worldT.zip qI,Aw fO p.1 p.2)(hok:∀t∈worldT,ln t):cF w (e.σ 1001) worldT:=by
 refine⟨hok,by decide,?_⟩;have oT:=ho Ni (by simp[fO]);have oR:=ho obR (by simp[fO]);obtain⟨v,q,r⟩:=lR oT (idx:=0) (a:=.slc 20350 0 24 (.gap 0)) rfl;obtain⟨⟨_,hf⟩,rfl⟩:=r;refine⟨e.σ 20350,0,_,q,?_,fun i t hi=>?_⟩
 ·have:24+0≤e.κ 20350:=hf;show worldT.length≤e.κ 20350-0;have:worldT.length=24:=rfl;omega
 ·have hlt:i<worldT.length:=(List.getElem?_eq_some_iff.1 hi).1;obtain⟨x,hx⟩:∃x,qI[i]? =some x:=⟨qI[i]'(by exact hlt),List.getElem?_eq_getElem _⟩;have hz:(worldT.zip qI)[i]? =some (t,x):=by rw[List.getElem?_zip_eq_some];exact⟨hi,hx⟩
  have hp:=hT (t,x) (List.mem_of_getElem? hz);have hrow:obR.rows[i]? =some (qH t x):=by
   show((worldT.zip qI).map fun p=>qH p.1 p.2)[i]? =_;rw[List.getElem?_map,hz];rfl
  obtain⟨x1,x2,x3,x4⟩:=x;have cell:=fun j a (ha:(qH t (x1,x2,x3,x4))[j]? =some a)=>Nc oR hrow ha
  obtain⟨v7,_,r7⟩:=cell 7 x1 rfl;obtain⟨v8,_,r8⟩:=cell 8 x2 rfl;obtain⟨v9,_,r9⟩:=cell 9 x3 rfl;obtain⟨vA,_,rA⟩:=cell 10 x4 rfl;obtain⟨A1,c1,f1,w1⟩:=Gf ho hp.names r7;obtain⟨A2,c2,f2,w2⟩:=Gf ho hp.fields r8;obtain⟨A3,c3,f3,w3⟩:=Yt ho (by simp[fO]) (by simp[fO]) (by simp[fO]) hp.arms r9;obtain⟨A4,c4,f4,w4⟩:=Gf ho hp.params rA;refine⟨⟨A1,c1,A2,c2,A3,c3,A4,c4⟩,⟨w1,w2,w3,w4⟩,fun j u hj=>?_⟩;have agt:j<12:=by
   rcases Nat.lt_or_ge j 12 with h|h
   ·exact h
   ·rw[Array.getElem?_eq_none (by exact h)]at hj;cases hj
  obtain⟨a,ha⟩:∃a,(qH t (x1,x2,x3,x4))[j]? =some a:=⟨(qH t (x1,x2,x3,x4))[j]'(by exact agt),List.getElem?_eq_getElem _⟩;obtain⟨v,qv,rv⟩:=cell j a ha;have h:=Ys f1 f2 f3 f4 ha rv;rw[h]at hj;cases hj;rw[Nat.zero_add];exact qv
inductive F2:List (AV×AV)→List (AV×AV)→Prop where
 |nil:F2 [] []
 |cons (p q:AV×AV) (l m:List (AV×AV)) (h1:mO p.1 q.1=true) (h2:mO p.2 q.2=true) (t:F2 l m):F2 (p::l) (q::m)
theorem Nt:∀{l m:List (AV×AV)} (_:l.length=m.length) (_:∀(i:Nat) (p q:AV×AV),l[i]? =some p→m[i]? =some q→mO p.1 q.1=true∧mO p.2 q.2=true),F2 l m
 |[],[],_,_=>.nil
 |[],_::_,h,_=>by simp at h
 |_::_,[],h,_=>by simp at h
 |p::l,q::m,h,ha=>.cons p q l m (ha 0 p q rfl rfl).1 (ha 0 p q rfl rfl).2 (Nt (by simpa using h) fun i p' q' h1 h2=>ha (i+1) p' q' (by simpa using h1) (by simpa using h2))
theorem Yv [FX]{l m:List (AV×AV)}(h:Ap l m=true):F2 l m:=by
 unfold Ap at h;obtain⟨h1,h2⟩:=(Bool.and_eq_true _ _).mp h;obtain⟨l1,a1⟩:=AA h1;obtain⟨l2,a2⟩:=AA h2;refine Nt (by simpa using l1) fun i p q hp hq=>?_
 obtain⟨b1,e1,f1⟩:=a1 i p.1 (by rw[List.getElem?_map,hp];rfl);obtain⟨b2,e2,f2⟩:=a2 i p.2 (by rw[List.getElem?_map,hp];rfl);rw[List.getElem?_map,hq]at e1 e2;cases e1;cases e2;exact⟨f1,f2⟩
theorem Yw{m m':List (AV×AV)}(hp:m.Perm m'):∀{l:List (AV×AV)},F2 l m→∃l',l.Perm l'∧F2 l' m':=by
 induction hp with
 |nil=>intro l h;cases h;exact⟨[],.nil,.nil⟩
 |cons x _ ih=>
  intro l h;cases h with
  |cons p q l m h1 h2 t=>
   obtain⟨l',hl,hf⟩:=ih t;exact⟨p::l',hl.cons p,.cons p _ l' _ h1 h2 hf⟩
 |swap x y r=>
  intro l h;cases h with
  |cons p q l m h1 h2 t=>
   cases t with
   |cons p2 q2 l2 m2 h3 h4 t2=>exact⟨p2::p::l2,.swap _ _ _,.cons p2 _ _ _ h3 h4 (.cons p _ _ _ h1 h2 t2)⟩
 |trans _ _ i1 i2=>
  exact @(Nu)
theorem Yx{α β:Type}{f:α→β}{a b:List β}(hp:a.Perm b):∀{l:List α},a=l.map f→∃l',l.Perm l'∧b=l'.map f:=by
 induction hp with
 |nil=>
  intro l h;cases l with
  |nil=>exact⟨[],.nil,rfl⟩
  |cons _ _=>cases h
 |cons x _ ih=>
  intro l h;cases l with
  |nil=>cases h
  |cons y l=>
   injection h with h1 h2
   obtain⟨l',a1,a2⟩:=ih h2;exact⟨y::l',a1.cons y,by rw[h1,a2];rfl⟩
 |swap x y r=>
  intro l h;cases l with
  |nil=>cases h
  |cons y1 l=>
   cases l with
   |nil=>injection h with h1 h2;cases h2
   |cons y2 l=>
    injection h with h1 h2
    injection h2 with h2 h3
    exact⟨y2::y1::l,.swap _ _ _,by rw[h1,h2,h3];rfl⟩
 |trans _ _ i1 i2=>
  exact @(Nu)
def Gg:aL→Prop
 |.none=>True
 |.whole _=>True
 |.truth _=>True
 |.item _ _=>True
 |.null=>True
 |_=>False
theorem Yy{e:Eng.En}{k:Nat}{v:aL}{u:Value}(ho:Gg v)(h:R e k (Nf v) u):u=aK v:=by
 cases v with
 |none=>exact h
 |whole n=>obtain⟨x,rfl,hx⟩:=h;rw[show x=.int .i64 n from hx];rfl
 |truth b=>obtain⟨x,rfl,hx⟩:=h;rw[show x=.bool b from hx];rfl
 |item t n=>
  obtain⟨x,rfl,cs,rfl,hx⟩:=h;obtain⟨a,r,h1,h2,b,r2,h3,h4,h5⟩:=hx;rw[show r2=[]from h5]at h3;rw[h3,show a=.int .i64 t from h2,show b=.int .i64 n from h4]at h1;show Value.iface 105 (.agg cs)=.iface 105 (.agg #[.int .i64 t,.int .i64 n]);rw[show cs=#[.int .i64 t,.int .i64 n]from Array.toList_inj.1 h1]
 |null=>
  obtain⟨x,rfl,cs,rfl,hx⟩:=h;show Value.iface 108 (.agg cs)=.iface 108 (.agg #[]);rw[show cs=#[]from Array.toList_inj.1 hx]
 |letter c=>exact ho.elim
 |bits c=>exact ho.elim
 |str c=>exact ho.elim
structure jl where
 en:En
 x:AV
 ex:List En
structure si(obs:List OB)(p:jl):Prop where
 val:Gg p.en.val
 row:qG obs p.x p.ex.length (qJ p.ex)
 few:p.ex.length≤1000000
theorem Yz [FX]{obs:List OB}{e:Eng.En}{k:Nat}{w:World}(ho:∀x∈obs,lh e k w x){p:jl}(h:si obs p){v:Value}(hv:R e k (pq p.en p.x).2 v):uv w ⟨p.en,p.ex⟩ v:=by
 obtain⟨cs,rfl,hc⟩:=hv;obtain⟨a0,r0,e0,q0,a1,r1,e1,q1,a2,r2,e2,q2,a3,r3,e3,q3,a4,r4,e4,q4,a5,r5,e5,q5,a6,r6,e6,q6,a7,r7,e7,q7,e8⟩:=hc;obtain⟨A,c,rfl,hr⟩:=Am ho h.row q7;refine⟨A,c,?_,hr,h.few⟩;rw[show r7=[]from e8]at e7;rw[e7]at e6;rw[e6]at e5;rw[e5]at e4;rw[e4]at e3;rw[e3]at e2;rw[e2]at e1;rw[e1]at e0;have h0:=q0.2;have h6:=q6.2;rw[Ar]at h0 h6;rw[h0,show a1=.int .u8 p.en.kind from q1,show a2=.int .i64 p.en.type from q2,Yy h.val q3,show a4=.int .i64 p.en.level from q4,show a5=.int .i64 p.en.at_ from q5,h6]at e0;show Value.agg cs=.agg (kH ⟨p.en,p.ex⟩ A c);rw[show cs=kH ⟨p.en,p.ex⟩ A c from Array.toList_inj.1 e0]
def fT(p:jl):List UInt8×It:=(p.en.name,⟨p.en,p.ex⟩)
theorem Nv [FX]{obs:List OB}{e:Eng.En}{k:Nat}{w:World}(ho:∀x∈obs,lh e k w x):∀{l:List jl} (_:∀p∈l,si obs p) {m:List (AV×AV)} {kv:List (Value×Value)} (_:F2 (l.map fun p=>pq p.en p.x) m) (_:dZ e k m kv),∃vs:List (List UInt8×Value),kv=vs.map (fun p=>(eV p.1,p.2))∧nM w vs (l.map fT)
 |[],_,m,kv,hf,hr=>by
  cases hf;exact⟨[],hr,.nil⟩
 |p::l,hl,m,kv,hf,hr=>by
  cases hf with
  |cons _ q _ m h1 h2 t=>
   obtain⟨u,v,r,rfl,r1,r2,r3⟩:=hr;obtain⟨vs,rfl,hb⟩:=Nv ho (fun p hp=>hl p (by simp[hp])) t r3;have k1:=(uw h1 r1).2;rw[Ar]at k1;have i1:=Yz ho (hl p (by simp)) (uw h2 r2);exact⟨(p.en.name,v)::vs,by rw[k1];rfl,.cons _ _ _ _ _ i1 hb⟩
theorem YA [FX]{obs:List OB}{e:Eng.En}{k b:Nat}{w:World}(ho:∀x∈obs,lh e k w x){l:List jl}(hl:∀p∈l,si obs p){o:bk}(hm:ur (l.map fun p=>pq p.en p.x) (some o)=true){r:Obj}(hw:w.heap[e.σ b]? =some r)(hr:RO e k b o r):∃l',l.Perm l'∧pr w (e.σ b) (l'.map fT):=by
 cases o with
 |cells c n size t room=>cases hm
 |siter s p=>cases hm
 |map kk es=>
  cases kk with
  |int q=>cases hm
  |bool=>cases hm
  |str=>
   obtain⟨ents,clock,es',rfl,h1,⟨h2,_,_⟩,h3⟩:=hr;obtain⟨m,hp,hf⟩:=Yw h2 (Yv (show Ap _ es=true from hm));obtain⟨l',hp',rfl⟩:=Yx hp rfl;obtain⟨vs,hv,hb⟩:=Nv ho (fun p hpm=>hl p (hp'.mem_iff.2 hpm)) hf h1;exact⟨l',hp',vs,⟨ents,clock,hw,hv,h3.1,h3.2⟩,hb⟩
end Go.Proofs.YtlpombjidhloiaaGreat
namespace Go.Proofs.YtlpombjidhloiaaGreat
open Go.Proofs.YtlpombjidhloiaaGreat.Eng
set_option maxRecDepth 100000
theorem Yr:Yq Ns=true:=by kernel_rfl
end Go.Proofs.YtlpombjidhloiaaGreat
