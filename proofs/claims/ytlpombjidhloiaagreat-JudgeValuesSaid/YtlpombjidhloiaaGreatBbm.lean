/- Made. The judge's world in memory means what it does in plain word. Condition: what each theorem says. -/
import Derived.Test.YtlpombjidhloiaaGreatBbl
import Derived.Test.YtlpombjidhloiaaGreatBba
namespace Go.Proofs.YtlpombjidhloiaaGreat
open Go.Proofs.YtlpombjidhloiaaGreat.Eng Go.RowKit
set_option maxRecDepth 100000
def l0X:List jl:=(ee++constEns++stdEns).map fun e=>⟨e,sl0,[]⟩
def l1X:List jl:=nameEns.map (fun e=>⟨e,sl0,[]⟩)++[⟨unitEn,.slc 20891 0 10 (.gap 0),unitEns⟩]
theorem YB:l0X.map fT=(ux ee).items:=by kernel_rfl
theorem YC:l1X.map fT=lvl1.items:=by kernel_rfl
theorem YD:Gd=l0X.map fun p=>pq p.en p.x:=by kernel_rfl
theorem YE:Ge=l1X.map fun p=>pq p.en p.x:=by kernel_rfl
def AB:aL→Bool
 |.none=>true
 |.whole _=>true
 |.truth _=>true
 |.item _ _=>true
 |.null=>true
 |_=>false
theorem YF{v:aL}(h:AB v=true):Gg v:=by cases v<;>first|trivial|cases h
theorem Nw{obs:List OB}{e:En}(h:AB e.val=true):si obs ⟨e,sl0,[]⟩:=⟨YF h,.inl ⟨rfl,rfl,rfl⟩,by simp⟩
theorem YG:∀p∈l0X,si fO p:=by
 intro p hp;obtain⟨e,he,rfl⟩:=List.mem_map.1 hp;have h:(ee++constEns++stdEns).all (fun e=>AB e.val)=true:=by kernel_rfl
 exact Nw (List.all_eq_true.1 h e he)
theorem YH:∀p∈l1X,si fO p:=by
 intro p hp;rcases List.mem_append.1 hp with hp|hp
 ·obtain⟨e,he,rfl⟩:=List.mem_map.1 hp;have h:nameEns.all (fun e=>AB e.val)=true:=by kernel_rfl
  exact Nw (List.all_eq_true.1 h e he)
 ·rw[List.mem_singleton.1 hp];exact⟨trivial,.inr ⟨Nr,by simp[fO],0,rfl,by kernel_rfl⟩,by decide⟩
theorem ie{obs:List OB}{t:Ty}(h1:t.names=[])(h2:t.fields=[])(h3:t.arms=[])(h4:t.params=[]):Aw obs t gB:=
 ⟨.inl ⟨rfl,by rw[h1];rfl,by rw[h1];rfl⟩,.inl ⟨rfl,by rw[h2];rfl,by rw[h2];rfl⟩,.inl ⟨rfl,h3⟩,.inl ⟨rfl,by rw[h4];rfl,by rw[h4];rfl⟩⟩
theorem YI:∀p∈worldT.zip qI,Aw fO p.1 p.2:=by
 intro p hp;obtain⟨i,hi⟩:=List.getElem?_of_mem hp;have hlt:i<24:=(List.getElem?_eq_some_iff.1 hi).1;have hn:∀t:Ty,(worldT.zip qI)[i]? =some (t,gB)→t.names=[]∧t.fields=[]∧t.arms=[]∧t.params=[]→Aw fO t gB:=fun t _ h=>ie h.1 h.2.1 h.2.2.1 h.2.2.2
 match i,hlt,hi with
 |0,_,hi=>cases hi;exact ie rfl rfl rfl rfl
 |1,_,hi=>cases hi;exact ie rfl rfl rfl rfl
 |2,_,hi=>cases hi;exact ie rfl rfl rfl rfl
 |3,_,hi=>cases hi;exact ie rfl rfl rfl rfl
 |4,_,hi=>cases hi;exact ie rfl rfl rfl rfl
 |5,_,hi=>cases hi;exact ie rfl rfl rfl rfl
 |6,_,hi=>cases hi;exact ie rfl rfl rfl rfl
 |7,_,hi=>cases hi;exact ie rfl rfl rfl rfl
 |8,_,hi=>cases hi;exact ie rfl rfl rfl rfl
 |9,_,hi=>cases hi;exact ie rfl rfl rfl rfl
 |10,_,hi=>cases hi;exact ie rfl rfl rfl rfl
 |11,_,hi=>cases hi;exact⟨.inr ⟨Nl,by simp[fO],0,rfl,by kernel_rfl⟩,.inl ⟨rfl,rfl,rfl⟩,.inl ⟨rfl,rfl⟩,.inl ⟨rfl,rfl,rfl⟩⟩
 |12,_,hi=>cases hi;exact ie rfl rfl rfl rfl
 |13,_,hi=>cases hi;exact⟨.inl ⟨rfl,rfl,rfl⟩,.inr ⟨Nm,by simp[fO],0,rfl,by kernel_rfl⟩,.inr ⟨rfl,rfl⟩,.inl ⟨rfl,rfl,rfl⟩⟩
 |14,_,hi=>cases hi;exact ie rfl rfl rfl rfl
 |15,_,hi=>cases hi;exact ie rfl rfl rfl rfl
 |16,_,hi=>cases hi;exact ie rfl rfl rfl rfl
 |17,_,hi=>cases hi;exact⟨.inl ⟨rfl,rfl,rfl⟩,.inl ⟨rfl,rfl,rfl⟩,.inl ⟨rfl,rfl⟩,.inr ⟨No,by simp[fO],0,rfl,by kernel_rfl⟩⟩
 |18,_,hi=>cases hi;exact⟨.inl ⟨rfl,rfl,rfl⟩,.inl ⟨rfl,rfl,rfl⟩,.inl ⟨rfl,rfl⟩,.inr ⟨Np,by simp[fO],0,rfl,by kernel_rfl⟩⟩
 |19,_,hi=>cases hi;exact ie rfl rfl rfl rfl
 |20,_,hi=>cases hi;exact ie rfl rfl rfl rfl
 |21,_,hi=>cases hi;exact⟨.inl ⟨rfl,rfl,rfl⟩,.inl ⟨rfl,rfl,rfl⟩,.inl ⟨rfl,rfl⟩,.inr ⟨Nq,by simp[fO],0,rfl,by kernel_rfl⟩⟩
 |22,_,hi=>cases hi;exact ie rfl rfl rfl rfl
 |23,_,hi=>cases hi;exact ie rfl rfl rfl rfl
 |i+24,h,_=>omega
def Gh(t:Ty):Bool:=decide (t.names.length≤10)&&decide (t.fields.length≤10)&&decide (t.arms.length≤10)&&decide (t.params.length≤10)&&t.arms.all (fun a=>decide (a.1.length≤10)&&decide (a.2.1.length≤10))&&decide (-1000000≤t.low)&&decide (t.low≤1000000)&&decide (-1000000≤t.high)&&decide (t.high≤1000000)
theorem YJ{t:Ty}(h:Gh t=true):ln t:=by
 unfold Gh at h;simp only[Bool.and_eq_true,decide_eq_true_eq,List.all_eq_true]at h;obtain⟨⟨⟨⟨⟨⟨⟨⟨h1,h2⟩,h3⟩,h4⟩,h5⟩,h6⟩,h7⟩,h8⟩,h9⟩:=h;exact⟨by omega,by omega,by omega,by omega,fun a ha=>⟨by have:=(h5 a ha).1;omega,by have:=(h5 a ha).2;omega⟩,⟨h6,h7⟩,h8,h9⟩
theorem YK:∀t∈worldT,ln t:=by
 intro t ht;have h:worldT.all Gh=true:=by kernel_rfl
 exact YJ (List.all_eq_true.1 h t ht)
theorem YL [FX]{e:Eng.En}{k:Nat}{w:World}(ho:∀x∈fO,lh e k w x){l0' l1':List jl}(h0:pr w (e.σ 20000) (l0'.map fT))(h1:pr w (e.σ 20356) (l1'.map fT)):lS w (e.σ 20002) [⟨false,l0'.map fT⟩,⟨false,l1'.map fT⟩]:=by
 have oV:=ho Nj (by simp[fO]);have oL:=ho Nk (by simp[fO]);obtain⟨v,q,r⟩:=lR oV (idx:=0) (a:=.slc 20358 0 2 (.gap 0)) rfl;obtain⟨⟨_,hf⟩,rfl⟩:=r;obtain⟨v0,q0,r0⟩:=lR oL (idx:=0) (a:=.bool false) rfl;obtain⟨v1,q1,r1⟩:=lR oL (idx:=1) (a:=.map 20000) rfl;obtain⟨v2,q2,r2⟩:=lR oL (idx:=2) (a:=.bool false) rfl;obtain⟨v3,q3,r3⟩:=lR oL (idx:=3) (a:=.map 20356) rfl;rw[show v0=.bool false from r0]at q0;rw[r1.2]at q1;rw[show v2=.bool false from r2]at q2;rw[r3.2]at q3;refine⟨by simp,by simp,e.σ 20358,0,_,q,?_,fun i lv hi=>?_⟩
 ·have:2+0≤e.κ 20358:=hf;show 2≤e.κ 20358-0;omega
 ·match i,hi with
  |0,hi=>cases hi;exact⟨e.σ 20000,q0,q1,h0⟩
  |1,hi=>cases hi;exact⟨e.σ 20356,q2,q3,h1⟩
  |i+2,hi=>simp at hi
def YM(w:World)(en:Ending)(w':World):Prop:=Below w.heap.size w w'∧∃(b pt pv:Nat) (l0' l1':List jl),en=.returned (.pointer (some ⟨b,0,none⟩))∧w'.cell? ⟨b,0,none⟩=some (.pointer (some ⟨pt,0,none⟩))∧w'.cell? ⟨b,1,none⟩=some (.pointer (some ⟨pv,0,none⟩))∧cF w' pt worldT∧lS w' pv [⟨false,l0'.map fT⟩,⟨false,l1'.map fT⟩]∧l0X.Perm l0'∧l1X.Perm l1'
theorem Yg [FX]{ob:Obj}{m:Int}(hf:FX.F 0=some ob)(hm:∀w:World,w.heap[0]? =some ob→w.cell? ⟨0,0,none⟩=some (.int .i64 m)){w:World}(hfx:∀g o,FX.F g=some o→w.heap[g]? =some o):Calls Tryz.prog 8 #[] w (YM w):=by
 let e:Eng.En:=⟨id,fun _=>0,fun _=>true,fun _=>none⟩
 have cT:aZ e ⟨.leaf,1000,[]⟩ w:=aZ.none (e:=e) hfx 1000;have hgl:Gl e 1000:=fun g hg=>⟨hg,rfl,rfl⟩
 have h:=Yr;cases hrun:Ns with
 |ret v s'=>
  rw[hrun]at h;have h:(and (mO (.ptr 20187 0) v) (and (zH 1000 s'.heap fO) (and (ur Gd (s'.heap.at_ 20000)) (ur Ge (s'.heap.at_ 20356)))))=true:=h;obtain⟨a1,h⟩:=(Bool.and_eq_true _ _).mp h;obtain⟨a2,h⟩:=(Bool.and_eq_true _ _).mp h;obtain⟨a3,a4⟩:=(Bool.and_eq_true _ _).mp h;refine(Ny Tryz.b1_tb (Tryz.b1_ext hf hm) Tryz.mixed (n:=1000000) (f:=8) (args:=[]) (vs:=#[]) (w:=w) (e:=e) (s:=⟨.leaf,1000,[]⟩) (by kernel_rfl) hrun cT hgl rfl).mono fun en w' hh=>?_
  obtain⟨e',u,rfl,st,hu⟩:=hh;have ho:∀x∈fO,lh e' s'.next w' x:=fun x hx=>by
   have hb:=(Nz a2 x hx).2;cases hat:s'.heap.at_ x.b with
   |none=>rw[hat]at hb;cases hb
   |some o=>
    rw[hat]at hb;obtain⟨_,_,r,q1,q2⟩:=st.rep.obj x.b o hat;exact⟨r,q1,YN hb q2⟩
  have hmap:∀{b:Nat} {l:List jl} (_:∀p∈l,si fO p) (_:ur (l.map fun p=>pq p.en p.x) (s'.heap.at_ b)=true),∃l',l.Perm l'∧pr w' (e'.σ b) (l'.map fT):=fun {b l} hl hk=>by
   cases hat:s'.heap.at_ b with
   |none=>rw[hat]at hk;cases hk
   |some o=>
    rw[hat]at hk;obtain⟨_,_,r,q1,q2⟩:=st.rep.obj b o hat;exact YA ho hl hk q1 q2
  obtain⟨l0',p0,m0⟩:=hmap (b:=20000) YG (by rw[←YD];exact a3);obtain⟨l1',p1,m1⟩:=hmap (b:=20356) YH (by rw[←YE];exact a4);have hW:=ho Nh (by simp[fO]);obtain⟨v0,c0,d0⟩:=lR hW (idx:=0) (a:=.ptr 1001 0) rfl;obtain⟨v1,c1,d1⟩:=lR hW (idx:=1) (a:=.ptr 20002 0) rfl;rw[d0.2]at c0;rw[d1.2]at c1;have gW:=(uw a1 hu).2;refine⟨⟨st.os,st.tape,st.output,st.size,fun k hk=>st.kp k hk fun b o hb=>by rw[T.at_leaf]at hb;cases hb⟩,e'.σ 20187,e'.σ 1001,e'.σ 20002,l0',l1',by rw[gW],c0,c1,Yu ho YI YK,YL ho m0 m1,p0,p1⟩
 |ok _ _ _ _=>rw[hrun]at h;cases h
 |pan _ _ _ _=>rw[hrun]at h;cases h
 |okR _ _ _ _=>rw[hrun]at h;cases h
 |retR _ _=>rw[hrun]at h;cases h
 |bad _=>rw[hrun]at h;cases h
theorem wJ{β:Type}:∀{l:List (List UInt8×β)} (_:(l.map (·.1)).Nodup) (nm:List UInt8) (v:β),bm l nm=some v↔(nm,v)∈l
 |[],_,nm,v=>by simp[bm]
 |p::l,hn,nm,v=>by
  rw[List.map_cons,List.nodup_cons]at hn;have ih:=wJ hn.2 nm v;unfold bm at ih ⊢;rw[List.find?_cons];by_cases h:p.1=nm
  ·rw[decide_eq_true h];simp only[Option.map_some,Option.some.injEq];constructor
   ·intro hv;rw[←h,←hv];simp
   ·intro hv;rcases List.mem_cons.1 hv with hv|hv
    ·rw[←hv]
    ·exact absurd (List.mem_map.2 ⟨_,hv,h.symm⟩) hn.1
  ·rw[decide_eq_false h];rw[ih];constructor
   ·intro hv;exact List.mem_cons_of_mem _ hv
   ·intro hv;rcases List.mem_cons.1 hv with hv|hv
    ·exact absurd (by rw[←hv]) h
    ·exact hv
theorem NC{β:Type}{l l':List (List UInt8×β)}(hp:l.Perm l')(hn:(l.map (·.1)).Nodup)(nm:List UInt8):bm l' nm=bm l nm:=by
 have hn':(l'.map (·.1)).Nodup:=(hp.map _).nodup_iff.1 hn;cases h:bm l nm with
 |none=>
  cases h':bm l' nm with
  |none=>rfl
  |some v=>
   have:=(wJ hn nm v).2 (hp.mem_iff.2 ((wJ hn' nm v).1 h'));rw[h]at this;cases this
 |some v=>exact(wJ hn' nm v).2 (hp.mem_iff.1 ((wJ hn nm v).1 h))
def ke(l0 l1:List jl):List Lv:=[⟨false,l0.map fT⟩,⟨false,l1.map fT⟩]
theorem Gi(l0 l1:List jl)(nm:List UInt8):kI (ke l0 l1) nm=match bm (l1.map fT) nm with
 |some x=>some x
 |none=>bm (l0.map fT) nm:=by
 unfold kI;rw[if_neg (by simp[ke])];show eW (ke l0 l1) nm 1=_;unfold eW;show(match bm (l1.map fT) nm with|some x=>some x|none=>if false=true then _ else eW (ke l0 l1) nm 0)=_;cases bm (l1.map fT) nm with
 |some x=>rfl
 |none=>
  show eW (ke l0 l1) nm 0=_;unfold eW;rfl
theorem YO:((l0X.map fT).map (·.1)).Nodup:=by
 have h:decide ((l0X.map fT).map (·.1)).Nodup=true:=by kernel_rfl
 exact of_decide_eq_true h
theorem YP:((l1X.map fT).map (·.1)).Nodup:=by
 have h:decide ((l1X.map fT).map (·.1)).Nodup=true:=by kernel_rfl
 exact of_decide_eq_true h
theorem YQ:ke l0X l1X=dS ee:=by
 unfold ke dS;rw[YB,YC];rfl
theorem NF{l0 l1:List jl}(p0:l0X.Perm l0)(p1:l1X.Perm l1)(nm:List UInt8):kI (ke l0 l1) nm=kI (dS ee) nm:=by
 rw[←YQ,Gi,Gi,NC (p1.map fT) YP,NC (p0.map fT) YO]
theorem Yi{l0 l1:List jl}(p0:l0X.Perm l0)(p1:l1X.Perm l1):aj worldT (ke l0 l1)=aj worldT (dS ee):=by
 unfold aj;congr 1
 ·funext nm;unfold jL;rw[NF p0 p1]
 ·funext u nm;unfold iU;rw[NF p0 p1]
def wK:aL→Bool
 |.whole n=>decide (-32768≤n)&&decide (n≤65535)
 |.item _ n=>decide (-1000000≤n)&&decide (n≤1000000)
 |.letter _=>false
 |.bits _=>false
 |_=>true
theorem NG{v:aL}(h:wK v=true):Vw v:=by
 cases v<;>first|trivial|(cases h;done)|skip
 case whole n=>unfold wK at h;show -32768≤n∧n≤65535;simpa using h
 case item t n=>unfold wK at h;show -1000000≤n∧n≤1000000;simpa using h
theorem NH{l0 l1:List jl}(p0:l0X.Perm l0)(p1:l1X.Perm l1):(∀nm e,jL (ke l0 l1) nm=some e→Vw e.val)∧∀u nm e,iU (ke l0 l1) u nm=some e→Vw e.val:=by
 have hB:(l0X++l1X).all (fun p=>wK p.en.val&&p.ex.all fun e=>wK e.val)=true:=by kernel_rfl
 have hI:∀nm x,kI (ke l0 l1) nm=some x→∃p∈l0X++l1X,x=⟨p.en,p.ex⟩:=by
  intro nm x h;rw[Gi]at h;have key:∀(l:List jl),bm (l.map fT) nm=some x→∃p∈l,x=⟨p.en,p.ex⟩:=by
   intro l hl;unfold bm at hl;rw[Option.map_eq_some_iff]at hl;obtain⟨a,ha,rfl⟩:=hl;obtain⟨p,hp,rfl⟩:=List.mem_map.1 (List.mem_of_find?_eq_some ha);exact⟨p,hp,rfl⟩
  split at h
  ·rename_i y hy;cases h;obtain⟨p,hp,hx⟩:=key l1 hy;exact⟨p,List.mem_append_right _ (p1.mem_iff.2 hp),hx⟩
  ·obtain⟨p,hp,hx⟩:=key l0 h;exact⟨p,List.mem_append_left _ (p0.mem_iff.2 hp),hx⟩
 refine⟨fun nm e h=>?_,fun u nm e h=>?_⟩
 ·unfold jL at h;rw[Option.map_eq_some_iff]at h;obtain⟨x,hx,rfl⟩:=h;obtain⟨p,hp,rfl⟩:=hI nm x hx;have:=List.all_eq_true.1 hB p hp;rw[Bool.and_eq_true]at this;exact NG this.1
 ·unfold iU at h;split at h
  ·rename_i x hx;obtain⟨p,hp,rfl⟩:=hI u x hx;split at h
   ·have:=List.all_eq_true.1 hB p hp;rw[Bool.and_eq_true]at this;exact NG (List.all_eq_true.1 this.2 e (List.mem_of_find?_eq_some h))
   ·cases h
  ·cases h
theorem Yh{w:World}{pt pv:Nat}{l0 l1:List jl}(hT:cF w pt worldT)(hE:lS w pv (ke l0 l1))(p0:l0X.Perm l0)(p1:l1X.Perm l1):bO w pt pv worldT (ke l0 l1):=⟨hT,hE,(NH p0 p1).1,(NH p0 p1).2⟩
end Go.Proofs.YtlpombjidhloiaaGreat
namespace Go.Proofs.Tryz
open Go.Proofs.YtlpombjidhloiaaGreat.Eng
set_option maxRecDepth 100000
theorem works_run:zI (run B1 1000000 (.fn 7 [] ⟨.leaf,1000,[]⟩))=true:=by kernel_rfl
end Go.Proofs.Tryz
namespace Go.Proofs.YtlpombjidhloiaaGreat
open Go.Proofs.YtlpombjidhloiaaGreat.Eng Go.RowKit
theorem Gc(W:World){m:Int}(hW:W.cell? ⟨0,0,none⟩=some (.int .i64 m)):Ak W:=by
 cases hob:W.heap[0]? with
 |none=>simp[World.cell?,hob]at hW
 |some ob=>
  letI:FX:=⟨fun g=>if g=0 then some ob else none⟩
  have hf:FX.F 0=some ob:=rfl;have hm:∀w:World,w.heap[0]? =some ob→w.cell? ⟨0,0,none⟩=some (.int .i64 m):=fun w hw=>by
   rw[←hW];exact World.cell?_of_block (hw.trans hob.symm)
  have hx:∀w',Below W.heap.size W w'→∀g o,FX.F g=some o→w'.heap[g]? =some o:=fun w' hb g o hg=>by
   by_cases h0:g=0
   ·subst h0;rw[←hg,hf,←hob];exact hb.block 0 (ld hob)
   ·rw[show FX.F g=none from if_neg h0]at hg;cases hg
  refine⟨fun w' hb=>(Yg hf hm (hx w' hb)).mono ?_,fun w' hb=>Tryz.works_true hf hm Tryz.works_run (hx w' hb)⟩;rintro e w'' ⟨af,b,pt,pv,l0,l1,rfl,c0,c1,hT,hE,p0,p1⟩;exact⟨af,b,pt,pv,ke l0 l1,rfl,c0,c1,Yh hT hE p0 p1,Yi p0 p1⟩
end Go.Proofs.YtlpombjidhloiaaGreat
