/- ref06. Condition: what each theorem says. -/
import Derived.Test.YtlpombjidhloiaaGreatBao
import Derived.Deep.RegionLaw
namespace Go.Proofs.YtlpombjidhloiaaGreat
open Go.RowKit
set_option maxRecDepth 100000
attribute [local go_sem ↓] Go.wp_at_zero Go.wp_at_succ
attribute [local go_sem] dD om cw
theorem uS{r:Nat}{w w':World}{B:Nat}{e:TypeId}{size:Nat}{v:Value}{n:Nat}{xs:List Value}(h:w.ownsRow B e size v n xs)(k:aX r w w')(hr:r<B):w'.ownsRow B e size v n xs:=
 jy h (fun g hg=>k.block g (pM h hg) (by
  rcases h.2 with⟨rfl,_⟩|⟨g',cap,cur,rfl,hg',_⟩
  ·cases hg
  ·have e:g'=g:=Option.some.inj hg;omega))
theorem If{r:Nat}{w w':World}{B:Nat}{e:TypeId}{size:Nat}{v v':Value}{n m:Nat}{xs zs:List Value}(h:iB w w' B e size v v' m zs)(ho:w.ownsRow B e size v n xs)(_hB:B≤w.heap.size){a:World}(hk:aX r a w)(ha:a.heap.size≤B):aX r a w':=
 ⟨h.grown.os.trans hk.os,h.grown.tape.trans hk.tape,h.grown.output.trans hk.output,Nat.le_trans hk.size h.grown.size,fun k hl hr=>(h.grown.block k (Nat.lt_of_lt_of_le hl hk.size) (fun e=>by
  rcases ho.2 with⟨rfl,_⟩|⟨g',cap,cur,rfl,hg',_⟩
  ·cases e
  ·have e2:k=g':=Option.some.inj e;omega)).trans (hk.block k hl hr)⟩
theorem acW{p:Value}(h:kS p):p.oneCell'=true:=by
 rcases h with rfl|⟨b,rfl⟩
 ·rfl
 ·rfl
structure ox(W1 W2:World):Prop where
 cell:∀a v,W1.cell? a=some v→W2.cell? a=some v
 size:W1.heap.size≤W2.heap.size
theorem acX{W1 W2:World}(s:ox W1 W2){v:Value}{n:Nat}{cs:List Value}(h:Rw W1 v n cs):Rw W2 v n cs:=by
 refine h.imp id ?_;rintro⟨b,o,c,h1,h0,h2,h3⟩;exact⟨b,o,c,h1,h0,Nat.lt_of_lt_of_le h2 s.size,fun j u hj=>s.cell _ _ (h3 j u hj)⟩
theorem uR{W1 W2:World}(s:ox W1 W2){b:Nat}{t:ao}(h:bg W1 b t):bg W2 b t:=by
 induction h with
 |mk b t A c bs h hr hl hk ih=>exact .mk b t A c bs (fun i u hi=>s.cell _ _ (h i u hi)) (acX s hr) hl ih
def gF(B:Nat)(av:List Nat)(W:World):World:={W with heap:=W.heap.mapIdx fun i o=>if i<B∨i∈av then uO else o}
theorem xy(B:Nat)(av:List Nat)(W:World):(gF B av W).heap.size=W.heap.size:=by unfold gF;simp
theorem Ii{B:Nat}{av:List Nat}(W:World){k:Nat}(h:B≤k)(hv:k∉av):(gF B av W).heap[k]? =W.heap[k]? :=by
 unfold gF;rw[Array.getElem?_mapIdx];have:¬(k<B∨k∈av):=fun h'=>h'.elim (by omega) hv
 cases W.heap[k]? <;>simp[this]
theorem Sk{B:Nat}{av:List Nat}{W:World}{a:Addr}{v:Value}(h:(gF B av W).cell? a=some v):B≤a.block∧a.block∉av∧W.cell? a=some v:=by
 by_cases hb:a.block<B∨a.block∈av
 ·exfalso;unfold World.cell? at h;by_cases hk:a.block<W.heap.size
  ·have e:(gF B av W).heap[a.block]? =some uO:=by
    unfold gF;rw[Array.getElem?_mapIdx,Array.getElem?_eq_getElem hk];simp[hb]
   rw[e]at h;simp[uO]at h
  ·rw[Array.getElem?_eq_none (by rw[xy];omega)]at h;cases h
 ·have h1:B≤a.block:=by
   rcases Nat.lt_or_ge a.block B with h'|h'
   ·exact absurd (.inl h') hb
   ·exact h'
  have h2:a.block∉av:=fun h'=>hb (.inr h')
  unfold World.cell? at h ⊢;rw[Ii W h1 h2]at h;exact⟨h1,h2,h⟩
theorem acY{w w':World}{a:Addr}(h:w'.heap[a.block]? =w.heap[a.block]?):w'.cell? a=w.cell? a:=World.cell?_of_block h
theorem kU{B B':Nat}{av av':List Nat}{w w':World}(hB:B'≤B)(hs:w.heap.size≤w'.heap.size)(h:∀k,B≤k→k∉av→k<w.heap.size→k∉av'∧w'.heap[k]? =w.heap[k]?):ox (gF B av w) (gF B' av' w'):=by
 refine⟨fun a v ha=>?_,by rw[xy,xy];exact hs⟩;obtain⟨h1,h2,h3⟩:=Sk ha;have hl:a.block<w.heap.size:=by
  rcases Nat.lt_or_ge a.block w.heap.size with h'|h'
  ·exact h'
  ·unfold World.cell? at h3;rw[Array.getElem?_eq_none h']at h3;cases h3
 obtain⟨h4,h5⟩:=h a.block h1 h2 hl;rw[←h3,←acY h5];exact World.cell?_of_block (Ii w' (Nat.le_trans hB h1) h4)
theorem Sb{B:Nat}(w:World):ox (dJ B w) (gF B [] w):=by
 refine⟨fun a v ha=>?_,by rw[ot,xy];exact Nat.le_refl _⟩;obtain⟨h1,h2⟩:=Cy ha;rw[←h2];exact World.cell?_of_block (Ii w h1 (by simp))
theorem Ie{B:Nat}{av:List Nat}(w:World):ox (gF B av w) (dJ B w):=by
 refine⟨fun a v ha=>?_,by rw[ot,xy];exact Nat.le_refl _⟩;obtain⟨h1,h2,h3⟩:=Sk ha;rw[←h3];exact World.cell?_of_block (ow w h1)
theorem ox.trans{a b c:World}(h:ox a b)(k:ox b c):ox a c:=⟨fun x v hx=>k.cell x v (h.cell x v hx),Nat.le_trans h.size k.size⟩
structure gU(W:World)(bs:List Nat)(l:List ao):Prop where
 len:bs.length=l.length
 at_:∀(i x:Nat) (y:ao),bs[i]? =some x→l[i]? =some y→bg W x y
 tk:∀y∈l,Tk y
 few:∀y∈l,ez 1000000 y
theorem gU.sub{W W':World}{bs:List Nat}{l:List ao}(h:gU W bs l)(s:ox W W'):gU W' bs l:=⟨h.len,fun i x y hx hy=>uR s (h.at_ i x y hx hy),h.tk,h.few⟩
theorem gU.nil(W:World):gU W [] []:=⟨rfl,fun i x y hx=>by simp at hx,by simp,by simp⟩
theorem gU.kids{B:Nat}{w:World}{bs:List Nat}{l:List ao}(h:gU (dJ B w) bs l):kA B w bs l:=⟨h.len,h.at_,h.tk,h.few⟩
theorem gU.snoc{W:World}{bs:List Nat}{l:List ao}(h:gU W bs l){b:Nat}{x:ao}(h1:bg W b x)(h2:Tk x)(h3:ez 1000000 x):gU W (bs++[b]) (l++[x]):=by
 exact RN
def ob(v:Value):List Nat:=v.ownBlock.toList
theorem CD{w:World}{B:Nat}{e:TypeId}{size:Nat}{v:Value}{n:Nat}{xs:List Value}(h:w.ownsRow B e size v n xs){g:Nat}(hg:g∈ob v):B≤g∧g<w.heap.size:=by
 unfold ob at hg;rw[Option.mem_toList]at hg;refine⟨?_,pM h hg⟩;rcases h.2 with⟨rfl,_⟩|⟨g',cap,cur,rfl,hg',_⟩
 ·cases hg
 ·have e:g'=g:=Option.some.inj hg;omega
theorem Sl{nbs:List Nat}{B Bx:Nat}{w1 w9:World}{a:Option Addr}{BB:Nat}{v v9:Value}{k:Nat}{qs:List Value}{bs:List Nat}{l:List ao}(hA:iB (w1.alloc (.cells #[.pointer a] 26)) w9 BB 26 1 v v9 k qs)(hn:∀g∈nbs++ob v,g<Bx∧Bx≤w1.heap.size)(hB:B≤Bx)(K:gU (gF B (nbs++ob v) w1) bs l)(hT:du Bx w1 (.pointer a))(_hx:Bx≤w1.heap.size):∃b x,.pointer a=cw b∧gU (gF B (nbs++ob v9) w9) (bs++[b]) (l++[x]):=by
 obtain⟨b,x,hp,h1,h2,h3⟩:=hT;have hsz:w1.heap.size≤w9.heap.size:=by have:=hA.grown.size;simp at this;omega
 have hk:∀k,k∉nbs++ob v→k<w1.heap.size→k∉nbs++ob v9∧w9.heap[k]? =w1.heap[k]? :=by
  intro k h4 h5;have h6:some k≠v.ownBlock:=fun e=>h4 (List.mem_append_right _ (by unfold ob;rw[←e];simp))
  refine⟨fun h7=>?_,(hA.grown.block k (by simp;omega) h6).trans ((dq w1 _).block k h5)⟩;rcases List.mem_append.1 h7 with h7|h7
  ·exact h4 (List.mem_append_left _ h7)
  ·unfold ob at h7;rw[Option.mem_toList]at h7;rcases hA.place with e|e
   ·exact h6 (by rw[←e];exact h7.symm)
   ·rw[e]at h7;have:=Option.some.inj h7;simp at this;omega
 refine⟨b,x,hp,(K.sub (kU (Nat.le_refl _) hsz fun k _ h4 h5=>hk k h4 h5)).snoc (uR ((Sb w1).trans (kU hB hsz fun k h4 _ h5=>hk k (fun h6=>by have:=(hn k h6).1;omega) h5)) h1) h2 h3⟩
structure AL(w0:World)(sv:Value)(L:List bA)(i:Nat)(w:World)(g:Nat)(v:Value)(wr:World)(i':Nat)(bad':Bool)(ps:List Value):Prop where
 own:wr.ownsRow w.heap.size 26 1 v ps.length ps
 rin:ch w0 sv L i' bad' wr
 only:aX w0.heap.size w wr
 good:bad'=false→i<i'∧ps.length≤i'∧∃bs l,ps=bs.map cw∧gU (gF w.heap.size (ob v) wr) bs l
 meas:g=mu L i' bad'
 ones:∀u∈ps,u.oneCell'=true
def acZ(w0:World)(sv:Value)(L:List bA)(i:Nat)(w:World)(e:Ending)(w':World):Prop:=∃v ps i' bad',e=.returned v∧AL w0 sv L i w (mu L i' bad') v w' i' bad' ps∧ps.length≤30000
theorem CE{w:World}{p:Value}(hp:kS p):Src Tryz.prog 1 53 (.slice (some ⟨w.heap.size,0,none⟩) 1 1) 1 [p] (w.alloc (.cells #[p] 26)):=qi ku w #[p] _ 1 1 rfl (by simpa using acW hp)
theorem xA{p:Value}(h:kS p):∃a,p=.pointer a:=by
 rcases h with rfl|⟨b,rfl⟩
 ·exact⟨_,rfl⟩
 ·exact⟨_,rfl⟩
theorem kK{i i1 n:Nat}{b1 b2:Bool}(h:b1=false→i1=i+1∧i<n)(hb:b1=true→b2=true)(e:b2=false):i1=i+1:=by
 cases b1 with
 |true=>rw[hb rfl]at e;cases e
 |false=>exact(h rfl).1
theorem Sm{w0:World}{sv:Value}{L:List bA}{i:Nat}{w w1 w2 w9:World}{v v9:Value}{ps:List Value}(hown:w2.ownsRow w.heap.size 26 1 v ps.length ps){a:Option Addr}{k:Nat}{qs:List Value}(hA:iB (w1.alloc (.cells #[.pointer a] 26)) w9 w.heap.size 26 1 v v9 k qs){i':Nat}{bad':Bool}(h1:ch w0 sv L i' bad' w1)(eu:aX w0.heap.size w w2)(ho:aX w0.heap.size w2 w1)(hr:w0.heap.size<w.heap.size)(hg:bad'=false→i<i'∧ps.length+1≤i'∧∃bs l,ps=bs.map cw∧gU (gF w.heap.size (ob v) w2) bs l)(hT:bad'=false→du w2.heap.size w1 (.pointer a))(hk:k=ps.length+1)(hq:qs=ps++[.pointer a])(h1s:∀u∈ps,u.oneCell'=true):
 AL w0 sv L i w (mu L i' bad') v9 w9 i' bad' (ps++[.pointer a]):=by
 subst hk hq;have hb:=dq w1 (.cells #[.pointer a] 26);have Wc:=uS hown ho hr;have DS:=jy Wc (fun g hg=>hb.block g (pM Wc hg));have hB:w.heap.size≤(w1.alloc (.cells #[.pointer a] 26)).heap.size:=Nat.le_trans (eu.trans ho).size hb.size;have o9:aX w0.heap.size w w9:=If hA DS hB ((eu.trans ho).then hb) (Nat.le_refl _);have b9:Below w.heap.size w1 w9:=(hb.mono (eu.trans ho).size).trans (iB.below hA (Below.refl _ _) hB DS (Nat.le_refl _));refine⟨by simpa using hA.own,⟨h1.below.trans ((b9.mono (Nat.le_of_lt hr))),(b9.block _ hr).trans h1.box,h1.le⟩,o9,fun e=>?_,rfl,fun u hu=>?_⟩;case refine_2=>
  rcases List.mem_append.1 hu with hu|hu
  ·exact h1s u hu
  ·rw[List.mem_singleton.1 hu];rfl
 obtain⟨g1,g2,bs,l,rfl,K⟩:=hg e;obtain⟨b,x,hp,K9⟩:=Sl (nbs:=[]) (B:=w.heap.size) (Bx:=w2.heap.size) hA (fun g hg=>⟨(CD hown (by simpa using hg)).2,ho.size⟩) eu.size (K.sub (kU (Nat.le_refl _) ho.size fun k h4 h5 h6=>⟨h5,ho.block k h6 (by omega)⟩)) (hT e) ho.size;exact⟨g1,by simpa using g2,bs++[b],l++[x],by rw[hp];simp,K9⟩
set_option maxHeartbeats 2000000 in
theorem acS{w0:World}{sv:Value}{L:List bA}(P:PW w0 sv L){m:Nat}(S:iY 53 w0 sv L m){i:Nat}{w:World}(h:ch w0 sv L i false w)(hm:mu L i false≤m+1):Calls Tryz.prog 210 #[.pointer (some ⟨w0.heap.size,0,none⟩)] w (acZ w0 sv L i w):=by
 have HS:=aa S;have HP:=aa P;have HM:=aa hm;have HLT:=aa h.box.lt;have HN:=aa (uN P h [40]);clear S P h hm;go_enter Tryz.func210,Tryz.ntmps210;go_wp2_with fail;refine HN.out.mono ?_;rintro e w1 ⟨i1,dW,rfl,h1,eC,hd⟩;have HD:=aa hd;clear hd HN;go_wp2_with fail;refine(oh HP.out h1 [41]).mono ?_;rintro e w2 (⟨rfl,h2,eu⟩|⟨rfl,h2,rfl,hk,eu⟩)
 ·have hlt:∀e:dW=false,i1=i+1∧i<L.length:=fun e=>by
   rcases HD.out with rfl|⟨_,_,rfl,h⟩
   ·cases e
   ·exact⟨rfl,by omega⟩
  have HLQ:=aa hlt;have H2:=aa h2;have O2:=aa (eC.trans eu);have HM2:=aa (qX (i':=i1) (bad':=dW) HM.out (fun e=>by cases e) (fun e=>⟨by have:=(HLQ.out e).1;omega,(HLQ.out e).2⟩));clear hlt h2 eC eu h1;go_wp2_with fail;refine(HS.out _ _ _ H2.out HM2.out).mono ?_;rintro e w3 ⟨p,i2,eS,rfl,hp,h3,eT,hbad,hgood⟩;obtain⟨a,rfl⟩:=xA hp;have O3:=aa (O2.out.trans eT);go_wp2_with (at_builtin;refine jg ku rfl _ _ rfl w.heap.size _ 0 [] rfl (World.ownsRow_nil _ _ _ _) _ 1 [.pointer a] rfl (CE hp) (by omega) (by unfold maxLen;omega) (by have:=O3.out.size;simp;omega) ?_;intro v9 w9 cf);have HR:=aa (show ∃ps i' bad',AL w0 sv L i w (mu L i2 eS) v9 w9 i' bad' ps∧ps.length≤30000 from⟨[.pointer a],i2,eS,Sm (ps:=[]) (World.ownsRow_nil _ _ _ _) cf h3 O2.out eT HLT.out (fun e=>⟨by have:=(hgood e).1;have:=kK HLQ.out hbad e;omega,by have:=(hgood e).1;simp;omega,[],[],rfl,gU.nil _⟩) (fun e=>(hgood e).2) rfl rfl (by simp),by simp⟩);clear hp h3 eT hbad hgood cf O3;go_wp2_with fail
  go_loopg [3] (mu L i2 eS) (fun gg s3 wr=>∃ps i' bad',AL w0 sv L i w gg s3 wr i' bad' ps∧ps.length≤30000)
  case atStart=>exact HR.out
  case round=>
   clear HR;obtain⟨ps,i3,kE,hal,hlen⟩:=hrel;have HA:=aa hal;obtain rfl:=hal.meas;clear hal;go_wp2_with fail;refine(oh HP.out HA.out.rin [44]).mono ?_;rintro e w4 (⟨rfl,h4,dR⟩|⟨rfl,h4,rfl,hk,dR⟩)
   ·go_wp2_with fail;refine(uN HP.out h4 [41]).mono ?_;rintro e w5 ⟨i5,gx,rfl,h5,di,Kr⟩;go_wp2_with fail;go_ret;have o5:=dR.trans di;refine⟨_,ps,i5,gx,rfl,⟨uS HA.out.own o5 HLT.out,h5,HA.out.only.trans o5,fun e=>?_,rfl,HA.out.ones⟩,hlen⟩;rcases Kr with rfl|⟨_,rfl,rfl,_⟩
    ·cases e
    ·obtain⟨g1,g2,bs,l,g3,K⟩:=HA.out.good rfl;exact⟨by omega,by omega,bs,l,g3,K.sub (kU (Nat.le_refl _) o5.size fun k h6 h7 h8=>⟨h7,o5.block k h8 (by have:=HLT.out;omega)⟩)⟩
   ·obtain⟨g1,g2,bs,l,g3,K⟩:=HA.out.good rfl;have KK:=aa K;have hle:=h4.le;have O4:=aa (HA.out.only.trans dR);have HMM:=aa (qX (i':=i3+1) (bad':=false) HM.out (fun e=>e) (fun e=>⟨by omega,by omega⟩));have OW:=aa (uS HA.out.own dR HLT.out);clear K;go_wp2_with fail;refine(HS.out _ _ _ h4 HMM.out).mono ?_;rintro e w5 ⟨p,i5,gx,rfl,hp,h5,di,hbad,hgood⟩;obtain⟨a,rfl⟩:=xA hp;have O5:=aa (O4.out.trans di);have hfew:=HP.out.few;go_wp2_with (at_builtin;refine jg ku rfl _ _ rfl w.heap.size _ ps.length ps rfl (jy (uS OW.out di HLT.out) (fun g hg=>(dq _ _).block g (pM (uS OW.out di HLT.out) hg))) _ 1 [.pointer a] rfl (CE hp) (by omega) (by unfold maxLen;omega) (by have:=O5.out.size;simp;omega) ?_;intro v9 w9 cf)
    go_roundg (mu L i5 gx)
    case measure=>exact pN (fun e=>by have:=(hgood e).1;omega)
    exact⟨ps++[.pointer a],i5,gx,Sm OW.out cf h5 O4.out di HLT.out (fun e=>⟨by have:=(hgood e).1;omega,by have:=(hgood e).1;omega,bs,l,g3,KK.out.sub (kU (Nat.le_refl _) dR.size fun k h6 h7 h8=>⟨h7,dR.block k h8 (by have:=HLT.out;omega)⟩)⟩) (fun e=>(hgood e).2) rfl rfl HA.out.ones,by simp;omega⟩
 ·obtain⟨_,_,rfl,hle⟩:=HD.out.resolve_left (by decide);go_wp2_with fail;go_ret;exact⟨_,[],i+1+1,false,rfl,⟨World.ownsRow_nil _ _ _ _,h2,eC.trans eu,fun _=>⟨by omega,by simp,[],[],rfl,gU.nil _⟩,rfl,by simp⟩,by simp⟩
theorem acT{w:World}{b:Nat}{x:ao}(h:bg w b x)(wf:Wf x):Calls Tryz.prog 209 #[.pointer (some ⟨b,0,none⟩)] w (fun e w'=>(∃q:Bool,e=.returned (.bool q))∧w=w'):=by
 induction h with
 |mk b t A c bs h hr hl hk ih=>
  have z0:w.cell? ⟨b,0,none⟩=some (.int .u8 t.kind):=h 0 _ rfl;have z4:w.cell? ⟨b,4,none⟩=some (.slice A t.kids.length c):=h 4 _ rfl;have hb:=aQ z0;by_cases h2:t.kind=2
  ·have h1:=wf.node.one (.inl h2);obtain⟨y,hy⟩:∃y,t.kids[0]? =some y:=⟨t.kids[0]'(by omega),by simp⟩;obtain⟨u,hu⟩:∃u,bs[0]? =some u:=⟨bs[0]'(by omega),by simp⟩;have IH:=aa (ih 0 u y hu hy (wf.sub y (List.mem_of_getElem? hy)));obtain⟨g,o,c',hA,hc,hbl,hcell⟩:=hr.at_ (k:=0) (u:=cw u) (by simp[hu]);cases hA;have c0:w.cell? ⟨g,o,none⟩=some (.pointer (some ⟨u,0,none⟩)):=hcell;rw[h1]at z4;rw[h2]at z0;clear h hr hl hk ih wf hcell hy hu h1 h2 hc;go_enter Tryz.func209,Tryz.ntmps209;go_wp2_with fail;refine IH.out.mono ?_;rintro e w1 ⟨⟨q,rfl⟩,rfl⟩;go_wp2_with fail;go_ret;exact⟨⟨q,rfl⟩,rfl⟩
  ·have d2:(t.kind==2)=false:=beq_eq_false_iff_ne.2 h2;clear h hr hl hk ih wf;go_enter Tryz.func209,Tryz.ntmps209;go_wp2_with fail;go_ret;exact⟨⟨_,rfl⟩,rfl⟩
theorem RW{B B0:Nat}{k:Int}{p:cJ}{s:List UInt8}{n:Nat}{bs:List Nat}{l:List ao}{nb:Nat}{sl:Value}{w':World}(N:eZ B k (fb p.1) (fb p.2) s n (bs.map cw) nb sl w')(hB:B0≤B)(hlen:bs.length=l.length)(hat:∀(i x:Nat) (y:ao),bs[i]? =some x→l[i]? =some y→bg (dJ B0 w') x y):bg (dJ B0 w') nb (.mk k p s n l):=by
 have hown:(dJ B0 w').ownsRow B 26 1 sl (bs.map cw).length (bs.map cw):=jy N.own (fun g hg=>ow w' (by
  rcases N.own.2 with⟨rfl,_⟩|⟨g',cap,cur,rfl,hg',_⟩
  ·cases hg
  ·have e:g'=g:=Option.some.inj hg;omega))
 have hrw:=Rw.of_own hown;obtain⟨A,c,rfl⟩:=hrw.slice;rw[List.length_map,hlen]at hrw;refine .mk nb (.mk k p s n l) A c bs (fun i u hi=>?_) hrw hlen hat;have hb:Bx nb (om k (fb p.1) (fb p.2) s n (.slice A (bs.map cw).length c)) 55 (dJ B0 w'):=(ow w' (by have:=N.old;omega)).trans N.box;rw[hb.cell i,←hi];rw[List.length_map,hlen];rfl
theorem Ih{P:Program}{ops:Array Oper}{o:Oper}{a:Act}{w:World}{K:Act→World→Prop}{Q:Exit→Act→World→Prop}{F:Prop}{f:FuncId}{args:Array Value}(hgd:o.guard=none)(hr:(execOp a.eval o).run P w=.ok (.enter f args) w)(h:Calls P f args w fun e w'=>∃v,e=.returned v∧K (a.put o.dst v) w'):if Region.wanted o (yielded ops a.tmps)=true then Oper.wp P o a w K Q else F:=by
 have hw:Region.wanted o (yielded ops a.tmps)=true:=by simp[Region.wanted,hgd]
 rw[if_pos hw];unfold Oper.wp;rw[hr];unfold Oper.upon;refine h.mono ?_;rintro e w' ⟨v,rfl,hk⟩;exact hk
theorem eZ.only{B r:Nat}{k:Int}{x y:Nat}{s:List UInt8}{n:Int}{ps:List Value}{nb:Nat}{sl:Value}{w w':World}(h:eZ B k x y s n ps nb sl w)(ho:aX r w w')(hr:r<B):eZ B k x y s n ps nb sl w':=
 ⟨h.old,ho.bx h.box (by have:=h.old;omega),uS h.own ho hr,h.off⟩
structure SL(w0:World)(sv:Value)(L:List bA)(i:Nat)(w:World)(p:cJ)(bt nb:Nat)(g:Nat)(wr:World)(i':Nat)(bad':Bool)(ps:List Value)(sl:Value):Prop where
 node:eZ w.heap.size 8 (fb p.1) (fb p.2) [] 0 ps nb sl wr
 rin:ch w0 sv L i' bad' wr
 only:aX w0.heap.size w wr
 good:bad'=false→i<i'∧ps.length≤i'∧∃bs l,ps=cw bt::bs.map cw∧gU (gF w.heap.size (nb::ob sl) wr) bs l
 meas:g=mu L i' bad'
theorem Sn{w0:World}{sv:Value}{L:List bA}{i:Nat}{w w1 w2 w9:World}{p:cJ}{bt nb:Nat}{sl v9:Value}{ps:List Value}(N:eZ w.heap.size 8 (fb p.1) (fb p.2) [] 0 ps nb sl w2){a:Option Addr}{k:Nat}{qs:List Value}(hA:iB (w1.alloc (.cells #[.pointer a] 26)) w9 w.heap.size 26 1 sl v9 k qs){i':Nat}{bad':Bool}(h1:ch w0 sv L i' bad' w1)(eu:aX w0.heap.size w w2)(ho:aX w0.heap.size w2 w1)(hr:w0.heap.size<w.heap.size)(hg:bad'=false→i<i'∧ps.length+1≤i'∧∃bs l,ps=cw bt::bs.map cw∧gU (gF w.heap.size (nb::ob sl) w2) bs l)(hT:bad'=false→du w2.heap.size w1 (.pointer a))(hk:k=ps.length+1)(hq:qs=ps++[.pointer a]):
 SL w0 sv L i w p bt nb (mu L i' bad') (w9.setCell ⟨nb,4,none⟩ v9) i' bad' (ps++[.pointer a]) v9:=by
 subst hk hq;have hb:=dq w1 (.cells #[.pointer a] 26);have N1:=N.only ho hr;obtain⟨hx9,b9,N9⟩:=sH N1 hA (by simp);have o9:aX w0.heap.size w (w9.setCell ⟨nb,4,none⟩ v9):=by
  have DS:=jy N1.own (fun g hg=>hb.block g (pM N1.own hg));have h9:aX w0.heap.size w w9:=If hA DS (Nat.le_trans (eu.trans ho).size hb.size) ((eu.trans ho).then hb) (Nat.le_refl _);exact h9.set (p:=⟨nb,4,none⟩) (.inr N.old) _
 refine⟨N9,⟨h1.below.trans (b9.mono (Nat.le_of_lt hr)),(b9.block _ hr).trans h1.box,h1.le⟩,o9,fun e=>?_,rfl⟩;obtain⟨g1,g2,bs,l,rfl,K⟩:=hg e;have hlt:nb<w2.heap.size:=N.box.lt;obtain⟨b,x,hp,K9⟩:=Sl (nbs:=[nb]) (B:=w.heap.size) (Bx:=w2.heap.size) hA (fun g hg=>⟨by
  rcases List.mem_cons.1 hg with rfl|hg
  ·exact hlt
  ·exact(CD N.own (by simpa using hg)).2,ho.size⟩) eu.size (K.sub (kU (Nat.le_refl _) ho.size fun k h4 h5 h6=>⟨h5,ho.block k h6 (by omega)⟩)) (hT e) ho.size
 refine⟨g1,by simpa using g2,bs++[b],l++[x],by rw[hp];simp,K9.sub (kU (Nat.le_refl _) (by rw[sG];exact Nat.le_refl _) fun k h4 h5 h6=>⟨h5,Below.heap_setCell w9 _ _ k (fun e2=>h5 (by rw[e2];simp))⟩)⟩
theorem So{w0:World}{sv:Value}{L:List bA}{i:Nat}{w wr:World}{p:cJ}{bt nb:Nat}{g i':Nat}{ps:List Value}{sl:Value}(h:SL w0 sv L i w p bt nb g wr i' false ps sl)(hl:ps.length≤30000)(hp:ep p){xt:ao}{B0:Nat}(yL:B0≤w.heap.size)(cT:w0.heap.size<B0)(ht:bg (dJ B0 w) bt xt)(hwf:Wf xt)(hfw:ez 1000000 xt):du B0 wr (cw nb):=by
 obtain⟨_,_,bs,l,rfl,K⟩:=h.good rfl;have qf:=ht.later (h.only.kf cT).low;have hKB:=K.sub ((Ie wr).trans ⟨fun a v ha=>Hx yL ha,by rw[ot,ot];exact Nat.le_refl _⟩);have N:eZ w.heap.size 8 (fb p.1) (fb p.2) [] ((0:Nat):Int) ((bt::bs).map cw) nb sl wr:=h.node;have hlen:bs.length≤30000:=by simp at hl;omega
 have hll:=hKB.len;refine⟨nb,.mk 8 p [] 0 (xt::l),rfl,RW (l:=xt::l) N yL (by simp[hll]) (fun j x y hx hy=>?_),abt hp hwf hKB.tk,uP (by simp;omega) (fun y hy=>?_)⟩
 ·cases j with
  |zero=>simp at hx hy;subst hx hy;exact qf
  |succ j=>simp at hx hy;exact hKB.at_ j x y hx hy
 ·rcases List.mem_cons.1 hy with rfl|hy
  ·exact hfw
  ·exact hKB.few y hy
set_option maxHeartbeats 4000000 in
theorem Sa{w0:World}{sv:Value}{L:List bA}(P:PW w0 sv L){m:Nat}(S:iY 90 w0 sv L m){i:Nat}{w:World}(h:ch w0 sv L i false w)(hm:mu L i false≤m+1){p:cJ}(hp:ep p){bt:Nat}{xt:ao}{B0:Nat}(yL:B0≤w.heap.size)(cT:w0.heap.size<B0)(ht:bg (dJ B0 w) bt xt)(hwf:Wf xt)(hfw:ez 1000000 xt):
 Calls Tryz.prog 207 #[.pointer (some ⟨w0.heap.size,0,none⟩),.complex .f64 (fb p.1) (fb p.2),cw bt] w (fun e w'=>∃q i' bad',e=.returned q∧kS q∧ch w0 sv L i' bad' w'∧aX w0.heap.size w w'∧(bad'=false→i<i'∧du B0 w' q)):=by
 have HS:=aa S;have HP:=aa P;have HM:=aa hm;have HLT:=aa h.box.lt;have H:=aa h;have HPO:=aa hp;have HT:=aa ht;have HWF:=aa hwf;have HFW:=aa hfw;clear S P h hm hp ht hwf hfw;unfold cw;go_enter Tryz.func207,Tryz.ntmps207;go_wp2_with fail;refine(jz 8 (fb p.1) (fb p.2) [] (.inr ⟨bt,rfl⟩) (.inl rfl) _).mono ?_;rintro e w1 ⟨nb,sl,rfl,ae,N⟩;have H1:=aa (H.out.only ae);have B1:=aa ae;have NN:=aa (show eZ w.heap.size 8 (fb p.1) (fb p.2) [] 0 [cw bt] nb sl w1 from N);clear ae N H;go_wp2_with fail;refine(uN HP.out H1.out [123]).mono ?_;rintro e w2 ⟨i2,eS,rfl,h2,eu,vC⟩;go_wp2_with fail;refine(oh HP.out h2 [125]).mono ?_;rintro e w3 (⟨rfl,h3,eT⟩|⟨rfl,h3,rfl,hk,eT⟩)
 ·have hlt:∀e:eS=false,i2=i+1∧i<L.length:=fun e=>by
   rcases vC with rfl|⟨_,_,rfl,h⟩
   ·cases e
   ·exact⟨rfl,by omega⟩
  have HLQ:=aa hlt;have O3:=aa (((aX.of B1.out).trans eu).trans eT);have N3:=aa (NN.out.only (eu.trans eT) HLT.out);have H3:=aa h3;have HM3:=aa (qX (i':=i2) (bad':=eS) HM.out (fun e=>by cases e) (fun e=>⟨by have:=(HLQ.out e).1;omega,(HLQ.out e).2⟩));clear hlt vC h2 h3 eu eT H1 B1 NN;obtain⟨A,c,rfl⟩:=jG N3.out.own;go_upto_region 5 with(fail);go_cut [] (fun wx=>∃ps sl i' bad',SL w0 sv L i w p bt nb (mu L i' bad') wx i' bad' ps sl∧ps.length≤30000);case first=>
   have ND:=aa (N3.out.only ((aX.refl _ w3).drew) HLT.out);have yK:=aa (show ch w0 sv L i2 eS w3.drew from⟨lH H3.out.below,H3.out.box,H3.out.le⟩);have OD:=aa (O3.out.drew);have k0:w3.cell? ⟨nb,4,none⟩=some (.slice A 1 c):=(N3.out.box.cell 4).trans rfl;have k1:w3.drew.cell? ⟨nb,4,none⟩=some (.slice A 1 c):=k0;have pZ:=N3.out.box.lt;go_region_law (first
    |(refine Ih (f:=90) (args:=#[.pointer (some ⟨w0.heap.size,0,none⟩)]) (by rfl) (by go_simp) ?_
      refine(HS.out _ _ _ yK.out HM3.out).mono ?_;rintro e w5 ⟨q5,i5,gx,rfl,ny,h5,di,DN,rG⟩;refine⟨_,rfl,?_⟩;obtain⟨a,rfl⟩:=xA ny;have N5:=aa (ND.out.only di HLT.out);have o5s:=(OD.out.trans di).size;have s1:w5.cell? ⟨nb,4,none⟩=some (.slice A 1 c):=(N5.out.box.cell 4).trans rfl;have s2:=N5.out.box.lt)
    |(refine zc ku (by rfl) _ _ (by rfl) w.heap.size _ 1 [cw bt] (by rfl) (jy N5.out.own (fun g hg=>(dq _ _).block g (pM N5.out.own hg))) _ 1 [.pointer a] (by rfl) (CE ny) (by omega) (by unfold maxLen;omega) (by simp;omega) ?_
      intro v9 w9 cf;obtain⟨A9,c9,rfl⟩:=jG cf.own;have X9:=(sH N5.out cf (by simp)).1;have s1:w9.cell? ⟨nb,4,none⟩=some (.slice A 1 c):=(X9.cell 4).trans rfl;have f9:=X9.frozen 4;have s2:=X9.lt))
   all_goals (go_wp2_with fail;go_meet;exact⟨_,_,i5,gx,Sn (i:=i) ND.out cf h5 OD.out di HLT.out (fun e=>⟨by have:=(rG e).1;have:=kK HLQ.out DN e;omega,by have:=(rG e).1;simp;have:=kK HLQ.out DN e;omega,[],[],rfl,gU.nil _⟩) (fun e=>(rG e).2) rfl rfl,by simp⟩)
  case rest=>
   obtain⟨ps0,sl0,i6,yJ,hsl,Wd⟩:=hcut;have HR:=aa (show ∃ps sl i' bad',SL w0 sv L i w p bt nb (mu L i6 yJ) _ i' bad' ps sl∧ps.length≤30000 from⟨ps0,sl0,i6,yJ,hsl,Wd⟩);clear hsl Wd;go_wp2_with fail
   go_loopg [] (mu L i6 yJ) (fun gg wr=>∃ps sl i' bad',SL w0 sv L i w p bt nb gg wr i' bad' ps sl∧ps.length≤30000)
   case atStart=>exact HR.out
   case round=>
    clear HR;obtain⟨ps,sl,i3,kE,hal,hlen⟩:=hrel;have HA:=aa hal;obtain rfl:=hal.meas;clear hal;go_wp2_with fail;refine(oh HP.out HA.out.rin [44]).mono ?_;rintro e w4 (⟨rfl,h4,dR⟩|⟨rfl,h4,rfl,hk,dR⟩)
    ·go_wp2_with fail;refine(uN HP.out h4 [125]).mono ?_;rintro e w5 ⟨i5,gx,rfl,h5,di,Kr⟩;go_wp2_with fail;go_ret;have o5:=dR.trans di;refine⟨_,i5,gx,rfl,.inr ⟨nb,rfl⟩,h5,HA.out.only.trans o5,fun e=>?_⟩;rcases Kr with rfl|⟨rfl,rfl,rfl,_⟩
     ·cases e
     ·obtain⟨g1,g2,bs,l,g3,K⟩:=HA.out.good rfl;refine⟨by omega,So (g:=mu L (i3+1) false) (i:=i) (ps:=ps) (sl:=sl) ⟨HA.out.node.only o5 HLT.out,h5,HA.out.only.trans o5,fun _=>⟨by omega,by omega,bs,l,g3,K.sub (kU (Nat.le_refl _) o5.size fun k h6 h7 h8=>⟨h7,o5.block k h8 (by have:=HLT.out;omega)⟩)⟩,rfl⟩ hlen HPO.out yL cT HT.out HWF.out HFW.out⟩
    ·obtain⟨g1,g2,bs,l,g3,K⟩:=HA.out.good rfl;have KK:=aa K;have G3:=aa g3;clear g3;have hle:=h4.le;have O4:=aa (HA.out.only.trans dR);have HMM:=aa (qX (i':=i3+1) (bad':=false) HM.out (fun e=>e) (fun e=>⟨by omega,by omega⟩));have N4:=aa (HA.out.node.only dR HLT.out);have H4:=aa h4;have hfew:=HP.out.few;obtain⟨A,c,rfl⟩:=jG N4.out.own;clear K h4;go_upto_region 7 with(fail);have ND:=aa (N4.out.only ((aX.refl _ w4).drew) HLT.out);have yK:=aa (show ch w0 sv L (i3+1) false w4.drew from⟨lH H4.out.below,H4.out.box,H4.out.le⟩);have OD:=aa (O4.out.drew);have k0:w4.cell? ⟨nb,4,none⟩=some (.slice A ps.length c):=(N4.out.box.cell 4).trans rfl;have k1:w4.drew.cell? ⟨nb,4,none⟩=some (.slice A ps.length c):=k0;have pZ:=N4.out.box.lt;go_region_law (first
      |(refine Ih (f:=90) (args:=#[.pointer (some ⟨w0.heap.size,0,none⟩)]) (by rfl) (by go_simp) ?_
        refine(HS.out _ _ _ yK.out HMM.out).mono ?_;rintro e w5 ⟨q5,i5,gx,rfl,ny,h5,di,DN,rG⟩;refine⟨_,rfl,?_⟩;obtain⟨a,rfl⟩:=xA ny;have N5:=aa (ND.out.only di HLT.out);have o5s:=(OD.out.trans di).size;have s1:w5.cell? ⟨nb,4,none⟩=some (.slice A ps.length c):=(N5.out.box.cell 4).trans rfl;have s2:=N5.out.box.lt)
      |(refine zc ku (by rfl) _ _ (by rfl) w.heap.size _ ps.length ps (by rfl) (jy N5.out.own (fun g hg=>(dq _ _).block g (pM N5.out.own hg))) _ 1 [.pointer a] (by rfl) (CE ny) (by omega) (by unfold maxLen;omega) (by simp;omega) ?_
        intro v9 w9 cf;obtain⟨A9,c9,rfl⟩:=jG cf.own;have X9:=(sH N5.out cf (by simp)).1;have s1:w9.cell? ⟨nb,4,none⟩=some (.slice A ps.length c):=(X9.cell 4).trans rfl;have f9:=X9.frozen 4;have s2:=X9.lt))
     all_goals (go_wp2_with fail;go_roundg (mu L i5 gx);(case measure=>exact pN (fun e=>by have:=(rG e).1;omega));exact⟨_,_,i5,gx,Sn (i:=i) ND.out cf h5 OD.out di HLT.out (fun e=>⟨by have:=(rG e).1;omega,by have:=(rG e).1;omega,bs,l,G3.out,KK.out.sub (kU (Nat.le_refl _) dR.size fun k h6 h7 h8=>⟨h7,dR.block k h8 (by have:=HLT.out;omega)⟩)⟩) (fun e=>(rG e).2) rfl rfl,by simp;omega⟩)
 ·obtain⟨_,_,rfl,hle⟩:=vC.resolve_left (by decide);go_wp2_with fail;go_ret;have o3:=eu.trans eT;exact⟨_,i+1+1,false,rfl,.inr ⟨nb,rfl⟩,h3,(aX.of B1.out).trans o3,fun _=>⟨by omega,So (i:=i) (g:=mu L (i+1+1) false) (ps:=[cw bt]) (sl:=sl) ⟨NN.out.only o3 HLT.out,h3,(aX.of B1.out).trans o3,fun _=>⟨by omega,by simp,[],[],rfl,gU.nil _⟩,rfl⟩ (by simp) HPO.out yL cT HT.out HWF.out HFW.out⟩⟩
end Go.Proofs.YtlpombjidhloiaaGreat
