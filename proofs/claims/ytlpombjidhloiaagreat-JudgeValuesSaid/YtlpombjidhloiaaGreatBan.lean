/- The judge in memory. ref03. Condition: what each theorem says. -/
import Derived.Test.YtlpombjidhloiaaGreatBam
import Derived.StillTailTactics
namespace Go.Proofs.YtlpombjidhloiaaGreat
open Go.RowKit
set_option maxRecDepth 100000
attribute [local go_sem ↓] Go.wp_at_zero Go.wp_at_succ
theorem FA{A B:Prop}(k:B)(h:Hid B→A:=by(intro hk;simp only[dX,List.filterMap,List.getElem?_toArray,List.getElem?_cons_zero,List.getElem?_cons_succ,List.getElem_toArray,List.getElem_cons_zero,List.getElem_cons_succ,Act.put,List.setIfInBounds_toArray,List.set_cons_zero,List.set_cons_succ,List.drop_succ_cons,List.drop_zero];exact hk.out)):A:=h k
theorem FQ{P:Program}{ops:Array Oper}{Q:Exit→Act→World→Prop}{w0 w:World}{late:List Nat}{ms:List Al}{listed:Array Bool}{a:Act}{G:Prop}(hw:Below w0.heap.size w0 w)(l:List Nat)(k:G)(hf:eE ops late ms=true:=by kernel_rfl)(hQ:∀c a d v w,Q (.panic c) (a.put d v) w↔Q (.panic c) a w:=by(intro c a d v w;cases d<;>exact Iff.rfl))(hp:nH ops l=true:=by kernel_rfl)(hB:zM ops late ms listed l=true:=by kernel_rfl)(h:Hid G→wpQuiet P ops (fun w'=>∃x,w'=fc w0 x) (cZ P ops Q w0 late ms w (ub listed l)) (dX ops l) a:=by(intro hk;simp only[dX,List.filterMap,List.getElem?_toArray,List.getElem?_cons_zero,List.getElem?_cons_succ,List.getElem_toArray,List.getElem_cons_zero,List.getElem_cons_succ,Act.put,List.setIfInBounds_toArray,List.set_cons_zero,List.set_cons_succ,List.drop_succ_cons,List.drop_zero];(repeat (go_big_quiet_step (fail)));refine wpQuiet_nil ?_;exact hk.out)):cZ P ops Q w0 late ms w listed a:=qy hf hQ hw l listed a hp hB (h k)
theorem FS{P:Program}{ops:Array Oper}{Q:Exit→Act→World→Prop}{w0 w:World}{late:List Nat}{ms:List Al}{listed:Array Bool}{a:Act}{G:Prop}(hal:∀m∈ms,fN P ops m)(hw:Below w0.heap.size w0 w)(l:List Nat)(k:G)(hf:eE ops late ms=true:=by kernel_rfl)(hQ:∀c a d v w,Q (.panic c) (a.put d v) w↔Q (.panic c) a w:=by(intro c a d v w;cases d<;>exact Iff.rfl))(hp:nH ops l=true:=by kernel_rfl)(hB:zR ops late ms listed l=true:=by kernel_rfl)(h:Hid G→wpQuiet P ops (fun w'=>∃x,w'=fc w x) (cZ P ops Q w0 late ms w (ub listed l)) (dX ops l) a:=by(intro hk;simp only[dX,List.filterMap,List.getElem?_toArray,List.getElem?_cons_zero,List.getElem?_cons_succ,List.getElem_toArray,List.getElem_cons_zero,List.getElem_cons_succ,Act.put,List.setIfInBounds_toArray,List.set_cons_zero,List.set_cons_succ,List.drop_succ_cons,List.drop_zero];(repeat (go_big_quiet_step (fail)));refine wpQuiet_nil ?_;exact hk.out)):cZ P ops Q w0 late ms w listed a:=zS hf hal hQ hw l listed a hp hB (h k)
theorem FC{P:Program}{ops:Array Oper}{Q:Exit→Act→World→Prop}{w0 w:World}{late:List Nat}{ms:List Al}{listed:Array Bool}{a:Act}{o:Oper}{f:FuncId}{args:Array Value}(i:Nat)(hal:∀m∈ms,fN P ops m)(hw:Below w0.heap.size w0 w)
  (h:∀w1,Below w.heap.size w w1→Calls P f args w1 fun e w2=>match e with
   |.returned v=>Below w1.heap.size w1 w2∧cZ P ops Q w0 late ms w2 (listed.setIfInBounds i true) (a.put o.dst v)
   |.panicked c=>Q (.panic c) a w2
   |.outgrown=>False) (ho:ops[i]? =some o:=by exact rfl) (hf:eE ops late ms=true:=by kernel_rfl) (hB:iG ops late ms listed i=true:=by kernel_rfl) (hwt:Region.wanted o (yielded ops a.tmps)=true:=by exact rfl) (hQ:∀c a d v w,Q (.panic c) (a.put d v) w↔Q (.panic c) a w:=by(intro c a d v w;cases d<;>exact Iff.rfl))
  (hr:∀w1,Below w0.heap.size w0 w1→(execOp a.eval o).run P w1=.ok (.enter f args) w1:=by(intro w1 _;go_simp;try rfl)):cZ P ops Q w0 late ms w listed a:=lf hf hal ho hB hw hwt hQ hr h
theorem FN{P:Program}{ops:Array Oper}{Q:Exit→Act→World→Prop}{w0 w:World}{late:List Nat}{ms:List Al}{listed:Array Bool}{a:Act}{o:Oper}{G:Prop}(i:Nat)(hal:∀m∈ms,fN P ops m)(hw:Below w0.heap.size w0 w)(k:G)(ho:ops[i]? =some o:=by exact rfl)(hf:eE ops late ms=true:=by kernel_rfl)(hB:iG ops late ms listed i=true:=by kernel_rfl)(hy:YieldsIf P ops (fun w'=>Below w.heap.size w w') o undef a:=by exact(.inr ⟨rfl,rfl⟩))(h:Hid G→cZ P ops Q w0 late ms w (listed.setIfInBounds i true) (a.put o.dst undef):=by(intro hk;simp only[dX,List.filterMap,List.getElem?_toArray,List.getElem?_cons_zero,List.getElem?_cons_succ,List.getElem_toArray,List.getElem_cons_zero,List.getElem_cons_succ,Act.put,List.setIfInBounds_toArray,List.set_cons_zero,List.set_cons_succ,List.drop_succ_cons,List.drop_zero];exact hk.out)):cZ P ops Q w0 late ms w listed a:=Mt hf hal ho hB hw hy (h k)
theorem bb{a b c:World}(h:Below a.heap.size a b)(k:Below b.heap.size b c):Below a.heap.size a c:=h.trans (k.mono h.size)
theorem ah{a b c:World}(h:Hid (Below a.heap.size a b))(k:Below b.heap.size b c):Hid (Below a.heap.size a c):=bb h k
def fb(n:Nat):Nat:=FloatKind.f64.nearest (n:Int)
def jM(p:cJ):Value:=.complex .f64 (fb p.1) (fb p.2)
@[go_sem] theorem ahy(p:cJ):jM p=.complex .f64 (fb p.1) (fb p.2):=rfl
@[go_sem] theorem ahz{P:Program}(w:World)(a:Addr)(m:Mode)(k:FloatKind)(re im:Nat):(store a (.complex k re im) m).run P w=stored P w a (.complex k re im) m:=run_store P w a _ m rfl
def cw(b:Nat):Value:=.pointer (some ⟨b,0,none⟩)
def AC(t:ao)(A:Option Addr)(c:Nat):Array Value:=#[.int .u8 t.kind,jM t.pos,.string ⟨t.name.toArray⟩,.int .i64 t.n,.slice A t.kids.length c]
inductive bg(w:World):Nat→ao→Prop where
 |mk (b:Nat) (t:ao) (A:Option Addr) (c:Nat) (bs:List Nat) (h:∀i u,(AC t A c)[i]? =some u→w.cell? ⟨b,i,none⟩=some u) (hr:Rw w (.slice A t.kids.length c) t.kids.length (bs.map cw)) (hl:bs.length=t.kids.length)
  (hk:∀(i:Nat) (x:Nat) (y:ao),bs[i]? =some x→t.kids[i]? =some y→bg w x y):bg w b t
theorem bg.later{w w':World}{b:Nat}{t:ao}(h:bg w b t)(hb:Below w.heap.size w w'):bg w' b t:=by
 induction h with
 |mk b t A c bs h hr hl hk ih=>exact .mk b t A c bs (fun i u hi=>bo (h i u hi) hb) (hr.later hb) hl ih
theorem bg.cells{w:World}{b:Nat}{t:ao}(h:bg w b t):∃A c,w.cell? ⟨b,0,none⟩=some (.int .u8 t.kind)∧w.cell? ⟨b,1,none⟩=some (jM t.pos)∧w.cell? ⟨b,2,none⟩=some (.string ⟨t.name.toArray⟩)∧w.cell? ⟨b,3,none⟩=some (.int .i64 t.n)∧w.cell? ⟨b,4,none⟩=some (.slice A t.kids.length c)∧
 ∀(i:Nat),i<t.kids.length→∃g o x,A=some ⟨g,o,none⟩∧t.kids.length≤c∧w.cell? ⟨g,o+i,none⟩=some (.pointer (some ⟨x,0,none⟩))∧bg w x (kid t i):=by
 cases h with
 |mk b t A c bs h hr hl hk=>
  refine⟨A,c,h 0 _ rfl,h 1 _ rfl,h 2 _ rfl,h 3 _ rfl,h 4 _ rfl,fun i hi=>?_⟩;have hx:bs[i]? =some (bs[i]'(by omega)):=List.getElem?_eq_getElem _;obtain⟨g,o,c',h1,h2,h3,h4⟩:=hr.at_ (k:=i) (u:=cw (bs[i]'(by omega))) (by rw[List.getElem?_map,hx];rfl);cases h1;refine⟨g,o,_,rfl,h2,h4,hk i _ _ hx ?_⟩;unfold kid;rw[List.getD_eq_getElem?_getD,List.getElem?_eq_getElem hi];rfl
structure bO(w:World)(pt pv:Nat)(T:List Ty)(L:List Lv):Prop where
 tab:cF w pt T
 env:lS w pv L
 vals:∀nm e,jL L nm=some e→Vw e.val
 ofs:∀u nm e,iU L u nm=some e→Vw e.val
theorem bO.later{w w':World}{pt pv:Nat}{T:List Ty}{L:List Lv}(h:bO w pt pv T L)(hb:Below w.heap.size w w'):bO w' pt pv T L:=⟨h.tab.later hb,h.env.later hb,h.vals,h.ofs⟩
def qC(pt pv:Nat):Array Value:=#[.pointer (some ⟨pt,0,none⟩),.pointer (some ⟨pv,0,none⟩)]
def qV(pt pv:Nat):Value:=.agg (qC pt pv)
def AD(p:cJ)(c:Int):Value:=.iface 163 (.agg #[jM p,.int .i64 c])
def sj(p:cJ)(c:Int):List PanicEntry:=[{v:=AD p c,recovered:=false}]
def sk{α:Type}(ok:α→Prop)(g:α→Value)(w:World)(r:Jr α)(e:Ending)(w':World):Prop:=Below w.heap.size w w'∧match r with
 |.ok a=>e=.returned (g a)∧ok a
 |.error q=>e=.panicked (sj q.1 q.2)
theorem bj{α:Type}{ok:α→Prop}{g:α→Value}{fn:Func}{w wF:World}{r:Jr α}{p:cJ}{c:Int}{a:Act}(hr:r=.error (p,c))(hb:Below w.heap.size w wF)(hd:a.defers=[]):bodyPost Tryz.prog fn (sk ok g w r) (.panic (sj p c)) a wF:=by
 subst hr;exact⟨hd,hb,rfl⟩
def jN:World→Jr Jd→Ending→World→Prop:=sk (fun j=>Vw j.val) bU
theorem info29:(Tryz.prog.info? 29).map (·.size)=some 3:=by kernel_rfl
theorem AE{fn:Func}{p:Tmp}(hfn:fn.results=#[.cell p 29]){wF:World}(j:Jd){R:Ending→World→Prop}{tmps:Array Value}{ds:List Deferred}{k:Nat}(X:Bx k (kJ j) 29 wF)(hd:ds=[])
 (hp:tmps.getD p undef=.pointer (some ⟨k,0,none⟩)) (hR:R (.returned (bU j)) wF):bodyPost Tryz.prog fn R .ret ⟨tmps,ds⟩ wF:=by
 have hp':tmps[p]?.getD undef=.pointer (some ⟨k,0,none⟩):=by simpa using hp
 have h1:(results fn (Act.mk tmps ds).tmps).run Tryz.prog wF=.ok (.agg (kJ j)) wF:=by
  simp[results,hfn,hp',asAddr,run_loadVar_row wF k _ _ _ (0,0) _ X Tryz.underlying29 rfl (info29.trans rfl)]
 exact bodyPost_ret h1 hd hR
theorem pw{w:World}{k:Nat}{y0 y1 y2:Value}(h:Bx k #[y0,y1,y2] 29 w)(j:Jd):Bx k (kJ j) 29 (((w.setCell ⟨k,0,none⟩ (.int .i64 j.type)).setCell ⟨k,1,none⟩ (aK j.val)).setCell ⟨k,2,none⟩ (.int .u8 j.is)):=((h.set 0 _).set 1 _).set 2 _
theorem mS{B k:Nat}{a w:World}{v0 v1 v2:Value}(h:Below B a w)(hk:B≤k):Below B a (((w.setCell ⟨k,0,none⟩ v0).setCell ⟨k,1,none⟩ v1).setCell ⟨k,2,none⟩ v2):=((h.setCell hk _).setCell hk _).setCell hk _
theorem NK{fn:Func}{p:Tmp}(hfn:fn.results=#[.cell p 29]){wr:World}(j:Jd){R:Ending→World→Prop}{tmps:Array Value}{ds:List Deferred}{k:Nat}{y0 y1 y2:Value}(X:Bx k #[y0,y1,y2] 29 wr)(hd:ds=[])
 (hp:tmps.getD p undef=.pointer (some ⟨k,0,none⟩)) (hR:R (.returned (bU j)) (((wr.setCell ⟨k,0,none⟩ (.int .i64 j.type)).setCell ⟨k,1,none⟩ (aK j.val)).setCell ⟨k,2,none⟩ (.int .u8 j.is))):bodyPost Tryz.prog fn R .ret ⟨tmps,ds⟩ (((wr.setCell ⟨k,0,none⟩ (.int .i64 j.type)).setCell ⟨k,1,none⟩ (aK j.val)).setCell ⟨k,2,none⟩ (.int .u8 j.is)):=
 AE hfn j (pw X j) hd hp hR
@[go_sem] theorem ahA(v:aL):Value.cells.match_1 (fun _=>Array Value) (aK v) (fun cs=>cs) (fun u=>#[u])=#[aK v]:=by cases v<;>rfl
theorem ef{fn:Func}{p:Tmp}(hfn:fn.results=#[.cell p 29]){w wr:World}(j:Jd){r:Jr Jd}{tmps:Array Value}{ds:List Deferred}{k:Nat}{y0 y1 y2:Value}(X:Bx k #[y0,y1,y2] 29 wr)(hb:Below w.heap.size w wr)(hk:w.heap.size≤k)(hd:ds=[])
 (hp:tmps.getD p undef=.pointer (some ⟨k,0,none⟩)) (hr:r=.ok j) (hv:Vw j.val):bodyPost Tryz.prog fn (jN w r) .ret ⟨tmps,ds⟩ (((wr.setCell ⟨k,0,none⟩ (.int .i64 j.type)).setCell ⟨k,1,none⟩ (aK j.val)).setCell ⟨k,2,none⟩ (.int .u8 j.is)):=by
 subst hr;exact NK hfn j X hd hp ⟨mS hb hk,rfl,hv⟩
theorem uy{fn:Func}{p:Tmp}(hfn:fn.results=#[.cell p 29]){w wr:World}(j:Jd){tmps:Array Value}{ds:List Deferred}{k:Nat}{y0 y1 y2:Value}(X:Bx k #[y0,y1,y2] 29 wr)(hb:Below w.heap.size w wr)(hk:w.heap.size≤k)(hd:ds=[])
 (hp:tmps.getD p undef=.pointer (some ⟨k,0,none⟩)):bodyPost Tryz.prog fn (Pv w (bU j)) .ret ⟨tmps,ds⟩ (((wr.setCell ⟨k,0,none⟩ (.int .i64 j.type)).setCell ⟨k,1,none⟩ (aK j.val)).setCell ⟨k,2,none⟩ (.int .u8 j.is)):=
 NK hfn j X hd hp ⟨rfl,mS hb hk⟩
theorem sm{fn:Func}(h:fn.results=#[]){R:Ending→World→Prop}{a:Act}{w:World}(hd:a.defers=[])(hR:R (.returned (.tuple #[])) w):bodyPost Tryz.prog fn R .normal a w:=⟨hd,.tuple #[],by simp[results,h],hR⟩
theorem iI(q:Bool){w:World}{b:Nat}{x:ao}(h:bg w b x)(c:Int):Calls Tryz.prog 71 #[.bool q,.pointer (some ⟨b,0,none⟩),.int .i64 c] w (fun e w'=>w=w'∧e=if q then .returned (.tuple #[])else .panicked (sj x.pos c)):=by
 obtain⟨A,c',_,h1,_⟩:=h.cells;have hb:=aQ h1;clear h;go_enter Tryz.func71,Tryz.ntmps71;cases q
 ·go_wp2_with fail;exact⟨rfl,rfl,rfl⟩
 ·go_wp2_with fail;exact sm rfl rfl ⟨rfl,rfl⟩
theorem lq{q:Bool}{w:World}{b:Nat}{x:ao}(hq:q=false)(h:bg w b x)(c:Int):Calls Tryz.prog 71 #[.bool q,.pointer (some ⟨b,0,none⟩),.int .i64 c] w (fun e w'=>w=w'∧e=.panicked (sj x.pos c)):=by
 subst hq;exact iI false h c
theorem eg{q:Bool}{w:World}{b:Nat}{x:ao}(h:bg w b x)(c:Int)(hq:q=false:=by first|with_reducible rfl|(simp only[decide_eq_false_iff_not,decide_eq_true_eq];omega)):Calls Tryz.prog 71 #[.bool q,.pointer (some ⟨b,0,none⟩),.int .i64 c] w (fun e w'=>w=w'∧e=.panicked (sj x.pos c)):=lq hq h c
theorem jm{q:Bool}{w:World}{b:Nat}{x:ao}(hq:q=true)(h:bg w b x)(c:Int):Calls Tryz.prog 71 #[.bool q,.pointer (some ⟨b,0,none⟩),.int .i64 c] w (fun e w'=>w=w'∧e=.returned (.tuple #[])):=by
 subst hq;exact iI true h c
theorem da{q:Bool}{w:World}{b:Nat}{x:ao}(h:bg w b x)(c:Int)(hq:q=true:=by first|with_reducible rfl|(simp only[decide_eq_false_iff_not,decide_eq_true_eq];omega)):Calls Tryz.prog 71 #[.bool q,.pointer (some ⟨b,0,none⟩),.int .i64 c] w (fun e w'=>w=w'∧e=.returned (.tuple #[])):=jm hq h c
def ju(l c:Int):Bool:=decide (1≤l)&&(decide (l≤1073741824)&&(decide (1≤c)&&decide (c≤1073741824)))
def qW(l c:Int):Value:=.agg #[.int .i64 l,.int .i64 c]
theorem dq(w:World)(o:Obj):Below w.heap.size w (w.alloc o):=(Below.refl _ w).alloc (Nat.le_refl _) o
theorem RU(l c:Int)(w:World):Calls Tryz.prog 127 #[qW l c] w (fun e w'=>e=.returned (.bool (ju l c))∧Below w.heap.size w w'):=by
 have HB:=aa (dq w);unfold qW;go_enter Tryz.func127,Tryz.ntmps127;by_cases h1:1≤l
 ·by_cases h2:l≤1073741824
  ·by_cases h3:1≤c
   ·by_cases h4:c≤1073741824
    ·have HV:=aa (show ju l c=true by unfold ju;simp[h1,h2,h3,h4]);go_wp2_with fail;go_ret;exact xv
    ·have HV:=aa (show ju l c=false by unfold ju;simp[h4]);go_wp2_with fail;go_ret;exact xv
   ·have HV:=aa (show ju l c=false by unfold ju;simp[h3]);go_wp2_with fail;go_ret;exact xv
  ·have HV:=aa (show ju l c=false by unfold ju;simp[h2]);go_wp2_with fail;go_ret;exact xv
 ·have HV:=aa (show ju l c=false by unfold ju;simp[h1]);go_wp2_with fail;go_ret;exact xv
def sI(l c:Int):Value:=if ju l c=true then .complex .f64 (FloatKind.f64.nearest l) (FloatKind.f64.nearest c)else .complex .f64 0 0
theorem acF(l c:Int)(w:World):Calls Tryz.prog 91 #[qW l c] w (fun e w'=>e=.returned (sI l c)∧Below w.heap.size w w'):=by
 have HI:=aa (RU l c);have HB:=aa (dq w);unfold qW at HI ⊢;go_enter Tryz.func91,Tryz.ntmps91;go_wp2_with fail;refine(HI.out _).mono ?_;rintro e w1 ⟨rfl,hb⟩;have aO:=aa ((HB.out _).trans (hb.mono (HB.out _).size));have z0:w1.cell? ⟨w.heap.size,0,none⟩=some (.int .i64 l):=by
  rw[World.cell?_of_block (hb.block _ (by simp))];simp
 have z1:w1.cell? ⟨w.heap.size,1,none⟩=some (.int .i64 c):=by
  rw[World.cell?_of_block (hb.block _ (by simp))];simp
 clear hb HB HI;cases hi:ju l c with
 |true=>
  have HV:=aa (show sI l c=.complex .f64 (FloatKind.f64.nearest l) (FloatKind.f64.nearest c)by unfold sI;rw[if_pos hi]);clear hi;go_wp2_with fail;go_ret;exact⟨by rw[HV.out];rfl,aO.out⟩
 |false=>
  have HV:=aa (show sI l c=.complex .f64 0 0 by unfold sI;rw[if_neg (by rw[hi];decide)]);clear hi;go_wp2_with fail;go_ret;exact⟨by rw[HV.out];rfl,aO.out⟩
theorem Ia{l c:Int}(h1:1≤l)(h2:l≤1073741824)(h3:1≤c)(h4:c≤1073741824):ju l c=true:=by unfold ju;simp[h1,h2,h3,h4]
theorem nj:∀(s:List UInt8) (p:cJ),1≤p.1→1≤p.2→1≤(ek p s).1∧1≤(ek p s).2∧(ek p s).1+(ek p s).2≤p.1+p.2+s.length
 |[],p,h1,h2=>⟨h1,h2,Nat.le_refl _⟩
 |c::s,p,h1,h2=>by
  show 1≤(ek (kN p c) s).1∧_;have hb:1≤(kN p c).1∧1≤(kN p c).2∧(kN p c).1+(kN p c).2≤p.1+p.2+1:=by
   unfold kN;split
   ·exact⟨by simp,by simp,by simp;omega⟩
   ·exact⟨h1,by simp,by simp;omega⟩
  obtain⟨q1,q2,q3⟩:=nj s (kN p c) hb.1 hb.2.1;exact⟨q1,q2,by simp only[List.length_cons];show(ek (kN p c) s).1+(ek (kN p c) s).2≤_;omega⟩
def PB(b:Nat)(l c:Int)(w:World):Prop:=Bx b #[.int .i64 l,.int .i64 c] 182 w
theorem acG(p:cJ)(s:List UInt8)(c:UInt8):ek p (s++[c])=kN (ek p s) c:=by
 unfold ek;rw[List.foldl_append];rfl
theorem acH:(Tryz.prog.info? 182).map (·.size)=some 2:=by kernel_rfl
theorem sG(W:World)(a:Addr)(v:Value):(W.setCell a v).heap.size=W.heap.size:=by unfold World.setCell;simp
theorem acI(p:cJ)(s:List UInt8)(w:World)(h1:1≤p.1)(h2:1≤p.2)(h3:p.1+p.2+s.length≤1073741824):Calls Tryz.prog 94 #[qW p.1 p.2,.string ⟨s.toArray⟩] w (fun e w'=>e=.returned (qW (ek p s).1 (ek p s).2)∧Below w.heap.size w w'):=by
 have HS:=aa h3;have HB:=aa (fun kk=>nj (s.take kk) p h1 h2);have HI:=aa RU;clear h1 h2 h3;unfold qW at HI ⊢;go_enter Tryz.func94,Tryz.ntmps94;go_wp2_with fail
 go_loopg [5] s.length (fun gg s5 wr=>∃kk:Nat,kk≤s.length∧gg=s.length-kk∧s5=.int .i64 kk∧Below w.heap.size w wr∧w.heap.size+2≤wr.heap.size∧PB w.heap.size (ek p (s.take kk)).1 (ek p (s.take kk)).2 wr∧PB (w.heap.size+1) 0 0 wr)
 case atStart=>exact⟨0,Nat.zero_le _,by omega,rfl,(dq w _).trans ((dq _ _).mono (by simp)),by simp,by have h:=(Bx.new w #[.int .i64 p.1,.int .i64 p.2] 182).grow (dq _ (.cells #[.int .i64 0,.int .i64 0] 182));simpa[PB,ek]using h,by have h:=Bx.new (w.alloc (.cells #[.int .i64 p.1,.int .i64 p.2] 182)) #[.int .i64 0,.int .i64 0] 182;simpa[PB]using h⟩
 case round=>
  obtain⟨kk,hkk,hgk,rfl,hb,hsz,hP,hQ⟩:=hrel;obtain⟨g1,g2,g3⟩:=HB.out kk;have hs:=HS.out;rw[List.length_take]at g3;have HT:=aa (rfl:ek p (s.take kk)=ek p (s.take kk));by_cases hlt:kk<s.length
  ·obtain⟨c,hc⟩:∃c,s[kk]? =some c:=⟨s[kk],by simp⟩;have HN:=aa (show ek p (s.take (kk+1))=kN (ek p (s.take kk)) c by rw[List.take_add_one,hc];exact acG _ _ _);generalize ek p (s.take kk)=q at *;obtain⟨ql,qc⟩:=q;simp only at hP g1 g2 g3;have hltz:(kk:Int)<(s.length:Int):=by omega
   have HW:=aa (show wrap64 ((kk:Int)+1)=((kk+1:Nat):Int)by rw[Go.IntWalk.wrap64_in _ (by omega)];omega);have HL:=aa (show wrap64 ((ql:Int)+1)=((ql+1:Nat):Int)by rw[Go.IntWalk.wrap64_in _ (by omega)];omega);have HK:=aa (show wrap64 ((qc:Int)+1)=((qc+1:Nat):Int)by rw[Go.IntWalk.wrap64_in _ (by omega)];omega);have HY:=aa (Ia (l:=(ql:Int)) (c:=(qc:Int)) (by omega) (by omega) (by omega) (by omega));have HC:=aa hc;clear hc;have hix:∀(h:kk<(⟨s.toArray⟩:ByteArray).size),(⟨s.toArray⟩:ByteArray)[kk]=c:=fun h=>by
    have h2:=HC.out;exact uM
   have z0:=hP.cell 0;have z1:=hP.cell 1;have HBL:=aa hb;have HSZ:=aa hsz;have HPP:=aa hP;have HQQ:=aa hQ;have HGK:=aa hgk;clear hb hsz hP hQ g1 g2 g3 hs hgk;go_wp2_with fail;refine(HI.out _ _ _).mono ?_;rintro e w1 ⟨rfl,ae⟩;rw[HY.out];have aO:=aa (HBL.out.trans (ae.mono (by have:=HSZ.out;omega)));have yH:=aa (show w.heap.size+2≤w1.heap.size by have:=HSZ.out;have:=ae.size;omega);have P1:=aa (Bx.grow HPP.out ae);have Q1:=aa (Bx.grow HQQ.out ae);have z2:=P1.out.cell 0;have z3:=P1.out.cell 1;have z4:=P1.out.frozen 0;have z5:=P1.out.frozen 1;clear ae z0 z1;by_cases h10:c=10
   ·have d10:((c.toNat:Int)==10)=true:=by rw[h10];rfl
    have sZ:=aa (show ek p (s.take (kk+1))=(ql+1,1)by rw[HN.out];unfold kN;rw[if_pos h10]);clear h10;go_wp2_with fail
    go_roundg (gk-1)
    case measure=>have:=HGK.out;omega
    refine⟨kk+1,by omega,by have:=HGK.out;omega,by rw[HW.out],(aO.out.setCell (Nat.le_refl _) _).setCell (Nat.le_refl _) _,by rw[sG,sG];exact yH.out,?_,(Bx.far (Bx.far Q1.out (by simp) _) (by simp) _)⟩;rw[sZ.out];have h:=(P1.out.set 0 (.int .i64 ((ql+1:Nat):Int))).set 1 (.int .i64 1);simpa[PB,HL.out]using h
   ·have d10:((c.toNat:Int)==10)=false:=beq_eq_false_iff_ne.2 (fun h=>h10 (UInt8.toNat_inj.1 (show c.toNat=(10:UInt8).toNat by
     have h8:c.toNat=10:=by omega
     rw[h8];rfl)))
    have sZ:=aa (show ek p (s.take (kk+1))=(ql,qc+1)by rw[HN.out];unfold kN;rw[if_neg h10]);clear h10;go_wp2_with fail
    go_roundg (gk-1)
    case measure=>have:=HGK.out;omega
    refine⟨kk+1,by omega,by have:=HGK.out;omega,by rw[HW.out],aO.out.setCell (Nat.le_refl _) _,by rw[sG];exact yH.out,?_,Bx.far Q1.out (by simp) _⟩;rw[sZ.out];have h:=P1.out.set 1 (.int .i64 ((qc+1:Nat):Int));simpa[PB,HK.out]using h
  ·obtain rfl:kk=s.length:=by omega
   have hltz:¬((s.length:Int)<(s.length:Int)):=by omega
   rw[List.take_length]at hP g1 g2 g3;obtain⟨⟨ql,qc⟩,hqe⟩:∃q,ek p s=q:=⟨_,rfl⟩;have HQE:=aa hqe;rw[hqe]at hP g1 g2 g3;clear hqe;simp only at hP g1 g2 g3;have HY:=aa (Ia (l:=(ql:Int)) (c:=(qc:Int)) (by omega) (by omega) (by omega) (by omega));have z0:=hP.cell 0;have z1:=hP.cell 1;have HBL:=aa hb;have HSZ:=aa hsz;have HPP:=aa hP;have HQQ:=aa hQ;clear hb hsz hP hQ g1 g2 g3 hs hgk;go_wp2_with fail;refine(HI.out _ _ _).mono ?_;rintro e w1 ⟨rfl,ae⟩;rw[HY.out];have aO:=aa (HBL.out.trans (ae.mono (by have:=HSZ.out;omega)));have P1:=aa (Bx.grow HPP.out ae);have Q1:=aa (Bx.grow HQQ.out ae);have z2:=P1.out.cell 0;have z3:=P1.out.cell 1;have y2:=Q1.out.cell 0;have y3:=Q1.out.cell 1;have y4:=Q1.out.frozen 0;have y5:=Q1.out.frozen 1;clear ae z0 z1;go_wp2_with fail;have h:=(Q1.out.set 0 (.int .i64 (ql:Int))).set 1 (.int .i64 (qc:Int));refine bodyPost_ret (results_cell_row rfl _ _ (w.heap.size+1) _ _ (0,0) _ rfl h Tryz.underlying182 rfl ?_) rfl ?_
   ·exact acH
   exact⟨by rw[HQE.out];rfl,(aO.out.setCell (by simp) _).setCell (by simp) _⟩
theorem Ru(a b:List UInt8):((⟨a.toArray⟩:ByteArray)==⟨b.toArray⟩)=decide (a=b):=by
 exact QI
attribute [local go_sem] Ru
theorem Hr{P:Program}(w:World)(a:Addr)(m:Mode)(k:FloatKind)(re im:Nat):(store a (.complex k re im) m).run P w=stored P w a (.complex k re im) m:=run_store P w a _ m rfl
attribute [local go_sem] Hr
def pK(k:Int)(t:List UInt8)(n:Int):Array Value:=#[.int .u8 k,.complex .f64 0 0,.complex .f64 0 0,.string ⟨t.toArray⟩,.int .i64 n]
theorem infoTok:(Tryz.prog.info? 177).map (·.size)=some 5:=by kernel_rfl
theorem acw(s:List UInt8)(w:World):Calls Tryz.prog 130 #[.string ⟨s.toArray⟩] w (fun e w'=>e=.returned (.agg (pK (wV s).1 (wV s).2 0))∧Below w.heap.size w w'):=by
 have HB:=aa (dq w);have HX:=aa (fun cs=>Bx.new w cs 177);go_enter Tryz.func130,Tryz.ntmps130;by_cases h1:s=[60,62]
 ·subst h1;exact Ib
 by_cases h2:s=[38]
 ·subst h2;exact Ib
 by_cases h3:s=[126]
 ·subst h3;exact Ib
 have HV:=aa (show wV s=(5,s)by unfold wV;rw[if_neg h1,if_neg h2,if_neg h3]);have d1:(s==[60,62])=false:=beq_eq_false_iff_ne.2 h1;have d2:(s==[38])=false:=beq_eq_false_iff_ne.2 h2;have d3:(s==[126])=false:=beq_eq_false_iff_ne.2 h3;clear h1 h2 h3;go_wp2_with fail;refine bodyPost_ret (results_cell_row rfl _ _ w.heap.size _ _ (0,0) _ rfl (heap_alloc_new _ _) Tryz.underlying177 rfl ?_) rfl ?_
 ·exact infoTok
 exact⟨by rw[HV.out];rfl,HB.out _⟩
structure aX(r:Nat)(w w':World):Prop where
 os:w'.os=w.os
 tape:w'.tape=w.tape
 output:w'.output=w.output
 size:w.heap.size≤w'.heap.size
 block:∀k,k<w.heap.size→k≠r→w'.heap[k]? =w.heap[k]?
theorem aX.refl(r:Nat)(w:World):aX r w w:=⟨rfl,rfl,rfl,Nat.le_refl _,fun _ _ _=>rfl⟩
theorem aX.trans{r:Nat}{a b c:World}(h:aX r a b)(k:aX r b c):aX r a c:=
 ⟨k.os.trans h.os,k.tape.trans h.tape,k.output.trans h.output,Nat.le_trans h.size k.size,fun i hi hr=>(k.block i (Nat.lt_of_lt_of_le hi h.size) hr).trans (h.block i hi hr)⟩
theorem aX.of{r:Nat}{w w':World}(h:Below w.heap.size w w'):aX r w w':=⟨h.os,h.tape,h.output,h.size,fun k hk _=>h.block k hk⟩
theorem aX.then{r:Nat}{a b c:World}(h:aX r a b)(k:Below b.heap.size b c):aX r a c:=h.trans (.of k)
theorem aX.set{r:Nat}{a b:World}(h:aX r a b){p:Addr}(hp:p.block=r∨a.heap.size≤p.block)(v:Value):aX r a (b.setCell p v):=
 ⟨h.os,h.tape,h.output,by rw[sG];exact h.size,fun k hk hr=>(Below.heap_setCell b p v k (by rcases hp with hp|hp<;>omega)).trans (h.block k hk hr)⟩
theorem aX.alloc{r:Nat}{a b:World}(h:aX r a b)(o:Obj):aX r a (b.alloc o):=h.then (dq b o)
theorem aX.drew{r:Nat}{a b:World}(h:aX r a b):aX r a b.drew:=⟨h.os,h.tape,h.output,h.size,h.block⟩
theorem aX.bx{r:Nat}{w w':World}(h:aX r w w'){k:Nat}{cs:Array Value}{t:TypeId}(hb:Bx k cs t w)(hk:k≠r):Bx k cs t w':=(h.block k hb.lt hk).trans hb
theorem aX.below{r:Nat}{w w':World}(h:aX r w w'){B:Nat}(hB:B≤w.heap.size)(hr:B≤r):Below B w w':=⟨h.os,h.tape,h.output,h.size,fun k hk=>h.block k (by omega) (by omega)⟩
theorem aX.from{B r:Nat}{w w':World}(h:Below B w w')(hB:∀k,k<w.heap.size→k≠r→B≤k→w'.heap[k]? =w.heap[k]?):aX r w w':=⟨h.os,h.tape,h.output,h.size,fun k hk hr=>by
 by_cases hb:k<B
 ·exact h.block k hb
 ·exact hB k hk hr (by omega)⟩
def dD(t:bA)(a b:Nat):Array Value:=#[.int .u8 t.kind,jM t.pos,.complex .f64 a b,.string ⟨t.text.toArray⟩,.int .i64 t.n]
structure lG(t:bA):Prop where
 pos:ep t.pos
 num:t.kind=2→t.n≤65535
def RB(w:World)(v:Value)(L:List bA):Prop:=∃b o c,v=.slice (some ⟨b,o,none⟩) L.length c∧L.length≤c∧b<w.heap.size∧∀i t,L[i]? =some t→∃x y,∀j u,(dD t x y)[j]? =some u→w.cell? ⟨b,o+i*5+j,none⟩=some u
structure PW(w0:World)(sv:Value)(L:List bA):Prop where
 toks:RB w0 sv L∨(L=[]∧sv=.slice none 0 0)
 is_:∀t∈L,lG t
 few:L.length≤20000
structure ch(w0:World)(sv:Value)(L:List bA)(i:Nat)(bad:Bool)(w:World):Prop where
 below:Below w0.heap.size w0 w
 box:Bx w0.heap.size #[sv,.int .i64 i,.bool bad] 157 w
 le:i≤L.length
theorem ch.only{w0:World}{sv:Value}{L:List bA}{i:Nat}{bad:Bool}{w w':World}(h:ch w0 sv L i bad w)(k:Below w.heap.size w w'):ch w0 sv L i bad w':=
 ⟨h.below.trans (k.mono h.below.size),h.box.grow k,h.le⟩
theorem ni{w0:World}{sv:Value}{L:List bA}(h:PW w0 sv L){i:Nat}(hk:(bL L i).kind≠0):i<L.length∧lG (bL L i):=by
 unfold bL at hk ⊢;rw[List.getD_eq_getElem?_getD]at hk ⊢;cases e:L[i]? with
 |none=>rw[e]at hk;exact absurd rfl hk
 |some x=>
  obtain⟨h1,h2⟩:=List.getElem?_eq_some_iff.1 e;exact⟨h1,h.is_ x (List.mem_of_getElem? e)⟩
theorem acx:(Tryz.prog.info? 177).map (·.size)=some 5:=by kernel_rfl
def RC(L:List bA)(i:Nat)(w:World)(e:Ending)(w':World):Prop:=(∃a b,e=.returned (.agg (dD (bL L i) a b)))∧Below w.heap.size w w'
theorem Hu:fb 0=0:=by decide +kernel
theorem og{P:Program}{id:Nat}{Q:Exit→Act→World→Prop}{a:Act}{w:World}{l:List Oper}(n:Nat)(hm:P.follows .mixedOrders=true)(hB:Region.lexTailB .any l.toArray n=true)
 (h:wpStill P l.toArray w.drew (fun a'=>wpList P l.toArray Q (l.drop n) a' w.drew) (l.take n) a):(Code.region id l.toArray true).wp P Q a w:=wp_region_still_tail n hm hB h
theorem lH{B:Nat}{a w:World}(h:Below B a w):Below B a w.drew:=⟨h.os,h.tape,h.output,h.size,h.block⟩
theorem Cv{B b:Nat}{a w:World}{v0 v1 v2 v3 v4:Value}(h:Below B a w)(hk:B≤b):Below B a (((((w.setCell ⟨b,0,none⟩ v0).setCell ⟨b,1,none⟩ v1).setCell ⟨b,2,none⟩ v2).setCell ⟨b,3,none⟩ v3).setCell ⟨b,4,none⟩ v4):=((((h.setCell hk _).setCell hk _).setCell hk _).setCell hk _).setCell hk _
theorem RE{L:List bA}{i:Nat}{fn:Func}(hfn:fn.results=#[.cell 2 177]){w wF:World}{t:bA}{x y:Nat}{tmps:Array Value}{ds:List Deferred}{b:Nat}(X:Bx b (dD t x y) 177 wF)(hb:Below w.heap.size w wF)(hd:ds=[])
 (hp:tmps.getD 2 undef=.pointer (some ⟨b,0,none⟩)) (ht:bL L i=t):bodyPost Tryz.prog fn (RC L i w) .ret ⟨tmps,ds⟩ wF:=by
 subst ht;exact bodyPost_ret (results_cell_row hfn _ _ b _ _ (0,0) _ hp X Tryz.underlying177 rfl acx) hd ⟨⟨x,y,rfl⟩,hb⟩
theorem Cw{w:World}{b:Nat}{y0 y1 y2 y3 y4:Value}(h:Bx b #[y0,y1,y2,y3,y4] 177 w)(t:bA)(x y:Nat):Bx b (dD t x y) 177 (((((w.setCell ⟨b,0,none⟩ (.int .u8 t.kind)).setCell ⟨b,1,none⟩ (.complex .f64 (fb t.pos.1) (fb t.pos.2))).setCell ⟨b,2,none⟩ (.complex .f64 x y)).setCell ⟨b,3,none⟩ (.string ⟨t.text.toArray⟩)).setCell ⟨b,4,none⟩ (.int .i64 t.n)):=((((h.set 0 _).set 1 _).set 2 _).set 3 _).set 4 _
set_option maxHeartbeats 1000000 in
theorem kr{w0:World}{sv:Value}{L:List bA}(P:PW w0 sv L){i:Nat}{bad:Bool}{w:World}(h:ch w0 sv L i bad w):Calls Tryz.prog 84 #[.pointer (some ⟨w0.heap.size,0,none⟩)] w (RC L i w):=by
 obtain⟨b0,x0,l0⟩:=h;have hfew:=P.few;have hsv:∃A c,sv=.slice A L.length c:=by
  rcases P.toks with⟨b,o,c,rfl,_⟩|⟨rfl,rfl⟩
  ·exact⟨_,_,rfl⟩
  ·exact⟨_,_,rfl⟩
 have HTK:=aa P.toks;obtain⟨A,c,rfl⟩:=hsv;have B0:=aa b0;have X0:=aa x0;clear b0 x0 P;go_enter Tryz.func84,Tryz.ntmps84;go_upto_region 1 with(fail);generalize az:w.alloc _=w1;obtain⟨ae,x1,aE⟩:=made az;have aO:=aa ae;have yI:=aa x1;have X01:=aa (X0.out.grow ae);have z0:=X01.out.cell 0;have z1:=X01.out.cell 1;have hlt:=X01.out.lt;clear az ae x1 aE;have hi0:(0:Int)≤(i:Int):=by omega
 refine mQ (by kernel_rfl) (by kernel_rfl) ?_;repeat go_big_quiet_step (fail)
 refine wpQuiet_nil ?_;rintro wz ⟨x9,rfl⟩;have hg:=lO w1 x9;have HXd:=aa (yI.out.grow hg);have X0d:=aa (X01.out.grow hg);have HBd:=aa (aO.out.trans (hg.mono aO.out.size));clear aO yI X01 hg z0 z1 hlt;generalize fc w1 x9=wd at *;have z0:=X0d.out.cell 0;have z1:=X0d.out.cell 1;have hlt:=X0d.out.lt;by_cases hi:i<L.length
 ·have hiz:(i:Int)<(L.length:Int):=by omega
  go_wp2_with fail;rcases HTK.out with ht|⟨rfl,_⟩;case inr=>exact absurd hi (by simp)
  obtain⟨b,o,c',hA,hc,hbl,hcells⟩:=ht;obtain⟨rfl,rfl⟩:A=some ⟨b,o,none⟩∧c=c':=by cases hA;exact⟨rfl,rfl⟩
  obtain⟨x,y,hxy⟩:=hcells i _ (List.getElem?_eq_getElem hi);have B0d:=lH (B0.out.trans (HBd.out.mono B0.out.size));have HC:=aa (fun j u (hj:(dD L[i] x y)[j]? =some u)=>(show wd.drew.cell? ⟨b,o+i*5+j,none⟩=some u from bo (hxy j u hj) B0d));have HN:bL L i=L[i]:=by unfold bL;rw[List.getD_eq_getElem?_getD,List.getElem?_eq_getElem hi];rfl
  have HN:=aa HN;generalize L[i]=t at *;obtain⟨tk,tp,tt,tn⟩:=t;have jf:=aa (show Bx w.heap.size _ 177 wd.drew from HXd.out);have X02:=aa (show Bx w0.heap.size _ 157 wd.drew from X0d.out);have aV:=aa (lH HBd.out);refine og 10 (by kernel_rfl) (by kernel_rfl) ?_;clear z0 z1 hlt HXd X0d HBd hxy hcells hA;generalize wd.drew=we at *;have c0:we.cell? ⟨b,o+i*5,none⟩=some (.int .u8 tk):=HC.out 0 _ rfl;have c1:we.cell? ⟨b,o+i*5+1,none⟩=some (jM tp):=HC.out 1 _ rfl;have c2:we.cell? ⟨b,o+i*5+2,none⟩=some (.complex .f64 x y):=HC.out 2 _ rfl;have c3:we.cell? ⟨b,o+i*5+3,none⟩=some (.string ⟨tt.toArray⟩):=HC.out 3 _ rfl;have c4:we.cell? ⟨b,o+i*5+4,none⟩=some (.int .i64 tn):=HC.out 4 _ rfl;have z0:=X02.out.cell 0;have z1:=X02.out.cell 1;have x0:=jf.out.cell;have f0:=jf.out.frozen;have l0:=jf.out.lt;simp only[List.take_succ_cons,List.take_zero,List.drop_succ_cons,List.drop_zero];repeat still_step
  refine wpStill_nil ?_;go_wp2_with fail;refine RE (t:=⟨tk,tp,tt,tn⟩) (x:=x) (y:=y) (b:=w.heap.size) rfl ?_ ?_ rfl rfl HN.out
  ·exact Cw jf.out ⟨tk,tp,tt,tn⟩ x y
  ·exact Cv aV.out (Nat.le_refl _)
 ·have hiz:¬(i:Int)<(L.length:Int):=by omega
  have x0:=HXd.out.cell;have f0:=HXd.out.frozen;have l0:=HXd.out.lt;have HN:bL L i=⟨0,(0,0),[],0⟩:=by unfold bL;rw[List.getD_eq_getElem?_getD,List.getElem?_eq_none (by omega)];rfl
  have hz:=Hu;go_wp2_with fail;have h:=Cw HXd.out ⟨0,(0,0),[],0⟩ 0 0;rw[Hu]at h;exact RE rfl h (Cv HBd.out (Nat.le_refl _)) rfl rfl HN
end Go.Proofs.YtlpombjidhloiaaGreat
namespace Go.Proofs.YtlpombjidhloiaaGreat
open Go.RowKit
set_option maxRecDepth 100000
attribute [local go_sem ↓] Go.wp_at_zero Go.wp_at_succ
attribute [local go_sem] dD
def Hv(L:List bA)(i:Nat)(bad:Bool)(w:World)(e:Ending)(w':World):Prop:=(∃q:Bool,e=.returned (.bool q)∧(q=true→bad=false∧(bL L i).kind≠0))∧Below w.heap.size w w'
theorem xq{w0:World}{sv:Value}{L:List bA}(P:PW w0 sv L){i:Nat}{bad:Bool}{w:World}(h:ch w0 sv L i bad w)(s:List UInt8):Calls Tryz.prog 88 #[.pointer (some ⟨w0.heap.size,0,none⟩),.string ⟨s.toArray⟩] w (Hv L i bad w):=by
 have HN:=aa (kr P h);have X0:=aa h.box;clear h P;go_enter Tryz.func88,Tryz.ntmps88;exact RF
theorem acy{w0:World}{sv:Value}{L:List bA}(P:PW w0 sv L){i:Nat}{bad:Bool}{w:World}(h:ch w0 sv L i bad w)(s:List UInt8):Calls Tryz.prog 223 #[.pointer (some ⟨w0.heap.size,0,none⟩),.string ⟨s.toArray⟩] w (Hv L i bad w):=by
 have HN:=aa (kr P h);have X0:=aa h.box;clear h P;go_enter Tryz.func223,Tryz.ntmps223;exact RF
def RG(w0:World)(sv:Value)(L:List bA)(i:Nat)(bad:Bool)(w:World)(e:Ending)(w':World):Prop:=
 (e=.returned (.bool false)∧ch w0 sv L i bad w'∧aX w0.heap.size w w')∨(e=.returned (.bool true)∧ch w0 sv L (i+1) false w'∧bad=false∧(bL L i).kind≠0∧aX w0.heap.size w w')
theorem oh{w0:World}{sv:Value}{L:List bA}(P:PW w0 sv L){i:Nat}{bad:Bool}{w:World}(h:ch w0 sv L i bad w)(s:List UInt8):Calls Tryz.prog 87 #[.pointer (some ⟨w0.heap.size,0,none⟩),.string ⟨s.toArray⟩] w (RG w0 sv L i bad w):=by
 have HN:=aa (xq P h s);have H:=aa h;have HP:=aa P;clear h P;go_enter Tryz.func87,Tryz.ntmps87;exact RH
theorem acz{w0:World}{sv:Value}{L:List bA}(P:PW w0 sv L){i:Nat}{bad:Bool}{w:World}(h:ch w0 sv L i bad w)(s:List UInt8):Calls Tryz.prog 208 #[.pointer (some ⟨w0.heap.size,0,none⟩),.string ⟨s.toArray⟩] w (RG w0 sv L i bad w):=by
 have HN:=aa (acy P h s);have H:=aa h;have HP:=aa P;clear h P;go_enter Tryz.func208,Tryz.ntmps208;exact RH
def acA(w0:World)(sv:Value)(L:List bA)(i:Nat)(bad:Bool)(w:World)(e:Ending)(w':World):Prop:=
 ∃i' bad',e=.returned (.tuple #[])∧ch w0 sv L i' bad' w'∧aX w0.heap.size w w'∧(bad'=true∨(bad'=false∧bad=false∧i'=i+1∧i+1≤L.length))
theorem uN{w0:World}{sv:Value}{L:List bA}(P:PW w0 sv L){i:Nat}{bad:Bool}{w:World}(h:ch w0 sv L i bad w)(s:List UInt8):Calls Tryz.prog 89 #[.pointer (some ⟨w0.heap.size,0,none⟩),.string ⟨s.toArray⟩] w (acA w0 sv L i bad w):=by
 have HN:=aa (oh P h s);clear h P;go_enter Tryz.func89,Tryz.ntmps89;go_wp2_with fail;refine HN.out.mono ?_;rintro e w1 (⟨rfl,h1,ho⟩|⟨rfl,h1,rfl,hk,ho⟩)
 ·have H1:=aa h1;have HO:=aa ho;have f2:=H1.out.box.frozen 2;have z2:=H1.out.box.cell 2;have hlt:=H1.out.box.lt;clear h1 ho;go_wp2_with fail;exact sm rfl rfl ⟨_,true,rfl,⟨H1.out.below.setCell (Nat.le_refl _) _,H1.out.box.set 2 _,H1.out.le⟩,HO.out.set (p:=⟨w0.heap.size,2,none⟩) (.inl rfl) _,.inl rfl⟩
 ·have H1:=aa h1;clear h1;go_wp2_with fail;exact sm rfl rfl ⟨_,false,rfl,H1.out,ho,.inr ⟨rfl,rfl,rfl,H1.out.le⟩⟩
set_option maxHeartbeats 1000000 in
theorem xr{w0:World}{sv:Value}{L:List bA}(P:PW w0 sv L){i:Nat}{bad:Bool}{w:World}(h:ch w0 sv L i bad w){A:Option Addr}{c:Nat}(ops:List (List UInt8))(hr:Rw w (.slice A ops.length c) ops.length (ops.map fm))(hl:ops.length≤1000):Calls Tryz.prog 83 #[.pointer (some ⟨w0.heap.size,0,none⟩),.slice A ops.length c] w (Hv L i bad w):=by
 have HN:=aa (kr P h);have X0:=aa h.box;have HR:=aa hr;clear h P hr;go_enter Tryz.func83,Tryz.ntmps83;go_wp2_with fail;refine HN.out.mono ?_;rintro e w1 ⟨⟨x,y,rfl⟩,ae⟩;have aO:=aa ae;have X1:=aa (X0.out.grow ae);have z2:=X1.out.cell 2;have hlt:=X1.out.lt;clear ae;generalize ht:bL L i=t;obtain⟨tk,tp,tt,tn⟩:=t;have HT:=aa ht;clear ht;cases bad;case true=>
  go_wp2_with fail;exact RI
 by_cases hk:tk=5∨tk=6
 ·rcases hk with rfl|rfl
  ·go_upto_region 4 with(fail);generalize aU:w1.alloc _=w2;obtain⟨af,x2,bu⟩:=made aU;have aV:=aa (aO.out.trans (af.mono aO.out.size));have X2:=aa x2;have R2:=aa (HR.out.later aV.out);have HK:=aa (show(bL L i).kind≠0 by rw[HT.out];exact(by decide:(5:Int)≠0));clear aU af x2 z2 hlt HN X0 X1;go_wp2_with fail
   go_loopg [6] ops.length (fun gg s6 wr=>∃kk:Nat,kk≤ops.length∧gg=ops.length-kk∧s6=.int .i64 kk∧Below w2.heap.size w2 wr)
   case atStart=>exact⟨0,Nat.zero_le _,rfl,rfl,Below.refl _ _⟩
   case round=>
    exact RJ
  ·go_upto_region 4 with(fail);generalize aU:w1.alloc _=w2;obtain⟨af,x2,bu⟩:=made aU;have aV:=aa (aO.out.trans (af.mono aO.out.size));have X2:=aa x2;have R2:=aa (HR.out.later aV.out);have HK:=aa (show(bL L i).kind≠0 by rw[HT.out];exact(by decide:(6:Int)≠0));clear aU af x2 z2 hlt HN X0 X1;go_wp2_with fail
   go_loopg [6] ops.length (fun gg s6 wr=>∃kk:Nat,kk≤ops.length∧gg=ops.length-kk∧s6=.int .i64 kk∧Below w2.heap.size w2 wr)
   case atStart=>exact⟨0,Nat.zero_le _,rfl,rfl,Below.refl _ _⟩
   case round=>
    exact RJ
 ·have d5:(tk != 5)=true:=bne_iff_ne.2 (by omega);have d6:(tk != 6)=true:=bne_iff_ne.2 (by omega);go_wp2_with fail;exact RI
end Go.Proofs.YtlpombjidhloiaaGreat
namespace Go.Proofs.YtlpombjidhloiaaGreat
open Go.RowKit
set_option maxRecDepth 100000
attribute [local go_sem ↓] Go.wp_at_zero Go.wp_at_succ
theorem ku:ET Tryz.prog 53 26 1 8:=rL (z:=.pointer none) Tryz.underlying53 (by kernel_rfl) rfl (by decide)
def kS(p:Value):Prop:=p=.pointer none∨∃b,p=cw b
def pL:Value→List Value
 |.pointer none=>[]
 |v=>[v]
def om(k:Int)(x y:Nat)(s:List UInt8)(n:Int)(sl:Value):Array Value:=#[.int .u8 k,.complex .f64 x y,.string ⟨s.toArray⟩,.int .i64 n,sl]
attribute [local go_sem] om
structure eZ(B:Nat)(k:Int)(x y:Nat)(s:List UInt8)(n:Int)(ps:List Value)(nb:Nat)(sl:Value)(w':World):Prop where
 old:B≤nb
 box:Bx nb (om k x y s n sl) 55 w'
 own:w'.ownsRow B 26 1 sl ps.length ps
 off:sl.ownBlock≠some nb
def acB(k:Int)(x y:Nat)(s:List UInt8)(ps:List Value)(w:World)(e:Ending)(w':World):Prop:=∃nb sl,e=.returned (cw nb)∧Below w.heap.size w w'∧eZ w.heap.size k x y s 0 ps nb sl w'
theorem jy{w w':World}{B:Nat}{e:TypeId}{size:Nat}{v:Value}{n:Nat}{xs:List Value}(h:w.ownsRow B e size v n xs)(hk:∀g,v.ownBlock=some g→w'.heap[g]? =w.heap[g]?):w'.ownsRow B e size v n xs:=by
 exact RK
theorem pM{w:World}{B:Nat}{e:TypeId}{size:Nat}{v:Value}{n:Nat}{xs:List Value}(h:w.ownsRow B e size v n xs){g:Nat}(hg:v.ownBlock=some g):g<w.heap.size:=by
 exact RM
theorem sH{B:Nat}{k:Int}{x y:Nat}{s:List UInt8}{n:Int}{ps:List Value}{nb:Nat}{sl:Value}{w1 w9:World}(h:eZ B k x y s n ps nb sl w1){cs:Array Value}{v9:Value}{qs:List Value}{m:Nat}(hA:iB (w1.alloc (.cells cs 26)) w9 B 26 1 sl v9 (ps.length+m) qs)(hq:qs.length=ps.length+m:=by rfl):
 Bx nb (om k x y s n sl) 55 w9∧Below B w1 (w9.setCell ⟨nb,4,none⟩ v9)∧eZ B k x y s n qs nb v9 (w9.setCell ⟨nb,4,none⟩ v9):=by
 have hb:=dq w1 (.cells cs 26);have hnb:=h.box.lt;have hx:Bx nb (om k x y s n sl) 55 w9:=(hA.grown.block nb (by simp;omega) (fun e=>h.off e.symm)).trans (h.box.grow hb);have hB:B≤(w1.alloc (.cells cs 26)).heap.size:=by have:=h.old;simp;omega
 have hbel:Below B w1 w9:=(hb.mono (by have:=h.old;omega)).trans (iB.below hA (Below.refl _ _) hB (jy h.own (fun g hg=>(hb.block g (pM h.own hg)))) (Nat.le_refl _));have hoff:v9.ownBlock≠some nb:=by
  rcases hA.place with e|e
  ·rw[e];exact h.off
  ·rw[e];intro e2;have:=Option.some.inj e2;simp at this;omega
 refine⟨hx,hbel.setCell h.old _,h.old,hx.set 4 _,?_,hoff⟩;rw[hq];exact jy hA.own (fun g hg=>Below.heap_setCell w9 _ _ g (fun e=>hoff (by rw[hg,e])))
theorem Cx{a w1 w2:World}(h:Below a.heap.size a w1)(k:Below a.heap.size w1 w2):Below a.heap.size a w2:=h.trans k
set_option maxHeartbeats 1000000 in
theorem jz(k:Int)(x y:Nat)(s:List UInt8){pa pb:Value}(ha:kS pa)(hb:kS pb)(w:World):Calls Tryz.prog 85 #[.int .u8 k,.complex .f64 x y,.string ⟨s.toArray⟩,pa,pb] w (acB k x y s (pL pa++pL pb) w):=by
 rcases ha with rfl|⟨a,rfl⟩<;>rcases hb with rfl|⟨b,rfl⟩
 ·go_enter Tryz.func85,Tryz.ntmps85;go_wp2_with fail;go_ret;exact⟨_,.slice none 0 0,rfl,dq _ _,Nat.le_refl _,heap_alloc_new _ _,World.ownsRow_nil _ _ _ _,by simp[Value.ownBlock]⟩
 ·unfold cw;go_enter Tryz.func85,Tryz.ntmps85;go_upto_region 2 with(fail);generalize az:w.alloc _=w1;obtain⟨ae,x1,aE⟩:=made az;have aO:=aa ae;have N1:eZ w.heap.size k x y s 0 [] w.heap.size (.slice none 0 0) w1:=⟨Nat.le_refl _,x1,World.ownsRow_nil _ _ _ _,by simp[Value.ownBlock]⟩;have y1:=fun j=>N1.box.cell j
  have f1:=fun j=>N1.box.frozen j
  have l1:=N1.box.lt;clear az ae x1 aE;go_wp2_with (at_builtin;refine jg ku rfl _ _ rfl w.heap.size _ 0 [] rfl (jy N1.own (fun g hg=>by cases hg)) _ 1 [.pointer (some ⟨b,0,none⟩)] rfl (qi ku w1 #[.pointer (some ⟨b,0,none⟩)] _ 1 1 rfl (by simp[Value.oneCell'])) (by decide) (by unfold maxLen;omega) (by simp;omega) ?_;intro v9 w9 cf;obtain⟨A9,c9,rfl⟩:=jG cf.own;have N9:=sH N1 cf;have q9:=fun j=>N9.1.cell j;have p9:=fun j=>N9.1.frozen j;have m9:=N9.1.lt);go_ret;exact⟨_,_,rfl,Cx aO.out N9.2.1,N9.2.2⟩
 ·unfold cw;go_enter Tryz.func85,Tryz.ntmps85;go_upto_region 2 with(fail);generalize az:w.alloc _=w1;obtain⟨ae,x1,aE⟩:=made az;have aO:=aa ae;have N1:eZ w.heap.size k x y s 0 [] w.heap.size (.slice none 0 0) w1:=⟨Nat.le_refl _,x1,World.ownsRow_nil _ _ _ _,by simp[Value.ownBlock]⟩;have y1:=fun j=>N1.box.cell j
  have f1:=fun j=>N1.box.frozen j
  have l1:=N1.box.lt;clear az ae x1 aE;go_wp2_with (at_builtin;refine jg ku rfl _ _ rfl w.heap.size _ 0 [] rfl (jy N1.own (fun g hg=>by cases hg)) _ 1 [.pointer (some ⟨a,0,none⟩)] rfl (qi ku w1 #[.pointer (some ⟨a,0,none⟩)] _ 1 1 rfl (by simp[Value.oneCell'])) (by decide) (by unfold maxLen;omega) (by simp;omega) ?_;intro v9 w9 cf;obtain⟨A9,c9,rfl⟩:=jG cf.own;have N9:=sH N1 cf;have q9:=fun j=>N9.1.cell j;have p9:=fun j=>N9.1.frozen j;have m9:=N9.1.lt);go_ret;exact⟨_,_,rfl,Cx aO.out N9.2.1,N9.2.2⟩
 ·unfold cw;go_enter Tryz.func85,Tryz.ntmps85;go_upto_region 2 with(fail);generalize az:w.alloc _=w1;obtain⟨ae,x1,aE⟩:=made az;have aO:=aa ae;have N1:eZ w.heap.size k x y s 0 [] w.heap.size (.slice none 0 0) w1:=⟨Nat.le_refl _,x1,World.ownsRow_nil _ _ _ _,by simp[Value.ownBlock]⟩;have y1:=fun j=>N1.box.cell j
  have f1:=fun j=>N1.box.frozen j
  have l1:=N1.box.lt;clear az ae x1 aE;go_upto_region 4 with(at_builtin;refine jg ku rfl _ _ rfl w.heap.size _ 0 [] rfl (jy N1.own (fun g hg=>by cases hg)) _ 1 [.pointer (some ⟨a,0,none⟩)] rfl (qi ku w1 #[.pointer (some ⟨a,0,none⟩)] _ 1 1 rfl (by simp[Value.oneCell'])) (by decide) (by unfold maxLen;omega) (by simp;omega) ?_;intro v9 w9 cf;obtain⟨A9,c9,rfl⟩:=jG cf.own;have N9:=sH N1 cf;have q9:=fun j=>N9.1.cell j;have p9:=fun j=>N9.1.frozen j;have m9:=N9.1.lt);have aV:=aa (Cx aO.out N9.2.1);have N2:=N9.2.2;clear q9 p9 m9 cf y1 f1 l1 N1 aO;generalize w9.setCell _ _=w2 at *;have y2:=fun j=>N2.box.cell j
  have f2:=fun j=>N2.box.frozen j
  have l2:=N2.box.lt;clear N9;go_wp2_with (at_builtin;refine jg ku rfl _ _ rfl w.heap.size _ 1 [.pointer (some ⟨a,0,none⟩)] rfl (jy N2.own (fun g hg=>Below.block (dq _ _) g (pM N2.own hg))) _ 1 [.pointer (some ⟨b,0,none⟩)] rfl (qi ku w2 #[.pointer (some ⟨b,0,none⟩)] _ 1 1 rfl (by simp[Value.oneCell'])) (by decide) (by unfold maxLen;omega) (by simp;omega) ?_;intro v9 w9 cf;obtain⟨A9,c9,rfl⟩:=jG cf.own;have N9:=sH N2 cf;have q9:=fun j=>N9.1.cell j;have p9:=fun j=>N9.1.frozen j;have m9:=N9.1.lt);go_ret;exact⟨_,_,rfl,Cx aV.out N9.2.1,N9.2.2⟩
end Go.Proofs.YtlpombjidhloiaaGreat
namespace Go.Proofs.YtlpombjidhloiaaGreat
inductive ez(n:Nat):ao→Prop where
 |mk (t:ao) (h:t.kids.length≤n) (k:∀x∈t.kids,ez n x):ez n t
theorem ez.len{n:Nat}{t:ao}(h:ez n t):t.kids.length≤n:=by cases h;assumption
theorem ez.sub{n:Nat}{t:ao}(h:ez n t):∀x∈t.kids,ez n x:=by cases h;assumption
end Go.Proofs.YtlpombjidhloiaaGreat
