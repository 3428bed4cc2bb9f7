/- The runner's conversions are the program's. The runner goes through strings as the program does. Condition: what each theorem says. -/
import Derived.Test.YtlpombjidhloiaaGreatBbf
import Derived.Laws.BytesString
import Derived.Laws.RangeString
namespace Go.Proofs.YtlpombjidhloiaaGreat.Eng
section
variable {P:Program} {B:Tb} {e:En} {s s':St} {w:World} {ns:NS} {tm:Tm} {a:Act} {o:Oper} {v:AV} {q:Nat}
theorem rb{x:Operand}{t d:TypeId}(ho:o.op=.convert t d x){w':World}{z:Value}(h:(convert t d (a.eval x)).run P w=.ok z w'):(execOp a.eval o).run P w=.ok (.value z) w':=by
 unfold execOp;rw[ho];simp only[Sem.run_bind,h,Result.andThen_ok,Sem.run_pure]
theorem aeM{k:IntKind}{X:AV}(h:oW (.int k) X s=.val v s'):(∃k' n,X=.int k' n∧v=.int k (k.wrap n)∧s=s')∨∃k' m r,X=.cls k' m r∧v=.cls k m r∧s=s'∧vM k=true:=by
 cases X<;>first|(cases h;done)|skip
 ·injection h with h1 h2
  exact .inl ⟨_,_,rfl,h1.symm,h2⟩
 ·rename_i k' m r
  replace h:(Bool.rec (.bad 135) (.val (.cls k m r) s) (vM k):Nx)=.val v s':=h
  cases hw:vM k with
  |false=>rw[hw]at h;cases h
  |true=>
   rw[hw]at h;injection h with h1 h2
   exact .inr ⟨k',m,r,rfl,h1.symm,h2,rfl⟩
theorem aeN{k:IntKind}(h:vM k=true){n:Nat}(hn:n<256):k.wrap n=n:=by
 cases k<;>first|(cases h;done)|skip
 all_goals
  simp only[IntKind.wrap,IntKind.bits,IntKind.signed];have h1:((n:Int)% 2^ 16)=n:=by omega
  have h2:((n:Int)% 2^ 32)=n:=by omega
  have h3:((n:Int)% 2^ 64)=n:=by omega
  have h4:((n:Int)% 2^ 8)=n:=by omega
  simp<;>omega
theorem aeO{k:FloatKind}{X:AV}(h:oW (.float k) X s=.val v s'):∃k' n,X=.int k' n∧v=.lit (.float k (k.nearest n))∧s=s':=by
 exact Ua
theorem aeP{X:AV}(h:oW .rune X s=.val v s'):∃k' n,X=.int k' n∧v=fm (Utf8.encode n)∧s=s':=by
 exact Ua
theorem aeQ{X:AV}(h:oW .str X s=.val v s'):∃l,X=.str l∧v=.str l∧s=s':=by
 cases X<;>first|(cases h;done)|skip
 injection h with h1 h2
 exact⟨_,rfl,h1.symm,h2⟩
theorem aeR{el:Nat}{X:AV}(h:oW (.bytes el) X s=.val v s'):∃l,X=.str l∧v=.slc s.next 0 l.length (.gap 0)∧s'=s.add (.cells (fR (bZ zi l) 0 .leaf) l.length 1 el true):=by
 cases X<;>first|(cases h;done)|skip
 rename_i l;injection h with h1 h2
 rw[gQ]at h1 h2;exact⟨l,rfl,h1.symm,h2.symm⟩
theorem aeS [FX]{X:AV}(h:oW .ofBytes X s=.val v s'):(X=.lit (.slice none 0 0)∧v=.str []∧s=s')∨∃b o n c new m l,X=.slc b o n c∧oS X 1 s=some (new,m)∧qm new=some l∧v=.str l∧s=s':=by
 generalize hk:CK.ofBytes=k at h;unfold oW at h;split at h<;>first|(cases h;done)|(cases hk;done)|skip
 ·rename_i b o n c;refine .inr ⟨b,o,n,c,?_⟩;cases hr:oS (.slc b o n c) 1 s with
  |none=>rw[hr]at h;cases h
  |some p=>
   obtain⟨new,m⟩:=p;rw[hr]at h;obtain⟨h1,h2⟩:=nr (show vl (zm (qm new)) 131 s=.val v s' from h);cases hb:qm new with
   |none=>rw[hb]at h1;cases h1
   |some l=>rw[hb]at h1;cases h1;exact⟨new,m,l,rfl,rfl,hb,rfl,h2⟩
 ·injection h with h1 h2
  exact .inl ⟨rfl,h1.symm,h2⟩
inductive sR(P:Tb):TypeDesc→TypeDesc→CK→Prop
 |int (k k'):sR P (.int k') (.int k) (.int k)
 |float (k k'):sR P (.int k') (.float k) (.float k)
 |str:sR P .string .string .str
 |rune (k'):sR P (.int k') .string .rune
 |bytes (el):dsc P el=.int .u8→sR P .string (.slice el) (.bytes el)
 |ofBytes (el):dsc P el=.int .u8→sR P (.slice el) .string .ofBytes
theorem aeT{t d:TypeDesc}(h:qp t d B≠.no):sR B t d (qp t d B):=by
 have hb:∀el,oU (dsc B el)=true→dsc B el=.int .u8:=fun el he=>by
  cases hd:dsc B el<;>rw[hd]at he<;>first|(cases he;done)|skip
  rename_i k;cases k<;>first|rfl|(cases he;done)
 cases t<;>first|exact absurd rfl h|skip
 ·cases d<;>first|exact absurd rfl h|exact .int _ _|exact .float _ _|exact .rune _
 ·cases d<;>first|exact absurd rfl h|exact .str|skip
  rename_i el;cases hc:oU (dsc B el)with
  |true=>rw[show qp .string (.slice el) B=.bytes el by show(Bool.rec .no (.bytes el) (oU (dsc B el)):CK)=_;rw[hc]];exact .bytes el (hb el hc)
  |false=>exact absurd (show(Bool.rec CK.no (.bytes el) (oU (dsc B el)):CK)=_ by rw[hc]) h
 ·cases d<;>first|exact absurd rfl h|skip
  rename_i el;cases hc:oU (dsc B el)with
  |true=>rw[show qp (.slice el) .string B=.ofBytes by show(Bool.rec .no .ofBytes (oU (dsc B el)):CK)=_;rw[hc]];exact .ofBytes el (hb el hc)
  |false=>exact absurd (show(Bool.rec CK.no .ofBytes (oU (dsc B el)):CK)=_ by rw[hc]) h
theorem Ub [FX]:∀{new:List (List AV)} {l:List Nat},qm new=some l→l.length=new.length∧∀(i c:Nat),l[i]? =some c→new[i]? =some [AV.int .u8 (.ofNat c)]∧c≤255
 |[],l,h=>by cases h;exact⟨rfl,fun i c hc=>(by cases hc)⟩
 |x::new,l,h=>by
  rw[show qm (x::new)=Option.rec none (fun b=>Option.rec none (fun r=>some (b::r)) (qm new)) (zj x)from rfl]at h;cases hb:zj x with
  |none=>rw[hb]at h;cases h
  |some b=>
   rw[hb]at h;cases hr:qm new with
   |none=>rw[hr]at h;cases h
   |some r=>
    rw[hr]at h;cases h;obtain⟨h1,h2⟩:=Ub hr;have hx:x=[.int .u8 (.ofNat b)]∧b≤255:=by
     unfold zj at hb;split at hb<;>first|(cases hb;done)|skip
     obtain⟨h3,h4⟩:=lI (x:=some _) hb;cases h4;exact⟨rfl,Nat.le_of_ble_eq_true h3⟩
    refine⟨by simp[h1],fun i c hc=>?_⟩;cases i with
    |zero=>cases hc;exact⟨by rw[hx.1];rfl,hx.2⟩
    |succ i=>exact h2 i c hc
theorem Uc:∀(l:List Nat) (m:List Nat),(l.map Int.ofNat).foldl (fun r n=>r.push (UInt8.ofNat n.toNat)) (bw m)=bw (m++l)
 |[],m=>by simp
 |b::l,m=>by
  rw[List.map_cons,List.foldl_cons];have:(bw m).push (UInt8.ofNat (Int.ofNat b).toNat)=bw (m++[b]):=by
   unfold bw ByteArray.push;simp
  rw[this,Uc l (m++[b]),List.append_assoc];rfl
theorem aeU(w:World)(cs:Array Value)(t:TypeId):(w.alloc (.cells cs t (0,0))).freeze ⟨w.heap.size,cs.size,none⟩ 1=w.alloc (.cells cs t (cs.size,cs.size+1)):=by
 unfold World.freeze;rw[if_neg (by omega)];have:(w.alloc (.cells cs t (0,0))).heap.modify w.heap.size (fun
  |.cells c elem (lo,hi)=>.cells c elem (if lo==hi then(cs.size,cs.size+1)else(min lo cs.size,max hi (cs.size+1)))
  |o=>o)=(w.alloc (.cells cs t (cs.size,cs.size+1))).heap:=by
  apply Array.ext_getElem?;intro i;show((w.heap.push _).modify _ _)[i]? =(w.heap.push _)[i]?;rw[Array.getElem?_modify,Array.getElem?_push,Array.getElem?_push];by_cases h:w.heap.size=i
  ·subst h;simp
  ·rw[if_neg h];simp[Ne.symm h]
 exact congrArg (fun h=>({w.alloc (.cells cs t (0,0))with heap:=h}:World)) this
theorem aeV{l:List Nat}(h1:∀b∈l,b<256):((bw l).data.map fun b=>Value.int .u8 b.toNat).toList=l.map fun b=>Value.int .u8 (.ofNat b):=by
 unfold bw;simp only[Array.toList_map,List.map_map];exact TQ
theorem aeW [FX](ht:bS P B)(hr:aZ e s w)(hm:aY e s.next ns tm a){t d:TypeId}{x:Operand}(ho:o.op=.convert t d x)(h:oW (qp (dsc B t) (dsc B d) B) (ev (mv ns x) tm) s=.val v s'):dU P e s w (execOp a.eval o) v s':=by
 have hne:qp (dsc B t) (dsc B d) B≠.no:=by intro hh;rw[hh]at h;cases hX:ev (mv ns x) tm<;>rw[hX]at h<;>cases h
 have hc:=aeT hne;have hx:=cQ hm x;generalize ev (mv ns x) tm=X at hx h;generalize hck:qp (dsc B t) (dsc B d) B=ck at h hc;generalize hdt:dsc B t=dt at hc;generalize hdd:dsc B d=dd at hc;cases hc with
 |int k k'=>
  have hu:=ht.dsc hdt (by intro hh;cases hh);have gW:=ht.dsc hdd (by intro hh;cases hh);rcases aeM h with⟨k2,n,rfl,rfl,rfl⟩|⟨k2,m,r,rfl,rfl,rfl,hw⟩;rotate_left 1
  ·obtain⟨n,hx,hn,gI⟩:=hx;refine dh hr (u:=.int k n) (rb ho ?_) ⟨n,rfl,hn,gI⟩;rw[hx];simp[convert,run_underlying hu,run_underlying gW,Conv.intToInt,aeN hw hn]
  have hx:a.eval x=.int k2 n:=hx;exact dh hr (rb ho (by rw[hx];simp[convert,run_underlying hu,run_underlying gW,Conv.intToInt])) rfl
 |float k k'=>
  have hu:=ht.dsc hdt (by intro hh;cases hh);have gW:=ht.dsc hdd (by intro hh;cases hh);obtain⟨k2,n,rfl,rfl,rfl⟩:=aeO h;have hx:a.eval x=.int k2 n:=hx;exact dh hr (rb ho (by rw[hx];simp[convert,run_underlying hu,run_underlying gW,Conv.intToFloat])) rfl
 |rune k'=>
  have hu:=ht.dsc hdt (by intro hh;cases hh);have gW:=ht.dsc hdd (by intro hh;cases hh);obtain⟨k2,n,rfl,rfl,rfl⟩:=aeP h;have hx:a.eval x=.int k2 n:=hx;exact dh hr (rb ho (by rw[hx];simp[convert,run_underlying hu,run_underlying gW,Conv.intToString])) (Jg (.string (Utf8.encode n)))
 |str=>
  have hu:=ht.dsc hdt (by intro hh;cases hh);have gW:=ht.dsc hdd (by intro hh;cases hh);obtain⟨l,rfl,rfl,rfl⟩:=aeQ h;obtain⟨h1,hx⟩:=hx;exact dh hr (rb ho (by rw[hx];simp[convert,run_underlying hu,run_underlying gW])) ⟨h1,rfl⟩
 |bytes el hel=>
  have hu:=ht.dsc hdt (by intro hh;cases hh);have gW:=ht.dsc hdd (by intro hh;cases hh);have DY:=ht.dsc hel (by intro hh;cases hh);obtain⟨l,rfl,rfl,rfl⟩:=aeR h;obtain⟨h1,hx⟩:=hx;have hch:(choose (.appendCap (bw l).size 0 el)).run P w=.ok (grownCap w (bw l).size 0 el) w.drew:=by simp[choose,Sem.run,Question.forced,grownCap]
  have hge:=grownCap_ge w (bw l).size 0 el;generalize hκ:grownCap w (bw l).size 0 el=κ at hch hge;have hsz:=lP l;generalize hcs:((bw l).data.map fun b=>Value.int .u8 b.toNat)++Array.replicate (κ-(bw l).size) (Value.int .u8 0)=cs;have hcl:=aeV h1;have hdl:((bw l).data.map fun b=>Value.int .u8 b.toNat).size=l.length:=by rw[←Array.length_toList,hcl];simp
  have hcsz:cs.size=κ:=by rw[←hcs,Array.size_append,hdl];simp;omega
  have hrun:(Conv.stringToBytes el (bw l)).run P w=.ok (.slice (some ⟨w.heap.size,0,none⟩) (bw l).size κ) (w.drew.alloc (.cells cs el (cs.size,cs.size+1))):=by
   have hm:(markStringish ⟨w.heap.size,0,none⟩).run P (w.drew.alloc (.cells cs el (0,0)))=.ok () (w.drew.alloc (.cells cs el (cs.size,cs.size+1))):=by
    rw[←aeU];unfold markStringish;have hsh:(w.drew.alloc (.cells cs el (0,0))).shape? w.heap.size=some (el,cs.size):=by
     unfold World.shape?;rw[show(w.drew.alloc (Obj.cells cs el)).heap[w.heap.size]? =some (.cells cs el (0,0))from heap_alloc_new w.drew _]
    simp only[Sem.run_bind,run_shape,Result.andThen_ok,hsh,run_freeze];rfl
   unfold Conv.stringToBytes;simp only[Sem.run_bind,hch,Result.andThen_ok,newRow,run_newObj,Sem.run_pure];rw[hcs];simp only[show({w.drew with heap:=w.drew.heap.push (.cells cs el)}:World)=w.drew.alloc (.cells cs el (0,0))from rfl];rw[show w.drew.heap.size=w.heap.size from rfl,hm];rfl
  have hrow:Rows e s.next (fR (bZ zi l) 0 .leaf) l.length 1 cs:=fun i x hi=>by
   rw[qF]at hi;split at hi
   ·rename_i hci;rw[oC,Nat.sub_zero,List.getElem?_map]at hi;cases hl:l[i]? with
    |none=>rw[hl]at hi;cases hi
    |some b=>
     rw[hl]at hi;cases hi;have hil:=(List.getElem?_eq_some_iff.1 hl).1;refine⟨hil,rfl,fun j a hj=>?_⟩;cases j with
     |succ j=>cases hj
     |zero=>
      cases hj;refine⟨rfl,.int .u8 (.ofNat b),?_,rfl⟩;rw[Nat.mul_one,Nat.add_zero,←hcs,Array.getElem?_append_left (by omega),←Array.getElem?_toList,hcl,List.getElem?_map,hl];rfl
   ·cases hi
  have hκ2:(e.up s.next w.heap.size κ).κ s.next=κ:=by simp[En.up]
  refine⟨e.up s.next w.heap.size κ,w.drew.alloc (.cells cs el (cs.size,cs.size+1)),.value (.slice (some ⟨w.heap.size,0,none⟩) (bw l).size κ),rb ho (by rw[hx];simp[convert,run_underlying hu,run_underlying gW,run_underlying DY,hrun]),
   (aW.drew hr).trans (aW.new (aW.drew hr).rep _ _ κ ⟨cs,_,rfl,.inr rfl,by rw[if_pos rfl];show cs.size=(e.up s.next w.heap.size κ).κ s.next*1;rw[hκ2,hcsz,Nat.mul_one],fun _=>by show l.length≤(e.up s.next w.heap.size κ).κ s.next;rw[hκ2];omega,hrow.ext (En.up_ext _ _ _ _) (Nat.le_succ _)⟩),.inl ⟨_,rfl,?_⟩⟩
  rw[hsz];exact uZ (s:=s) (w:=w) rfl κ l.length rfl (show l.length+0≤κ by omega)
 |ofBytes el hel=>
  have hu:=ht.dsc hdt (by intro hh;cases hh);have gW:=ht.dsc hdd (by intro hh;cases hh);have DY:=ht.dsc hel (by intro hh;cases hh);rcases aeS h with⟨rfl,rfl,rfl⟩|⟨b,off,n,c,new,m,l,rfl,hrow,hbs,rfl,rfl⟩
  ·have hx:a.eval x=.slice none 0 0:=hx;exact dh hr (rb ho (z:=.string (bw [])) (by rw[hx];simp[convert,run_underlying hu,run_underlying gW,run_underlying DY,Conv.bytesToString];rfl)) ⟨(fun _ hb=>by cases hb),rfl⟩
  ·obtain⟨news,h2,h3,h4⟩:=IZ (P:=P) (w:=w) hr hx hrow;obtain⟨h5,h6⟩:=Ub hbs;have h4:=h4 t (.inl ⟨_,hu⟩);obtain⟨h8,hx⟩:=hx;have hnews:news=(l.map Int.ofNat).map (Value.int .u8):=by
    apply List.ext_getElem?;intro i;have hlen:=h3.len;by_cases hi:i<l.length
    ·obtain⟨h9,h10⟩:=h6 i _ (List.getElem?_eq_getElem hi);obtain⟨_,h11⟩:=h3.el i _ h9;obtain⟨_,v,h12,h13⟩:=h11 0 _ rfl;rw[Nat.mul_one,Nat.add_zero]at h12;rw[h12,List.getElem?_map,List.getElem?_map,List.getElem?_eq_getElem hi];rw[show v=_ from h13];rfl
    ·rw[List.getElem?_eq_none (by omega),List.getElem?_eq_none (by simp;omega)]
   have hmn:m=n:=by
    have:=h4.len w;rw[hx]at this;injection this with h9 _
    exact h9.symm
   subst hmn;have hl:=h4.cells;rw[hx]at hl;have je:(loadCells ⟨e.σ b,off,none⟩ m).run P w=.ok ((l.map Int.ofNat).map (Value.int .u8)).toArray w:=by
    rw[←hnews];simpa[Builtin.firstCells]using hl
   have hrun:=run_bytesToString w ⟨e.σ b,off,none⟩ m (c.cap (e.κ b)) (l.map Int.ofNat) je;rw[show ByteArray.empty=bw []from rfl,Uc,List.nil_append]at hrun;refine dh hr (rb ho (z:=.string (bw l)) (by rw[hx];simp[convert,run_underlying hu,run_underlying gW,run_underlying DY,hrun])) ⟨fun c hc=>?_,rfl⟩;obtain⟨i,hi,hic⟩:=List.mem_iff_getElem.1 hc;have:=(h6 i c (by rw[List.getElem?_eq_getElem hi,hic])).2;omega
end
section
variable {P:Program} {B:Tb} {e:En} {s s':St} {w:World} {ns:NS} {tm:Tm} {a:Act} {o:Oper} {v:AV} {q:Nat}
theorem aeX [FX](ht:bS P B)(hr:aZ e s w)(hm:aY e s.next ns tm a){t:TypeId}{x:Operand}(ho:o.op=.range t x){m:cg}(hmm:EJ (mv ns x) (dsc B t)=m)(h:fS m tm s=.val v s'):dU P e s w (execOp a.eval o) v s':=by
 have hne:m≠.none:=by rintro rfl;cases h
 have hx:=cQ hm x;cases hd:dsc B t<;>rw[hd]at hmm<;>first|exact absurd hmm.symm hne|skip
 have hu:=ht.dsc hd (by intro hh;cases hh);subst hmm
 replace h:Lo (ev (mv ns x) tm) s=.val v s':=h
 generalize ev (mv ns x) tm=X at hx h;cases X<;>first|(cases h;done)|skip
 rename_i l;injection (show Nx.val (.ptr s.next 0) (s.add (.siter l 0))=.val v s' from h)with h1 h2
 subst h1 h2;obtain⟨_,hx⟩:=hx;refine⟨e.up s.next w.heap.size 0,w.alloc (.stringIter (bw l) 0),.value (.pointer (some ⟨w.heap.size,0,none⟩)),?_,aW.new hr _ _ _ rfl,.inl ⟨_,rfl,Ud rfl 0⟩⟩;unfold execOp;rw[ho];simp[Instr.range,run_underlying hu,hx]
theorem aeY{X:AV}{str:Bool}(h:Ev X str s=.val v s'):∃b l p,X=.ptr b 0∧s.get b=some (.siter l p)∧str=true∧Et (l.drop p) l p b s=.val v s':=by
 cases X<;>first|(cases h;done)|skip
 rename_i b o;cases o with
 |succ o=>cases h
 |zero=>
  replace h:Eu (s.get b) str b s=.val v s':=h
  cases hg:s.get b with
  |none=>rw[hg]at h;cases h
  |some ob=>
   rw[hg]at h;cases ob<;>first|(cases h;done)|skip
   rename_i l p;cases str with
   |false=>cases h
   |true=>
    rw[show Eu (some (.siter l p)) true b s=Et (rM l p) l p b s from rfl,xL]at h;exact⟨b,l,p,rfl,hg,rfl,h⟩
theorem aeZ [FX](hr:aZ e s w)(hm:aY e s.next ns tm a){x:Operand}{str:Bool}(ho:o.op=.next x str)(h:Ev (ev (mv ns x) tm) str s=.val v s'):dU P e s w (execOp a.eval o) v s':=by
 obtain⟨b,l,p,hX,hg,rfl,hn⟩:=aeY h;clear h;have h:=hn;have hx:=cQ hm x;rw[hX]at hx;obtain⟨_,hx⟩:=hx;obtain⟨_,hσ,r,h5,h6⟩:=hr.obj b _ hg;have h6:r=.stringIter (bw l) p:=h6;subst h6;have hobj:(getObj (e.σ b)).run P w=.ok (.stringIter (bw l) p) w:=by simp[getObj,Sem.run,h5]
 have hset:∀ob:Obj,(setObj (e.σ b) ob).run P w=.ok () {w with heap:=w.heap.setIfInBounds (e.σ b) ob}:=fun ob=>by simp[setObj,Sem.run,h5]
 by_cases hp:p<l.length
 ·rw[List.drop_eq_getElem_cons hp]at h;have hpb:p<(bw l).size:=by rw[lP];exact hp
  replace h:(Bool.rec (Lp (Utf8.decode (bw l) p) l p b s) (.val (.tup [.bool true,.int .i64 (.ofNat p),.int .i32 (.ofNat l[p])]) (s.put b (.siter l (p+1)))) (Nat.ble l[p] 127):Nx)=.val v s':=h
  obtain⟨c,n,hdec,h⟩:∃c n,Utf8.decode (bw l) p=(c,n)∧Nx.val (.tup [.bool true,.int .i64 (.ofNat p),.int .i32 (.ofNat c)]) (s.put b (.siter l (p+n)))=.val v s':=by
   cases h7:Nat.ble l[p] 127 with
   |true=>
    rw[h7]at h;have h7:=Nat.le_of_ble_eq_true h7;have hat:((bw l)[p]'hpb).toNat=l[p]:=by
     have:=TM l p;rw[ByteArray.getElem?_lt' _ _ hpb,List.getElem?_eq_getElem hp]at this;have h10:=Option.some.inj this;rw[h10,UInt8.toNat_ofNat',Nat.mod_eq_of_lt (by omega)]
    have hdec:=decode_ascii (bw l) p hpb (by rw[hat];omega);rw[hat]at hdec;exact⟨_,_,hdec,h⟩
   |false=>
    rw[h7]at h;cases hd:Utf8.decode (bw l) p with
    |mk c n=>
     rw[hd]at h;exact⟨c,n,rfl,h⟩
  injection h with h8 h9
  subst h8 h9;refine⟨e,{w with heap:=w.heap.setIfInBounds (e.σ b) (.stringIter (bw l) (p+n))},.value (.tuple #[.bool true,.int .i64 p,.int .i32 c]),?_,aW.put hr hg _ _ rfl rfl rfl rfl rfl,.inl ⟨_,rfl,_,rfl,_,_,rfl,rfl,_,_,rfl,rfl,_,_,rfl,rfl,rfl⟩⟩;unfold execOp;rw[ho];simp[Instr.next,hx,hobj,hpb,hdec,hset,goInt]
 ·rw[List.drop_eq_nil_of_le (by omega)]at h;injection h with h8 h9
  subst h8 h9;have hpb:¬p<(bw l).size:=by rw[lP];exact hp
  refine dh hr (u:=.tuple #[.bool false]) ?_ ⟨_,rfl,_,_,rfl,rfl,rfl⟩;unfold execOp;rw[ho];simp[Instr.next,hx,hobj,hpb]
end
section
variable {P:Program} {B:Tb} {e:En} {s s':St} {w:World} {ns:NS} {tm:Tm} {a:Act} {o:Oper} {v:AV} {q:Nat}
theorem ae0{X:AV}{l:List AV}:rR X l s≠.val v s':=by cases X<;>intro h<;>cases h
theorem ae1{b:Builtin}{as:List Operand}{ts:List TypeId}{m:cg}(h:tQ ns b as ts B=m)(hm:m≠.none)(hr:m≠.recov):
 (∃x y t tx,b=.append∧as=[x,y]∧ts=[t,tx]∧zv B (dsc B tx) (mv ns x) (mv ns y) (dsc B t)=m)∨(∃x t,b=.len∧as=[x]∧ts=[t]∧zw (mv ns x) (dsc B t)=m)∨∃x y k,as=[x,y]∧m=.mm k (mv ns x) (mv ns y)∧((b=.max∧k=0)∨(b=.min∧k=1)∨(b=.complex∧k=2)):=by
 unfold tQ at h;split at h<;>first|exact absurd h.symm hm|exact absurd h.symm hr|skip
 ·exact .inl ⟨_,_,_,_,rfl,rfl,rfl,h⟩
 ·exact .inr (.inl ⟨_,_,rfl,rfl,rfl,h⟩)
 ·exact .inr (.inr ⟨_,_,0,rfl,h.symm,.inl ⟨rfl,rfl⟩⟩)
 ·exact .inr (.inr ⟨_,_,1,rfl,h.symm,.inr (.inl ⟨rfl,rfl⟩)⟩)
 ·exact .inr (.inr ⟨_,_,2,rfl,h.symm,.inr (.inr ⟨rfl,rfl⟩)⟩)
theorem Jh [FX](ht:bS P B)(hr:aZ e s w)(hm:aY e s.next ns tm a)(h:fS (cmp ns o.op B) tm s=.val v s'):dU P e s w (execOp a.eval o) v s':=by
 have hne:cmp ns o.op B≠.none:=by intro hh;rw[hh]at h;cases h
 cases ho:o.op
 all_goals rw[ho]at h hne
 case move x=>exact Uf hr hm (.inl ho) h
 case assign x=>exact Uf hr hm (.inr ho) h
 case pick c x y=>exact ae2 hr hm ho h
 case alloc t=>
  obtain⟨hk,he⟩:=mC rfl hne;exact ae3 ht hr ho (by rw[show cmp ns (.alloc t) B=kn B t (.alloc (hH B t) (aN B t) t)from rfl,he]at h;exact h)
 case box t x=>
  obtain⟨hk,he⟩:=mC rfl hne;exact ae4 hr hm ho (by rw[show cmp ns (.box t x) B=kn B t (.box (aN B t) t (mv ns x))from rfl,he]at h;exact h)
 case build t ps=>exact aek ht hr hm ho rfl h
 case buildSlice t n ps=>
  obtain⟨el,hd,hk,he⟩:=CZ rfl hne;refine aej ht hr hm ho hd hk ?_;rw[show cmp ns (.buildSlice t n ps) B=vQ B (dsc B t) _ from rfl,he]at h;rw[hd]at h;exact h
 case load t x=>
  obtain⟨hk,he⟩:=mC rfl hne;exact ae5 ht hr hm ho hk (by rw[show cmp ns (.load t x) B=kn B t (.load (iS B t) (aN B t) (mv ns x))from rfl,he]at h;exact h)
 case store t x y=>
  obtain⟨hk,he⟩:=mC rfl hne;exact ae6 ht hr hm ho hk (by rw[show cmp ns (.store t x y) B=kn B t (.store (aN B t) (mv ns x) (mv ns y))from rfl,he]at h;exact h)
 case nilCheck x=>exact ae7 hr hm ho h
 case binOp op t x y n=>exact ae8 ht hr hm ho h
 case unOp op t x=>exact ae9 hr hm ho h
 case convert t d x=>exact aeW ht hr hm ho h
 case makeInterface t x=>
  obtain⟨hk,he⟩:=mC rfl hne;obtain⟨_,d,_,_,hu,_,hd⟩:=ht.info hk;rw[show cmp ns (.makeInterface t x) B=kn B t (Bool.rec (.ifc t (mv ns x)) .none (nB (dsc B t)))from rfl,he]at h;cases hi:nB (dsc B t)with
  |true=>rw[hi]at h;cases h
  |false=>rw[hi]at h;exact afa hr hm ho hu (by rw[←hd];exact hi) h
 case makeFunc f x c=>exact afb hr hm ho rfl h
 case makeMap t r=>exact aeJ hr ho rfl h
 case makeSlice t l c=>
  obtain⟨el,hd,hk,he⟩:=CZ rfl hne;refine afc ht hr hm ho hd hk ?_;rw[show cmp ns (.makeSlice t l c) B=vQ B (dsc B t) _ from rfl,he]at h;rw[hd]at h;exact h
 case slice t x lo hi mx=>exact aet ht hr hm ho rfl h
 case fieldAddr t x i=>exact aem ht hr hm ho h
 case field t x i=>exact aeo ht hr hm ho h
 case indexAddr t x i=>exact aep ht hr hm ho rfl h
 case index t x i=>exact aeq ht hr hm ho rfl h
 case lookup t x i ok=>exact aeI ht hr hm ho rfl h
 case mapUpdate t m k x=>exact TZ ht hr hm (.inl ho) rfl h
 case insert t m k x=>exact TZ ht hr hm (.inr ho) rfl h
 case range t x=>exact aeX ht hr hm ho rfl h
 case next x str=>exact aeZ hr hm ho h
 case typeAssert x xt t ok=>
  obtain⟨hk,he⟩:=mC rfl hne;obtain⟨_,d,_,_,hu,_,hd⟩:=ht.info hk;rw[show cmp ns (.typeAssert x xt t ok) B=kn B t (Bool.rec (.assert (zero B t) t ok (mv ns x)) .none (nB (dsc B t)))from rfl,he]at h;cases hi:nB (dsc B t)with
  |true=>rw[hi]at h;cases h
  |false=>rw[hi]at h;exact aeF ht hr hm ho hu (by rw[←hd];exact hi) h
 case extract x i=>exact afd hr hm ho h
 case call c=>
  rw[show cmp ns (.call c) B=vP ns c.callee c B from rfl]at h hne;cases hc:c.callee with
  |builtin b=>
   rw[hc]at h hne;have hrec:vP ns (.builtin b) c B≠.recov:=by intro hh;rw[hh]at h;cases h
   rcases ae1 (show tQ ns b c.args.toList c.argTypes.toList B=vP ns (.builtin b) c B from rfl) hne hrec with⟨x,y,t,tx,rfl,h1,h2,h3⟩|⟨x,t,rfl,h1,h2,h3⟩|⟨x,y,k,h1,h2,h3⟩
   ·exact aey ht hr hm ho hc h1 h2 h3 h
   ·exact aeC ht hr hm ho hc h1 h2 h3 h
   ·rw[h2]at h;exact aeD hr hm ho h1 (by rcases h3 with⟨rfl,h⟩|⟨rfl,h⟩|⟨rfl,h⟩<;>simp[hc,h]) h
  |value f=>rw[hc]at h;exact absurd h ae0
  |invoke x n=>rw[hc]at hne;exact absurd rfl hne
 case defer c=>
  rw[show cmp ns (.defer c) B=ED ns c.callee c from rfl]at h hne;cases hc:c.callee with
  |value f=>
   rw[hc]at h;exfalso
   replace h:Ez (rR (ev (mv ns f) tm) (nA (bZ (mv ns) c.args.toList) tm) s)=.val v s':=h
   cases hX:ev (mv ns f) tm<;>rw[hX]at h<;>cases h
  |builtin b=>rw[hc]at hne;exact absurd rfl hne
  |invoke x n=>rw[hc]at hne;exact absurd rfl hne
 case panic x=>
  exfalso
  replace h:Ey (ev (mv ns x) tm) s=.val v s':=h
  cases hX:ev (mv ns x) tm<;>rw[hX]at h<;>cases h
 all_goals exact absurd rfl hne
end
section
variable {P:Program} {B:Tb} {e e':En} {s s':St} {w:World} {ns:NS} {tm:Tm} {a:Act} {o:Oper} {v:AV} {q k k':Nat}
theorem aY.ext [FX](h:aY e k ns tm a)(hx:cW k e e')(hk:k≤k'):aY e' k' ns tm a:=⟨h.1.ext hx hk,fun t=>(h.2 t).ext hx hk⟩
theorem xS(ns:NS)(d t:Nat)(v:AV)(tm:Tm):ev (bM ns t) (put (md ns (some d)) v tm)=if d=t then v else ev (bM ns t) tm:=by
 rw[show md ns (some d)=Eb ns d from rfl];unfold Eb bM;cases hd:ns.at_ d with
 |none=>
  cases ht:ns.at_ t with
  |none=>
   show vH (.cons d v tm.l) t=if d=t then v else vH tm.l t
   show(Bool.rec (vH tm.l t) v (Nat.beq d t):AV)=_;cases hb:Nat.beq d t with
   |true=>rw[if_pos (Nat.eq_of_beq_eq_true hb)]
   |false=>rw[if_neg (Nat.ne_of_beq_eq_false hb)]
  |some u=>
   exact Ug
 |some u=>
  cases ht:ns.at_ t with
  |none=>
   exact Ug
  |some u2=>
   show vI ((tm.g.setP (iC d) (some v)).get (iC t))=if d=t then v else vI (tm.g.get (iC t))
   rw[T.get_setP];by_cases hdt:d=t
   ·subst hdt;rw[if_pos rfl,if_pos rfl];rfl
   ·rw[if_neg (fun hh=>hdt (xK hh)),if_neg hdt]
theorem aY.put [FX](h:aY e k ns tm a){u:Value}(hv:R e k v u){dst:Option Nat}(hd:∀d,dst=some d→d<a.tmps.size∨(v=und∧u=undef)):aY e k ns (Eng.put (md ns dst) v tm) (a.put dst u):=by
 cases dst with
 |none=>exact h
 |some d=>
  refine⟨h.1,fun t=>?_⟩;rw[xS];by_cases hdt:d=t
  ·subst hdt;rw[if_pos rfl];show R e k v ((a.tmps.setIfInBounds d u).getD d undef);rw[Array.getD_eq_getD_getElem?,Array.getElem?_setIfInBounds,if_pos rfl];by_cases hlt:d<a.tmps.size
   ·rw[if_pos hlt];exact hv
   ·rw[if_neg hlt];rcases hd d rfl with h1|⟨rfl,rfl⟩
    ·exact absurd h1 hlt
    ·exact hv
  ·rw[if_neg hdt];show R e k _ ((a.tmps.setIfInBounds d u).getD t undef);rw[Array.getD_eq_getD_getElem?,Array.getElem?_setIfInBounds,if_neg hdt,←Array.getD_eq_getD_getElem?];exact h.2 t
theorem jZ(a:Act)(dst:Option Nat)(u:Value):(a.put dst u).tmps.size=a.tmps.size:=by
 cases dst with
 |none=>rfl
 |some d=>simp[Act.put]
theorem kG(a:Act)(dst:Option Nat)(u:Value):(a.put dst u).defers=a.defers:=by cases dst<;>rfl
end
section
variable {P:Program} {B:Tb} {e e':En} {s s':St} {w:World} {ns:NS} {tm:Tm} {a:Act} {o:Oper} {v:AV} {q k k':Nat}
theorem rf:R e k und undef:=⟨#[],rfl,rfl⟩
theorem afe{v:AV}{u:Value}{x b:Bool}(hv:R e k v u)(h:zA v x=some b):((match(some u:Option Value)with|some (.bool c)=>some c|_=>none)==some x)=b:=by
 cases v<;>first|(cases h;done)|skip
 ·have hu:u=.bool _:=hv;subst hu;rename_i c;cases h;cases c<;>cases x<;>rfl
 ·obtain⟨cs,rfl,_⟩:=hv;cases h;rfl
theorem Uh:∀(l:List Oper) (j:Nat),vR l j=(l[j]?).bind (·.dst)
 |[],j=>rfl
 |o::l,0=>rfl
 |o::l,j+1=>by
  rw[show vR (o::l) (j+1)=vR l j from rfl,Uh l j];rfl
theorem vf [FX]{ops:Array Oper}(h:aY e k ns tm a){b:Bool}(hw:nD (Option.rec none (qt ns ops.toList) o.guard) tm=some b):Region.wanted o (yielded ops a.tmps)=b:=by
 unfold Region.wanted;cases hg:o.guard with
 |none=>rw[hg]at hw;cases hw;rfl
 |some p=>
  obtain⟨j,want⟩:=p;rw[hg]at hw
  replace hw:zA (ev (Option.rec (.val und) (fun d=>bM ns d) (vR ops.toList j)) tm) want=some b:=hw
  rw[Uh,Array.getElem?_toList]at hw;simp only;unfold yielded;cases hd:(ops[j]?).bind (·.dst)with
  |none=>
   rw[hd]at hw;cases hw;rfl
  |some d=>
   rw[hd]at hw;have hR:=h.2 d
   replace hw:zA (ev (bM ns d) tm) want=some b:=hw
   have h1:=afe hR hw;rw[Array.getD_eq_getD_getElem?]at h1;show((match(a.tmps[d]? :Option Value)with|some (.bool b)=>some b|_=>none)==some want)=b;cases ht:a.tmps[d]? with
   |none=>rw[ht]at h1;exact h1
   |some u=>rw[ht]at h1;exact h1
end
section
variable {P:Program} {B:Tb} {e e':En} {s s':St} {w:World} {ns:NS} {tm:Tm} {a:Act} {o:Oper} {v:AV} {q k k':Nat}
theorem Ji{X:AV}{l:List AV}{f:Nat}{args:List AV}(h:rR X l s=.call f args s'):∃fi c,X=.fn f fi c∧args=fi++(l++c)∧s=s':=by
 cases X<;>first|(cases h;done)|skip
 rename_i g fi c;injection h with h1 h2 h3
 subst h1;rw[qY,qY]at h2;exact⟨fi,c,rfl,h2.symm,h3⟩
theorem Db [FX](hm:aY e s.next ns tm a){c:Call}(ho:o.op=.call c){g:Operand}(hc:c.callee=.value g){f:Nat}{args:List AV}(h:rR (ev (mv ns g) tm) (nA (bZ (mv ns) c.args.toList) tm) s=.call f args s'):s=s'∧∃vs:Array Value,RL e s.next args vs.toList∧(execOp a.eval o).run P w=(callFunc f vs).run P w:=by
 obtain⟨fi,cp,hX,rfl,rfl⟩:=Ji h;have hg:=cQ hm g;rw[hX]at hg;obtain⟨x,y,h1,h2,h3⟩:=hg;have hl:=Dc hm c.args.toList;refine⟨rfl,x++c.args.map a.eval++y,?_,?_⟩
 ·exact Ui
 ·unfold execOp;rw[ho];simp[resolve,hc,h1,Deferred.ofValue,invoke]
def RD(P:Program)(e:En)(k:Nat)(d:Nat×List AV)(x:Deferred):Prop:=∃(fv:Fn) (cap vs:Array Value),x.target=.fn fv cap∧RL e k d.2 vs.toList∧∀w,(invoke x.target x.args).run P w=(callFunc d.1 vs).run P w
def mD(P:Program)(e:En)(k:Nat):List (Nat×List AV)→List Deferred→Prop
 |[],l=>l=[]
 |d::ds,l=>∃x xs,l=x::xs∧RD P e k d x∧mD P e k ds xs
theorem mD.ext(hx:cW k e e')(hk:k≤k'):∀{ds:List (Nat×List AV)} {l:List Deferred},mD P e k ds l→mD P e' k' ds l
 |[],_,h=>h
 |d::ds,_,h=>by
  obtain⟨x,xs,h1,⟨fv,cap,vs,h2,h3,h4⟩,h5⟩:=h;exact⟨x,xs,h1,⟨fv,cap,vs,h2,h3.ext hx hk,h4⟩,mD.ext hx hk h5⟩
theorem aff{X:Nx}{f:Nat}{args:List AV}(h:Ez X=.defer f args s'):X=.call f args s':=by
 cases X<;>first|(cases h;done)|skip
 injection h with h1 h2 h3
 subst h1 h2 h3;rfl
theorem afg [FX](hm:aY e s.next ns tm a){c:Call}(ho:o.op=.defer c){g:Operand}(hc:c.callee=.value g){f:Nat}{args:List AV}(h:rR (ev (mv ns g) tm) (nA (bZ (mv ns) c.args.toList) tm) s=.call f args s'):s=s'∧∃x,(execOp a.eval o).run P w=.ok (.defer x) w∧RD P e s.next (f,args) x:=by
 obtain⟨fi,cp,hX,rfl,rfl⟩:=Ji h;have hg:=cQ hm g;rw[hX]at hg;obtain⟨x,y,h1,h2,h3⟩:=hg;have hl:=Dc hm c.args.toList;refine⟨rfl,⟨.fn (.func f) y,x++c.args.map a.eval⟩,?_,.func f,y,x++c.args.map a.eval++y,rfl,?_,fun w=>?_⟩
 ·unfold execOp;rw[ho];simp[resolve,hc,h1,Deferred.ofValue]
 ·exact Ui
 ·simp[invoke]
theorem afh [FX](hm:aY e s.next ns tm a){x:Operand}(ho:o.op=.panic x)(h:Ey (ev (mv ns x) tm) s=.pan v s'):s=s'∧∃u,(execOp a.eval o).run P w=.halt (.panic u) w∧R e s.next v u:=by
 have hx:=cQ hm x;generalize ev (mv ns x) tm=X at hx h;cases X<;>first|(cases h;done)|skip
 rename_i t y;injection h with h1 h2
 subst h1 h2;obtain⟨u,h3,h4⟩:=hx;refine⟨rfl,.iface t u,?_,u,rfl,h4⟩;unfold execOp;rw[ho];simp[h3,Instr.panic,goPanic]
end
section
variable {P:Program} {B:Tb}
def Ex.out:Ex→Exit
 |.normal=>.normal
 |.exit i=>.exit i
 |.goto l=>.goto l
 |.ret=>.ret
def eK [FX](P:Program)(ns:NS)(nt:Nat)(e:En)(s:St)(w:World)(Q:Exit→Act→World→Prop):aS→Prop
 |.ok ex tm' ds' s'=>∀e' a' w',aW e s w e' s' w'→aY e' s'.next ns tm' a'→a'.tmps.size=nt→mD P e' s'.next ds' a'.defers→Q ex.out a' w'
 |.pan v tm' ds' s'=>∀e' a' w' u,aW e s w e' s' w'→aY e' s'.next ns tm' a'→a'.tmps.size=nt→mD P e' s'.next ds' a'.defers→R e' s'.next v u→Q (.panic [{v:=u,recovered:=false}]) a' w'
 |_=>False
theorem eK.step [FX]{ns:NS}{nt:Nat}{e e1:En}{s s1:St}{w w1:World}{Q:Exit→Act→World→Prop}{r:aS}(h:aW e s w e1 s1 w1)(hq:eK P ns nt e s w Q r):eK P ns nt e1 s1 w1 Q r:=by
 cases r with
 |ok ex tm' ds' s'=>exact fun e' a' w' h1 h2 h3 h4=>hq e' a' w' (h.trans h1) h2 h3 h4
 |pan v tm' ds' s'=>exact fun e' a' w' u h1 h2 h3 h4 h5=>hq e' a' w' u (h.trans h1) h2 h3 h4 h5
 |ret v s'=>exact hq
 |okR e tm m s=>exact hq
 |retR m s=>exact hq
 |bad l=>exact hq
def De [FX](e:En)(s:St)(w:World)(o:Oper)(a:Act)(K:Act→World→Prop)(Q:Exit→Act→World→Prop):aS→Prop
 |.ret v s'=>∀e' w' u,aW e s w e' s' w'→R e' s'.next v u→K (a.put o.dst u) w'
 |.pan v _ _ s'=>∀e' w' u,aW e s w e' s' w'→R e' s'.next v u→Q (.panic [{v:=u,recovered:=false}]) a w'
 |_=>False
def qD [FX](P:Program)(B:Tb)(n:Nat):Prop:=∀(f:Nat) (args:List AV) (s:St) (e:En) (w:World) (vs:Array Value),aZ e s w→Gl e s.next→RL e s.next args vs.toList→
 ∀{o:Oper} {a:Act} {K:Act→World→Prop} {Q:Exit→Act→World→Prop},De e s w o a K Q (run B n (.fn f args s))→o.upon P a K Q ((callFunc f vs).run P w)
def uh [FX](P:Program)(B:Tb)(n:Nat):Prop:=∀(ns:NS) (nt:Nat) (ops:Array Oper) (l:List Oper) (tm:Tm) (ds:Ds) (s:St) (e:En) (w:World) (a:Act) (Q:Exit→Act→World→Prop),
 aZ e s w→aY e s.next ns tm a→a.tmps.size=nt→mD P e s.next ds a.defers→eK P ns nt e s w Q (run B n (.ops (bZ (fo B ns nt ops.toList) l) tm ds s))→wpList P ops Q l a w
theorem Df [FX]{nt:Nat}{m m':cg}{d:Option Nat}(h:kF nt m d=m')(hm:m'≠.none):m'=m∧∀x,d=some x→x<nt:=by
 cases d with
 |none=>exact⟨h.symm,fun x hx=>(by cases hx)⟩
 |some y=>
  obtain⟨h1,h2⟩:=Jb (show(Bool.rec .none m (Nat.ble (y+1) nt):cg)=m' from h) hm;exact⟨h2,fun x hx=>by cases hx;exact Nat.le_of_ble_eq_true h1⟩
theorem Jj{m:cg}(h:iG m=true):∃g as,m=.call g as:=by
 unfold iG at h;split at h
 ·exact⟨_,_,rfl⟩
 ·cases h
def Dg:cg→Bool
 |.call _ _=>true
 |.defer _ _=>true
 |.panic _=>true
 |.recov=>true
 |_=>false
inductive afi(ns:NS)(op:Op)(m:cg):Prop where
 |call (c:Call) (x:Operand) (h:op=.call c) (h2:c.callee=.value x) (h3:m=.call (mv ns x) (bZ (mv ns) c.args.toList))
 |defer (c:Call) (x:Operand) (h:op=.defer c) (h2:c.callee=.value x) (h3:m=.defer (mv ns x) (bZ (mv ns) c.args.toList))
 |panic (x:Operand) (h:op=.panic x) (h2:m=.panic (mv ns x))
 |recov (c:Call) (h:op=.call c) (h2:c.callee=.builtin .recover) (h3:m=.recov)
theorem vg [FX]{B:Tb}{ns:NS}{op:Op}{m:cg}(h:cmp ns op B=m)(ha:Dg m=true):afi ns op m:=by
 have hne:m≠.none:=by rintro rfl;cases ha
 have hkn:∀{t m'},kn B t m'=m→m'=m:=fun {t m'} hh=>(mC hh hne).2.symm
 cases op
 all_goals try (subst h;cases(show false=true from ha);done)
 all_goals try (have h2:=hkn h;subst h2;cases(show false=true from ha);done)
 case build t ps=>rcases TJ (m:=m) h hne with⟨_,_,_,_,_,h2⟩|⟨_,_,_,_,h2⟩<;>subst h2<;>cases(show false=true from ha)
 case buildSlice t n ps=>obtain⟨_,_,_,h2⟩:=CZ (m':=m) h hne;subst h2;cases(show false=true from ha)
 case makeSlice t l c=>obtain⟨_,_,_,h2⟩:=CZ (m':=m) h hne;subst h2;cases(show false=true from ha)
 case insert t m k x=>obtain⟨_,_,_,_,_,h2⟩:=xP h hne;subst h2;cases(show false=true from ha)
 case mapUpdate t m k x=>obtain⟨_,_,_,_,_,h2⟩:=xP h hne;subst h2;cases(show false=true from ha)
 case lookup t x i ok=>obtain⟨_,_,_,_,_,h2⟩:=xP h hne;subst h2;cases(show false=true from ha)
 case makeInterface t x=>have h2:=hkn h;cases hb:nB (dsc B t)<;>rw[hb]at h2<;>subst h2<;>cases(show false=true from ha)
 case typeAssert x xt t ok=>have h2:=hkn h;cases hb:nB (dsc B t)<;>rw[hb]at h2<;>subst h2<;>cases(show false=true from ha)
 case makeFunc f x c=>cases f<;>subst h<;>cases(show false=true from ha)
 case makeMap t r=>cases r<;>first|(subst h;cases(show false=true from ha);done)|(rw[show cmp ns (.makeMap t none) B=EI none (mM B (dsc B t))from rfl]at h;cases hk:mM B (dsc B t)<;>rw[hk]at h<;>subst h<;>cases(show false=true from ha))
 case range t x=>rw[show cmp ns (.range t x) B=EJ (mv ns x) (dsc B t)from rfl]at h;cases hd:dsc B t<;>rw[hd]at h<;>subst h<;>cases(show false=true from ha)
 case indexAddr t x i=>rw[show cmp ns (.indexAddr t x i) B=EE B (mv ns x) (mv ns i) (dsc B t)from rfl]at h;cases hd:dsc B t<;>rw[hd]at h<;>first|(subst h;cases(show false=true from ha);done)|(have h2:=hkn h;subst h2;cases(show false=true from ha))
 case index t x i=>rw[show cmp ns (.index t x i) B=EF B (mv ns x) (mv ns i) (dsc B t)from rfl]at h;cases hd:dsc B t<;>rw[hd]at h<;>first|(subst h;cases(show false=true from ha);done)|(have h2:=hkn h;subst h2;cases(show false=true from ha))
 case slice t x lo hi mx=>
  cases mx with
  |some y=>subst h;cases(show false=true from ha)
  |none=>
   rw[show cmp ns (.slice t x lo hi none) B=zx B (mv ns x) (gd ns lo) (gd ns hi) (dsc B t)from rfl]at h;cases hd:dsc B t<;>rw[hd]at h<;>first|(subst h;cases(show false=true from ha);done)|(have h2:=hkn h;subst h2;cases(show false=true from ha))
 case panic x=>exact .panic x rfl h.symm
 case defer c=>
  rw[show cmp ns (.defer c) B=ED ns c.callee c from rfl]at h;cases hc:c.callee<;>rw[hc]at h<;>first|exact .defer c _ rfl hc h.symm|(subst h;cases(show false=true from ha))
 case call c=>
  rw[show cmp ns (.call c) B=vP ns c.callee c B from rfl]at h;cases hc:c.callee with
  |value f=>rw[hc]at h;exact .call c f rfl hc h.symm
  |invoke x n=>rw[hc]at h;subst h;cases(show false=true from ha)
  |builtin b=>
   rw[hc]at h;have happ:∀{X Y tx t},zv B tx X Y (dsc B t)=m→False:=fun {X Y tx t} h3=>by
    cases hd:dsc B t<;>rw[hd]at h3<;>first|(subst h3;cases(show false=true from ha);done)|(have h4:=hkn h3;obtain⟨_,h5⟩:=Jb h4 hne;subst h5;cases(show false=true from ha))
   have hlen:∀{X t},zw X (dsc B t)=m→False:=fun {X t} h3=>by
    cases hd:dsc B t<;>rw[hd]at h3<;>subst h3<;>cases(show false=true from ha)
   replace h:tQ ns b c.args.toList c.argTypes.toList B=m:=h
   unfold tQ at h;split at h<;>first|exact(happ h).elim|exact(hlen h).elim|exact .recov c rfl hc h.symm|(subst h;cases(show false=true from ha))
theorem afj [FX](ht:bS P B){n:Nat}(hO:uh P B n)(hF:qD P B n):uh P B (n+1):=by
 intro ns nt ops l tm ds s e w a Q hr hm hsz hds h;cases l with
 |nil=>exact wpList_nil (h e a w (aW.refl hr) hm hsz hds)
 |cons o l=>
  replace h:eK P ns nt e s w Q (LB (nD (Option.rec none (qt ns ops.toList) o.guard) tm) (fo B ns nt ops.toList o) (run B n) (bZ (fo B ns nt ops.toList) l) tm ds s):=h
  cases hw:nD (Option.rec none (qt ns ops.toList) o.guard) tm with
  |none=>rw[hw]at h;exact h.elim
  |some b=>
   rw[hw]at h;have hwant:=vf (ops:=ops) hm hw;unfold wpList;rw[hwant];cases b with
   |false=>
    rw[if_neg (by decide)]
    replace h:eK P ns nt e s w Q (run B n (.ops (bZ (fo B ns nt ops.toList) l) (put (md ns o.dst) und tm) ds s)):=h
    exact hO ns nt ops l _ ds s e w _ Q hr (hm.put rf (fun d _=>.inr ⟨rfl,rfl⟩)) (by rw[jZ];exact hsz) (by rw[kG];exact hds) h
   |true=>
    rw[if_pos rfl];left
    replace h:eK P ns nt e s w Q (LA (fS (kF nt (cmp ns o.op B) o.dst) tm s) (kF nt (cmp ns o.op B) o.dst) (run B n) (bZ (fo B ns nt ops.toList) l) (md ns o.dst) tm ds):=h
    have hne:kF nt (cmp ns o.op B) o.dst≠.none:=by intro hh;rw[hh]at h;exact h
    obtain⟨hdc,hlt⟩:=Df rfl hne;rw[hdc]at h;have hput:∀d,o.dst=some d→d<a.tmps.size:=fun d hd=>by rw[hsz];exact hlt d hd
    cases hx:fS (cmp ns o.op B) tm s with
    |val v s1=>
     rw[hx]at h
     replace h:eK P ns nt e s w Q (run B n (.ops (bZ (fo B ns nt ops.toList) l) (put (md ns o.dst) v tm) ds s1)):=h
     obtain⟨e1,w1,nx,h1,h2,h3⟩:=Jh ht hr hm hx;unfold Oper.wp;rw[h1];have hrest:∀u,R e1 s1.next v u→wpList P ops Q l (a.put o.dst u) w1:=fun u hu=>
      hO ns nt ops l _ ds s1 e1 w1 _ Q h2.rep ((hm.ext h2.ext h2.nx).put hu (fun d hd=>.inl (hput d hd))) (by rw[jZ];exact hsz) (by rw[kG];exact hds.ext h2.ext h2.nx) (h.step h2)
     rcases h3 with⟨u,rfl,hu⟩|⟨rfl,rfl⟩
     ·exact hrest u hu
     ·exact hrest undef rf
    |call f args s1=>
     rw[hx]at h
     replace h:eK P ns nt e s w Q (Bool.rec (.bad [916]) (vU (run B n (.fn f args s1)) (run B n) (bZ (fo B ns nt ops.toList) l) (md ns o.dst) tm ds) (iG (cmp ns o.op B))):=h
     cases hb:iG (cmp ns o.op B)with
     |false=>rw[hb]at h;exact h.elim
     |true=>
      rw[hb]at h;obtain⟨g,as,gI⟩:=Jj hb;cases vg gI rfl with
      |call c x hop hcal dy=>
       rw[gI,dy]at hx;obtain⟨rfl,vs,hvs,hexec⟩:=Db (P:=P) (w:=w) hm hop hcal hx;unfold Oper.wp;rw[hexec];refine hF f args s e w vs hr hm.1 hvs ?_;generalize run B n (.fn f args s)=r at h;cases r with
       |ret v s2=>
        exact fun e1 w1 u h1 hu=>hO ns nt ops l _ ds s2 e1 w1 _ Q h1.rep ((hm.ext h1.ext h1.nx).put hu (fun d hd=>.inl (hput d hd))) (by rw[jZ];exact hsz) (by rw[kG];exact hds.ext h1.ext h1.nx) (eK.step h1 h)
       |pan v tm2 Ww s2=>exact fun e1 w1 u h1 hu=>h e1 a w1 u h1 (hm.ext h1.ext h1.nx) hsz (hds.ext h1.ext h1.nx) hu
       |ok _ _ _ _=>exact h.elim
       |okR _ _ _ _=>exact h.elim
       |retR _ _=>exact h.elim
       |bad _=>exact h.elim
      |defer c x _ _ dy=>cases dy
      |panic x _ dy=>cases dy
      |recov c _ _ dy=>cases dy
    |defer f args s1=>
     rw[hx]at h
     replace h:eK P ns nt e s w Q (Bool.rec (.bad [913]) (run B n (.ops (bZ (fo B ns nt ops.toList) l) (put (md ns o.dst) und tm) ((f,args)::ds) s1)) (Nat.beq (pf (cmp ns o.op B)) 2)):=h
     cases hb:Nat.beq (pf (cmp ns o.op B)) 2 with
     |false=>rw[hb]at h;exact h.elim
     |true=>
      rw[hb]at h;have ha:Dg (cmp ns o.op B)=true:=by cases gI:cmp ns o.op B<;>rw[gI]at hb<;>first|rfl|cases hb
      cases vg rfl ha with
      |defer c x hop hcal dy=>
       rw[dy]at hx;obtain⟨rfl,x2,hexec,hrd⟩:=afg (P:=P) (w:=w) hm hop hcal (aff hx);unfold Oper.wp;rw[hexec];show wpList P ops Q l (({a with defers:=x2::a.defers}:Act).put o.dst undef) w;refine hO ns nt ops l _ _ s e w _ Q hr ?_ (by rw[jZ];exact hsz) (by rw[kG];exact⟨x2,a.defers,rfl,hrd,hds⟩) h;exact aY.put (a:={a with defers:=x2::a.defers}) hm rf fun d hd=>.inr ⟨rfl,rfl⟩
      |call c x _ _ dy=>rw[dy]at hb;cases hb
      |panic x _ dy=>rw[dy]at hb;cases hb
      |recov c _ _ dy=>rw[dy]at hb;cases hb
    |recov s1=>rw[hx]at h;exact h.elim
    |pan v s1=>
     rw[hx]at h
     replace h:eK P ns nt e s w Q (Bool.rec (.bad [915]) (.pan v tm ds s1) (Nat.beq (pf (cmp ns o.op B)) 3)):=h
     cases hb:Nat.beq (pf (cmp ns o.op B)) 3 with
     |false=>rw[hb]at h;exact h.elim
     |true=>
      rw[hb]at h;have ha:Dg (cmp ns o.op B)=true:=by cases gI:cmp ns o.op B<;>rw[gI]at hb<;>first|rfl|cases hb
      cases vg rfl ha with
      |panic x hop dy=>
       rw[dy]at hx;obtain⟨rfl,u,hexec,hu⟩:=afh (P:=P) (w:=w) hm hop hx;unfold Oper.wp;rw[hexec];exact h e a w u (aW.refl hr) hm hsz hds hu
      |call c x _ _ dy=>rw[dy]at hb;cases hb
      |defer c x _ _ dy=>rw[dy]at hb;cases hb
      |recov c _ _ dy=>rw[dy]at hb;cases hb
    |bad m=>rw[hx]at h;exact h.elim
end
end Go.Proofs.YtlpombjidhloiaaGreat.Eng
