/- The runner's equality is the program's. The runner's loads and stores do as the program's. Condition: what each theorem says. -/
import Derived.Test.YtlpombjidhloiaaGreatBbc
import Derived.Laws.StructEq
namespace Go.Proofs.YtlpombjidhloiaaGreat.Eng
section
variable {P:Program} {T:Tb} {e:En} {s s':St} {w:World} {ns:NS} {tm:Tm} {a:Act} {o:Oper} {v:AV} {q:Nat}
set_option maxHeartbeats 4000000 in
theorem Vd [FX](ht:bS P T){t:TypeId}{k:EK}(hk:oX (dsc T t)=some k){a b:AV}{u v:Value}(ha:R e q a u)(hb:R e q b v){r:Bool}(h:jJ k a b=some r)(d:Nat):(Op.equalIn (d+1) t u v).run P w=.ok r w:=by
 have hu:∃dd,dsc T t=dd:=⟨_,rfl⟩;obtain⟨dd,hd⟩:=hu;rw[hd]at hk;have hu:P.underlying t=some dd:=ht.dsc hd (by rintro rfl;cases hk);unfold jJ at h;split at h<;>first|(cases h;done)|skip
 case h_1=>
  cases dd<;>first|(cases hk;done)|skip
  rw[show u=_ from ha,show v=_ from hb];cases h;exact run_equalIn_bool w d t _ _ hu
 case h_2=>
  cases dd<;>first|(cases hk;done)|skip
  rw[show u=_ from ha,show v=_ from hb];split at h;case isFalse=>cases h
  rename_i hkk;cases hkk;cases h;exact run_equalIn_int w d t _ _ _ _ hu
 case h_3=>
  cases dd<;>first|(cases hk;done)|skip
  rw[ha.2,hb.2];cases h;rw[run_equalIn_string w d t _ _ hu,mR,mR,CY ha.1 hb.1]
 case h_4=>
  cases dd<;>first|(cases hk;done)|skip
  rw[show u=_ from ha,show v=_ from hb];cases h;simp[Op.equalIn,run_underlying hu]
 all_goals
  cases dd<;>first|(cases hk;done)|skip
  cases h;unfold R at ha hb
  first|(obtain⟨_,rfl⟩:=ha)|(obtain⟨_,_,rfl,_⟩:=ha)|(obtain⟨_,rfl,_⟩:=ha)|(cases ha)
  all_goals first|(obtain⟨_,rfl⟩:=hb)|(obtain⟨_,_,rfl,_⟩:=hb)|(obtain⟨_,rfl,_⟩:=hb)|(cases hb)
  all_goals simp[Op.equalIn,run_underlying hu]
theorem Ve [FX](ht:bS P T){t:TypeId}{k:EK}(hk:oX (dsc T t)=some k){xs:Array Value}{i:Nat}{v:Value}(h:xs[i]? =some v):(part t xs i).run P w=.ok v w:=by
 obtain⟨dd,hd⟩:∃dd,dsc T t=dd:=⟨_,rfl⟩;rw[hd]at hk;have hu:P.underlying t=some dd:=ht.dsc hd (by rintro rfl;cases hk);cases dd<;>first|(cases hk;done)|skip
 all_goals simp[part,isAgg,run_underlying hu,h]
theorem afS{k:Option EK}{r:Option (List EK)}{l:List EK}(h:EG k r=some l):∃a b,k=some a∧r=some b∧l=a::b:=by
 cases k with
 |none=>cases h
 |some a=>
  cases r with
  |none=>cases h
  |some b=>cases h;exact⟨a,b,rfl,rfl,rfl⟩
theorem ec{a b:Bool}(h:and a b=true):a=true∧b=true:=by cases a<;>cases b<;>first|exact⟨rfl,rfl⟩|cases h
theorem Vf [FX](ht:bS P T)(d:Nat){xs ys:Array Value}:∀(fs:List Field) (i:Nat) {ks:List EK} {l m:List AV} {r:Bool},oY T fs i=some ks→
 (∀j a,l[j]? =some a→∃v,xs[i+j]? =some v∧R e q a v)→(∀j a,m[j]? =some a→∃v,ys[i+j]? =some v∧R e q a v)→
 tK ks l m=some r→(Op.eqFields (d+1) xs ys fs).run P w=.ok r w
 |[],i,ks,l,m,r,hk,hl,hm,h=>by
  cases hk;cases l<;>cases m<;>cases h
  rfl
 |f::fs,i,ks,l,m,r,hk,hl,hm,h=>by
  rw[show oY T (f::fs) i=Bool.rec none (EG (oX (dsc T f.type)) (oY T fs (i+1))) (and (Nat.beq f.offset i) (not (f.name== "_")))from rfl]at hk;cases hc:and (Nat.beq f.offset i) (not (f.name== "_"))with
  |false=>rw[hc]at hk;cases hk
  |true=>
   rw[hc]at hk;obtain⟨k,ks',h1,h2,rfl⟩:=afS hk;obtain⟨h3,h4⟩:=ec hc;have h3:=Nat.eq_of_beq_eq_true h3;have h4:f.name≠ "_":=by intro hh;rw[hh]at h4;exact absurd h4 (by decide)
   cases l with
   |nil=>cases h
   |cons a l=>
    cases m with
    |nil=>cases h
    |cons b m=>
     rw[show tK (k::ks') (a::l) (b::m)=Option.rec none (fun r=>Option.rec none (fun q=>some (and r q)) (tK ks' l m)) (jJ k a b)from rfl]at h;cases he:jJ k a b with
     |none=>rw[he]at h;cases h
     |some r1=>
      rw[he]at h;cases hs:tK ks' l m with
      |none=>rw[hs]at h;cases h
      |some r2=>
       rw[hs]at h;cases h;obtain⟨u,hu,hau⟩:=hl 0 a rfl;obtain⟨v,hv,hbv⟩:=hm 0 b rfl;have hrest:=Vf ht d fs (i+1) (l:=l) (m:=m) h2 (fun j a hj=>by have:=hl (j+1) a hj;rwa [show i+1+j=i+(j+1)by omega]) (fun j a hj=>by have:=hm (j+1) a hj;rwa [show i+1+j=i+(j+1)by omega]) hs;simp only[Op.eqFields,h3,if_pos h4,Sem.run_bind,Ve ht h1 (show xs[i]? =some u from hu),Ve ht h1 (show ys[i]? =some v from hv),Result.andThen_ok,Vd ht h1 hau hbv he d,Sem.run_ite,hrest];cases r1<;>rfl
theorem Vg{x:Option Bool}{v:AV}(h:zf x=some v):∃b,x=some b∧v=.bool b:=by
 cases x with
 |none=>cases h
 |some b=>cases h;exact⟨b,rfl,rfl⟩
theorem Vh{x:Option Bool}{v:AV}(h:zg x=some v):∃b,x=some b∧v=.bool (!b):=by
 cases x with
 |none=>cases h
 |some b=>cases h;exact⟨b,rfl,rfl⟩
theorem afT{k:EK}{a b:AV}{u:Value}(ha:R e q a u){r:Bool}(h:jJ k a b=some r):(∀x,u≠.agg x)∧(u=.nilIface→k=.iface):=by
 unfold jJ at h;split at h<;>first|(cases h;done)|skip
 all_goals
  unfold R at ha
  first|(obtain⟨_,rfl⟩:=ha)|(obtain⟨_,_,rfl,_⟩:=ha)|(obtain⟨_,rfl,_⟩:=ha)|(cases ha)
  all_goals exact⟨fun x hx=>(by cases hx),fun hx=>(by first|rfl|cases hx)⟩
theorem Ju{op:BinOp}{t:TypeId}{x y:Operand}{u v:Value}(h1:∀x,u≠.agg x)(h2:u≠.nilIface):(eqGuard op t x y u v).run P w=.ok () w:=by
 cases op<;>first|(simp[eqGuard];done)|(cases u<;>first|(exact absurd rfl (h1 _))|(exact absurd rfl h2)|(cases v<;>simp[eqGuard]))
theorem Vi{o:Option EK}{k:EK}(h:zy o=.one k):o=some k:=by
 cases o with
 |none=>cases h
 |some a=>cases h;rfl
theorem afU{op:BinOp}{t:TypeId}{x y:Operand}(hc:or (dj x) (dj y)=true):(eqGuard op t x y .nilIface .nilIface).run P w=.ok () w:=by
 cases op<;>first|(simp[eqGuard];done)|skip
 all_goals cases x<;>cases y<;>first|(cases hc;done)|(simp[eqGuard];done)
theorem bS.guard(ht:bS P T){t:TypeId}(h:jV T t=false):P.eqGuardType P.depth t=false:=by
 unfold jV at h;cases hi:T.ty.at_ t with
 |none=>rw[hi]at h;cases h
 |some i=>
  obtain⟨_,_,_,_,_,_,h7,_⟩:=ht.ty t i hi;rw[hi]at h;rw[←h7];exact h
theorem bS.held(ht:bS P T){t:TypeId}(h:oZ T t=false):P.stoodInHeld t=false:=by
 unfold oZ at h;cases hi:T.ty.at_ t with
 |none=>rw[hi]at h;cases h
 |some i=>
  obtain⟨_,_,_,_,_,h7,_⟩:=ht.ty t i hi;rw[hi]at h;rw[←h7];exact h
theorem afV{op:BinOp}{t:TypeId}{x y:Operand}{ms:Array (String×TypeId)}(hu:P.underlying t=some (.interface ms))(hg:P.eqGuardType P.depth t=false):(eqGuard op t x y .nilIface .nilIface).run P w=.ok () w:=by
 have hm:ms.isEmpty=true:=by
  cases hd:P.depth with
  |zero=>rw[hd]at hg;cases hg
  |succ d=>
   rw[hd]at hg;unfold Program.eqGuardType at hg;rw[hu]at hg
   replace hg:(!ms.isEmpty)=false:=hg
   cases hh:ms.isEmpty with
   |true=>rfl
   |false=>rw[hh]at hg;cases hg
 have hq:∀w,(Op.eqGuardIn Op.maxDepth t .nilIface .nilIface).run P w=.ok false w:=by
  intro w;have hd:∀d,(Op.eqGuardIn (d+1) t .nilIface .nilIface).run P w=.ok false w:=fun d=>by simp[Op.eqGuardIn,run_underlying hu,hm]
  exact hd 9999
 cases op<;>first|(simp[eqGuard];done)|skip
 all_goals cases x<;>cases y<;>simp[eqGuard,hq]
theorem Vj [FX](ht:bS P T){t:TypeId}{x y:Operand}{op:BinOp}{a b:AV}{u v:Value}(ha:R e q a u)(hb:R e q b v){r:Bool}(h:tL (nC T t (or (dj x) (dj y))) a b=some r):(eqGuard op t x y u v).run P w=.ok () w∧(Op.equal t u v).run P w=.ok r w:=by
 obtain⟨dd,hd⟩:∃dd,dsc T t=dd:=⟨_,rfl⟩;have hone:∀k,nC T t (or (dj x) (dj y))=.one k→oX (dsc T t)=some k∧(k=.iface→(or (dj x) (dj y))=true∨jV T t=false):=by
  intro k hk;unfold nC at hk;rw[hd]at hk ⊢;by_cases hs:(∃fs,dd=.struct fs)∨∃ms,dd=.interface ms;case neg=>
   have h8:rT T t (dj x||dj y) dd=zy (oX dd):=by
    exact Vk
   rw[h8]at hk;refine⟨Vi hk,fun hh=>?_⟩;subst hh;have h9:=Vi hk;cases dd<;>first|(cases h9;done)|exact absurd (.inr ⟨_,rfl⟩) hs
  rcases hs with⟨fs,rfl⟩|⟨ms,rfl⟩;case inl=>
   rw[show rT T t (or (dj x) (dj y)) (.struct fs)=Bool.rec (EH (oY T fs.toList 0)) .no (or (oZ T t) (jV T t))from rfl]at hk;cases hg:or (oZ T t) (jV T t)with
   |true=>rw[hg]at hk;cases hk
   |false=>rw[hg]at hk;cases hf:oY T fs.toList 0<;>rw[hf]at hk<;>cases hk
  case inr=>
   rw[show rT T t (or (dj x) (dj y)) (.interface ms)=Bool.rec (Bool.rec (.one .iface) .no (jV T t)) (.one .iface) (or (dj x) (dj y))from rfl]at hk;cases hc:or (dj x) (dj y)with
   |true=>rw[hc]at hk;cases hk;exact⟨rfl,fun _=>.inl rfl⟩
   |false=>
    rw[hc]at hk;cases hg:jV T t with
    |true=>rw[hg]at hk;cases hk
    |false=>rw[hg]at hk;cases hk;exact⟨rfl,fun _=>.inr rfl⟩
 generalize hq:nC T t (or (dj x) (dj y))=E at h;cases E with
 |no=>cases a<;>cases h
 |one k=>
  obtain⟨h1,h2⟩:=hone k hq;have h3:jJ k a b=some r:=by cases k<;>exact h
  refine⟨?_,Vd ht h1 ha hb h3 9999⟩;obtain⟨h4,h5⟩:=afT ha h3;by_cases hu:u=.nilIface
  ·have hk:=h5 hu;subst hk hu;by_cases hv:v=.nilIface
   ·subst hv;rcases h2 rfl with hc|hg
    ·exact afU hc
    ·have hms:∃ms,dsc T t=.interface ms:=by
      cases dd<;>rw[hd]at h1<;>first|(cases h1;done)|exact⟨_,hd⟩
     obtain⟨ms,hms⟩:=hms;exact afV (ht.dsc hms (by intro hh;cases hh)) (ht.guard hg)
   ·cases op<;>first|(simp[eqGuard];done)|(cases v<;>first|(exact absurd rfl hv)|simp[eqGuard])
  ·exact Ju h4 hu
 |many ks=>
  have hfs:∃fs,dd=.struct fs∧oZ T t=false∧jV T t=false∧oY T fs.toList 0=some ks:=by
   unfold nC at hq;rw[hd]at hq;by_cases hs:(∃fs,dd=.struct fs)∨∃ms,dd=.interface ms;case neg=>
    have h8:rT T t (dj x||dj y) dd=zy (oX dd):=by
     exact Vk
    rw[h8]at hq;cases h9:oX dd<;>rw[h9]at hq<;>cases hq
   rcases hs with⟨fs,rfl⟩|⟨ms,rfl⟩
   ·refine⟨fs,rfl,?_⟩;rw[show rT T t (or (dj x) (dj y)) (.struct fs)=Bool.rec (EH (oY T fs.toList 0)) .no (or (oZ T t) (jV T t))from rfl]at hq;cases hg:or (oZ T t) (jV T t)with
    |true=>rw[hg]at hq;cases hq
    |false=>
     rw[hg]at hq;cases hf:oY T fs.toList 0<;>rw[hf]at hq<;>cases hq
     cases h1:oZ T t<;>cases h2:jV T t<;>rw[h1,h2]at hg<;>first|(cases hg;done)|exact⟨rfl,rfl,rfl⟩
   ·rw[show rT T t (or (dj x) (dj y)) (.interface ms)=Bool.rec (Bool.rec (.one .iface) .no (jV T t)) (.one .iface) (or (dj x) (dj y))from rfl]at hq;cases hc:or (dj x) (dj y)<;>rw[hc]at hq<;>first|(cases hq;done)|skip
    cases hg:jV T t<;>rw[hg]at hq<;>cases hq
  obtain⟨fs,rfl,hh,hg,hks⟩:=hfs;cases a with
  |agg l=>
   cases b with
   |agg m=>
    obtain⟨xs,rfl,hl⟩:=ha;obtain⟨ys,rfl,hm⟩:=hb;have h3:tK ks l m=some r:=h;refine⟨run_eqGuard_agg w op t x y xs ys (ht.guard hg),?_⟩;have hu:=ht.dsc hd (by intro hh;cases hh);have hfo:P.fieldsOf t=fs:=by unfold Program.fieldsOf;rw[hu]
    show(Op.equalIn (9999+1) t (.agg xs) (.agg ys)).run P w=_;rw[run_equalIn_struct w 9999 t xs ys (by rw[hfo];exact hu) (ht.held hh),hfo];exact Vf ht 9998 fs.toList 0 hks (fun j a hj=>by obtain⟨v,h5,h6⟩:=hl.at hj;exact⟨v,by rw[Nat.zero_add,←Array.getElem?_toList];exact h5,h6⟩) (fun j a hj=>by obtain⟨v,h5,h6⟩:=hm.at hj;exact⟨v,by rw[Nat.zero_add,←Array.getElem?_toList];exact h5,h6⟩) h3
   |_=>cases h
  |_=>cases h
def Du:Value→Bool
 |.int _ _=>false
 |.float _ _=>false
 |.complex _ _ _=>false
 |.string _=>false
 |_=>true
theorem afW{t:TypeId}{u v:Value}(h:Du u=true):binOp .eql t u v=(do pure (.bool (←Op.equal t u v))):=by
 cases u<;>first|(cases h;done)|(cases v<;>rfl)
theorem afX{t:TypeId}{u v:Value}(h:Du u=true):binOp .neq t u v=(do pure (.bool (!(←Op.equal t u v)))):=by
 cases u<;>first|(cases h;done)|(cases v<;>rfl)
theorem afY{k:EK}{a b:AV}{u:Value}(hk:k≠.cplx)(hi:∀k n,a≠.int k n)(hs:∀l,a≠.str l)(ha:R e q a u){r:Bool}(h:jJ k a b=some r):Du u=true:=by
 unfold jJ at h;split at h<;>first|(cases h;done)|(exact absurd rfl hk)|(exact absurd rfl (hi _ _))|(exact absurd rfl (hs _))|skip
 all_goals
  unfold R at ha
  first|(obtain⟨_,rfl⟩:=ha)|(obtain⟨_,_,rfl,_⟩:=ha)|(obtain⟨_,rfl,_⟩:=ha)|(cases ha)
  all_goals rfl
theorem Vl [FX]{E:EQ}{a b:AV}{u:Value}(hk:E≠.one .cplx)(hi:∀k n,a≠.int k n)(hs:∀l,a≠.str l)(ha:R e q a u){r:Bool}(h:tL E a b=some r):Du u=true:=by
 cases E with
 |no=>cases a<;>cases h
 |one k=>exact afY (by rintro rfl;exact hk rfl) hi hs ha (show jJ k a b=some r by cases a<;>exact h)
 |many ks=>
  cases a with
  |agg l=>obtain⟨cs,rfl,_⟩:=ha;rfl
  |_=>cases h
theorem afZ [FX](ht:bS P T){t:TypeId}{x y:Operand}{op:BinOp}{a b:AV}{u v:Value}(hi:∀k n,a≠.int k n)(hs:∀l,a≠.str l)(ha:R e q a u)(hb:R e q b v){r:AV}(h:oQ op (nC T t (or (dj x) (dj y))) a b=some r):∃z,((do eqGuard op t x y u v;binOp op t u v:Sem Value)).run P w=.ok z w∧R e q r z:=by
 generalize hE:nC T t (or (dj x) (dj y))=E at h;by_cases hc:E=.one .cplx
 ·subst hc
  replace h:KO op a b=some r:=h
  have hX:∀{r:Bool},jJ .cplx a b=some r→∃x1 y1 x2 y2,u=.complex .f64 x1 y1∧v=.complex .f64 x2 y2∧r=(Op.floatEq .f64 x1 x2&&Op.floatEq .f64 y1 y2):=by
   intro r h;generalize hk:EK.cplx=k at h;unfold jJ at h;split at h<;>first|(cases h;done)|(cases hk;done)|skip
   cases h;exact⟨_,_,_,_,ha,hb,rfl⟩
  cases op<;>first|(cases h;done)|skip
  case eql=>
   obtain⟨z,h1,rfl⟩:=Vg h;obtain⟨x1,y1,x2,y2,rfl,rfl,rfl⟩:=hX h1;refine⟨.bool (Op.floatEq .f64 x1 x2&&Op.floatEq .f64 y1 y2),?_,rfl⟩;exact Vm
  case neq=>
   obtain⟨z,h1,rfl⟩:=Vh h;obtain⟨x1,y1,x2,y2,rfl,rfl,rfl⟩:=hX h1;refine⟨.bool (!(Op.floatEq .f64 x1 x2&&Op.floatEq .f64 y1 y2)),?_,rfl⟩;exact Vm
 ·cases op<;>first|(exfalso;revert h;cases E<;>first|(intro h;cases h;done)|(rename_i k;cases k<;>first|exact absurd rfl hc|(intro h;cases h)))|skip
  case eql=>
   have h1:zf (tL E a b)=some r:=by cases E<;>first|exact h|(rename_i k;cases k<;>first|exact absurd rfl hc|exact h)
   obtain⟨z,h9,rfl⟩:=Vg h1;obtain⟨h2,h3⟩:=Vj (w:=w) (op:=.eql) ht ha hb (hE▸h9);refine⟨.bool z,?_,rfl⟩;rw[afW (Vl hc hi hs ha h9)];simp only[Sem.run_bind,h2,h3,Result.andThen_ok,Sem.run_pure]
  case neq=>
   have h1:zg (tL E a b)=some r:=by cases E<;>first|exact h|(rename_i k;cases k<;>first|exact absurd rfl hc|exact h)
   obtain⟨z,h9,rfl⟩:=Vh h1;obtain⟨h2,h3⟩:=Vj (w:=w) (op:=.neq) ht ha hb (hE▸h9);refine⟨.bool (!z),?_,rfl⟩;rw[afX (Vl hc hi hs ha h9)];simp only[Sem.run_bind,h2,h3,Result.andThen_ok,Sem.run_pure]
theorem af0 [FX](ht:bS P T){t:TypeId}{x y:Operand}{op:BinOp}{a b:AV}{u v:Value}(ha:R e q a u)(hb:R e q b v){r:AV}(h:Ee a b op (nC T t (or (dj x) (dj y)))=some r):∃z,((do eqGuard op t x y u v;binOp op t u v:Sem Value)).run P w=.ok z w∧R e q r z:=by
 cases a with
 |bot=>cases h
 |emp=>cases h
 |tup l=>cases h
 |int k n=>
  cases b with
  |int k' m=>
   cases ha;cases hb;obtain⟨z,h1,h2⟩:=Va (P:=P) (w:=w) (t:=t) (e:=e) (q:=q) (show zh op k n k' m=some r from h);exact Jv
  |_=>cases h
 |cls k m r0=>
  cases b with
  |int k' y=>
   obtain⟨n,rfl,hn,hm⟩:=ha;cases hb
   replace h:KP op k m r0 (.int k' y)=some r:=h
   cases op<;>first|(cases h;done)|skip
   cases y with
   |negSucc y=>cases h
   |ofNat y=>
    replace h:(if k=k' then(Bool.rec none (some (.int k (.ofNat (Nat.mod r0 y)))) (and (Nat.ble 1 y) (Nat.beq (Nat.mod m y) 0)):Option AV)else none)=some r:=h
    by_cases hk:k=k'
    ·rw[if_pos hk]at h;subst hk;cases hc:and (Nat.ble 1 y) (Nat.beq (Nat.mod m y) 0)with
     |false=>rw[hc]at h;cases h
     |true=>
      rw[hc]at h;rw[Bool.and_eq_true]at hc;have hy:=Nat.le_of_ble_eq_true hc.1;have hd:m% y=0:=Nat.eq_of_beq_eq_true hc.2;have hmod:n% y=r0% y:=by rw[←hm,Nat.mod_mod_of_dvd _ (Nat.dvd_of_mod_eq_zero hd)]
      obtain⟨z,h1,h2⟩:=Va (P:=P) (w:=w) (t:=t) (e:=e) (q:=q) (show zh .rem k n k y=some (.int k (.ofNat (Nat.mod r0 y)))by
       show(if k=k then rQ .rem k n y else none)=_;rw[if_pos rfl];show(if(y:Int)=0 then none else some (AV.int k ((n:Int).tmod y)))=_;rw[if_neg (by omega)];have:(n:Int).tmod y=((n% y:Nat):Int):=by rw[Int.tmod_eq_emod_of_nonneg (by omega)];rfl
       rw[this,hmod];rfl)
      cases h;exact Jv
    ·rw[if_neg hk]at h;cases h
  |_=>cases op<;>cases h
 |str l=>
  cases b with
  |str m=>
   obtain⟨h3,rfl⟩:=ha;obtain⟨h4,rfl⟩:=hb;obtain⟨z,h1,h2⟩:=afR (P:=P) (w:=w) (t:=t) (e:=e) (q:=q) h3 h4 (show ze op l m=some r from h);exact Jv
  |_=>cases h
 |_=>exact afZ ht (fun _ _ hh=>by cases hh) (fun _ hh=>by cases hh) ha hb h
theorem ae8 [FX](ht:bS P T)(hr:aZ e s w)(hm:aY e s.next ns tm a){op:BinOp}{t:TypeId}{x y:Operand}{n:TypeId}(ho:o.op=.binOp op t x y n)(h:vl (Ee (ev (mv ns x) tm) (ev (mv ns y) tm) op (nC T t (or (dj x) (dj y)))) 8 s=.val v s'):dU P e s w (execOp a.eval o) v s':=by
 obtain⟨h1,rfl⟩:=nr h;obtain⟨z,h2,h3⟩:=af0 (w:=w) ht (cQ hm x) (cQ hm y) h1;refine dh hr ?_ h3;unfold execOp;rw[ho];simp only[Sem.run_bind]at h2 ⊢;rw[h2];rfl
end
section
variable {P:Program} {B:Tb} {e:En} {s s':St} {w:World} {ns:NS} {tm:Tm} {a:Act} {o:Oper} {v:AV} {q:Nat}
theorem aZ.cells [FX](h:aZ e s w){b:Nat}{c:T (List AV)}{n size t:Nat}{room:Bool}(hb:s.get b=some (.cells c n size t room)):
 ∃cs fz,w.heap[e.σ b]? =some (.cells cs t fz)∧Dm fz cs.size∧cs.size=(if room=true then e.κ b else n)*size∧(room=true→n≤e.κ b)∧∀i l,c.at_ i=some l→i<n∧l.length=size∧∀j a,l[j]? =some a→iE a=true∧∃v,cs[i*size+j]? =some v∧R e s.next a v:=by
 obtain⟨_,_,r,h1,h2⟩:=h.obj b _ hb;obtain⟨cs,fz,rfl,h3,h4,h5,h6⟩:=h2;exact⟨cs,fz,h1,h3,h4,h5,h6⟩
theorem Ur [FX]{p:AV}{g:Bool}{n:Nat}(h:qk p g n s=.val v s'):∃b o c m size t r l,p=.ptr b o∧s.get b=some (.cells c m size t r)∧c.at_ (o/size)=some l∧s=s'∧((g=true∧∃k,rP l (o% size) n=some k∧v=.agg k)∨(g=false∧jH l (o% size)=some v)):=by
 cases p<;>first|(cases h;done)|skip
 rename_i b o
 replace h:KH (s.get b) g n o s=.val v s':=h
 cases hg:s.get b with
 |none=>rw[hg]at h;cases h
 |some ob=>
  rw[hg]at h;cases ob<;>first|(cases h;done)|skip
  rename_i c m size t r;refine⟨b,o,c,m,size,t,r,?_⟩;rw[hg]
  replace h:loadAt (c.at_ (o/size)) g (o% size) n s=.val v s':=h
  cases hl:c.at_ (o/size)with
  |none=>rw[hl]at h;cases h
  |some l=>
   rw[hl]at h;refine⟨l,rfl,rfl,rfl,?_⟩;cases g with
   |true=>
    obtain⟨h1,h2⟩:=nr (show vl (tI (rP l (o% size) n)) 101 s=.val v s' from h);refine⟨h2,.inl ⟨rfl,?_⟩⟩;cases hs:rP l (o% size) n with
    |none=>rw[hs]at h1;cases h1
    |some k=>rw[hs]at h1;cases h1;exact⟨k,rfl,rfl⟩
   |false=>
    obtain⟨h1,h2⟩:=nr (show vl (jH l (o% size)) 102 s=.val v s' from h);exact⟨h2,.inr ⟨rfl,h1⟩⟩
theorem sQ{b:Nat}{cs:Array Value}{t:TypeId}{fz:Nat×Nat}(h:w.heap[b]? =some (.cells cs t fz))(o:Nat):w.cell? ⟨b,o,none⟩=cs[o]? :=by
 simp[World.cell?,h]
theorem Us [FX](ht:bS P B)(hr:aZ e s w){t:TypeId}(hk:eD B t=true){p:AV}{u:Value}(hp:R e s.next p u)(h:qk p (iS B t) (aN B t) s=.val v s'):s=s'∧∃z,(Instr.loadAt t u).run P w=.ok z w∧R e s.next v z:=by
 obtain⟨ti,d,hi,hz,hu,hg,_⟩:=ht.info hk;obtain⟨b,o,c,m,size,et,r,l,rfl,hb,hl,rfl,hv⟩:=Ur h;refine⟨rfl,?_⟩;obtain⟨cs,fz,h1,h2,h3,h4,h5⟩:=hr.cells hb;obtain⟨h6,h7,h8⟩:=h5 _ _ hl;obtain⟨_,rfl⟩:=hp;have hat:∀j a,l[o% size+j]? =some a→iE a=true∧∃v,cs[o+j]? =some v∧R e s.next a v:=fun j a hj=>by
  have:=h8 _ _ hj
  rwa [show o/size*size+(o% size+j)=o+j by have:=Nat.div_add_mod o size;rw[Nat.mul_comm]at this;omega]at this
 rcases hv with⟨qb,k,hs,rfl⟩|⟨qb,hs⟩
 ·rw[qb]at hg;have bu:oO (l.drop (o% size)) (aN B t)=some k:=by rw[←xL];exact hs
  obtain⟨rfl,iv⟩:=CT bu;rw[List.length_drop]at iv;have hlen:((cs.toList.drop o).take (aN B t)).length=aN B t:=by
   have hlast:∀j,j<aN B t→o+j<cs.size:=fun j hj=>by
    have vr:o% size+j<l.length:=by omega
    obtain⟨_,v,hv,_⟩:=hat j _ (List.getElem?_eq_getElem vr);exact(Array.getElem?_eq_some_iff.1 hv).1
   rw[List.length_take,List.length_drop,Array.length_toList];rcases Nat.eq_zero_or_pos (aN B t)with h0|h0
   ·omega
   ·have:=hlast (aN B t-1) (by omega);omega
  refine⟨.agg ((cs.toList.drop o).take (aN B t)).toArray,?_,_,rfl,?_⟩
  ·refine run_loadAt_mid w (e.σ b) o t _ d (fun j v hj=>?_) hu (by cases d<;>first|rfl|cases hg) (by rw[hi,hlen,hz];rfl);rw[sQ h1];rw[List.getElem?_take]at hj;split at hj
   ·rw[List.getElem?_drop,Array.getElem?_toList]at hj;exact hj
   ·cases hj
  ·refine RL.mk ?_ fun j a v hj hv=>?_
   ·rw[List.length_take,List.length_drop];have:((cs.toList.drop o).take (aN B t)).toArray.toList.length=aN B t:=hlen;rw[this];omega
   ·rw[List.getElem?_take]at hj;split at hj
    ·rename_i hlt;rw[List.getElem?_drop]at hj;obtain⟨_,v',hv',hR⟩:=hat j a hj;have WA:((cs.toList.drop o).take (aN B t))[j]? =some v:=hv;rw[List.getElem?_take,if_pos hlt,List.getElem?_drop,Array.getElem?_toList,hv']at WA;cases WA;exact hR
    ·cases hj
 ·rw[qb]at hg;rw[qZ]at hs;obtain⟨_,v',hv',hR⟩:=hat 0 v hs;refine⟨v',?_,hR⟩;have hagg:(isAgg t).run P w=.ok false w:=by
   exact IV
  have hc:w.cell? ⟨e.σ b,o,none⟩=some v':=by rw[sQ h1];exact hv'
  simp[Instr.loadAt,Instr.sureAddr,loadVar,hagg,hc]
theorem ae5 [FX](ht:bS P B)(hr:aZ e s w)(hm:aY e s.next ns tm a){t:TypeId}{x:Operand}(ho:o.op=.load t x)(hk:eD B t=true)(h:qk (ev (mv ns x) tm) (iS B t) (aN B t) s=.val v s'):dU P e s w (execOp a.eval o) v s':=by
 obtain⟨rfl,z,h1,h2⟩:=Us ht hr hk (cQ hm x) h;refine dh hr ?_ h2;unfold execOp;rw[ho];simp only[Sem.run_bind];rw[h1];rfl
theorem IY{x:AV}{u:Value}(hR:R e q x u)(h:iE x=true):u.oneCell'=true:=by
 cases x<;>first|(cases h;done)|skip
 all_goals unfold R at hR
 all_goals first|(obtain⟨_,rfl⟩:=hR)|(obtain⟨_,_,rfl,_⟩:=hR)|(obtain⟨_,rfl,_⟩:=hR)|(obtain⟨_,_,rfl⟩:=hR)|(cases hR)
 all_goals first|rfl|skip
 cases u<;>first|rfl|(cases h;done)
theorem sP [FX]{x:AV}{u:Value}(hR:R e q x u)(h:∀a∈cellsOf x,iE a=true):RL e q (cellsOf x) u.cells.toList:=by
 cases x with
 |agg l=>obtain⟨cs,rfl,h1⟩:=hR;exact h1
 |_=>
  have h1:=IY hR (h _ (List.mem_singleton.2 rfl));have h2:u.cells.toList=[u]:=by cases u<;>first|rfl|(cases h1;done)
  rw[h2];exact⟨_,_,rfl,hR,rfl⟩
theorem oD [FX]:∀{l:List AV},fL l=true→∀a∈l,iE a=true
 |[],_,a,ha=>(by cases ha)
 |b::l,h,a,ha=>by
  obtain⟨h1,h2⟩:=ec (show and (iE b) (fL l)=true from h);rcases List.mem_cons.1 ha with rfl|ha
  ·exact h1
  ·exact oD h2 a ha
theorem Vn:∀(v l:List AV) (j:Nat),(lL v l)[j]? =if j<v.length∧j<l.length then v[j]? else l[j]?
 |[],l,j=>by rw[show lL [] l=l from rfl];simp
 |a::v,[],j=>by rw[show lL (a::v) []=[]from rfl];simp
 |a::v,b::l,0=>by rw[show lL (a::v) (b::l)=a::lL v l from rfl];simp
 |a::v,b::l,j+1=>by
  rw[show lL (a::v) (b::l)=a::lL v l from rfl,List.getElem?_cons_succ,Vn v l j];simp
theorem Vo:∀(v l:List AV),(lL v l).length=l.length
 |[],l=>rfl
 |a::v,[]=>rfl
 |a::v,b::l=>by rw[show lL (a::v) (b::l)=a::lL v l from rfl,List.length_cons,Vo v l];rfl
theorem IU [FX](v:List AV):∀(o:Nat) (l:List AV) (j:Nat),(jU v o l)[j]? =if o≤j∧j<o+v.length∧j<l.length then v[j-o]? else l[j]?
 |0,l,j=>by rw[show jU v 0 l=lL v l from rfl,Vn];simp
 |o+1,[],j=>by rw[show jU v (o+1) []=[]from rfl];simp
 |o+1,a::l,0=>by rw[show jU v (o+1) (a::l)=a::jU v o l from rfl];simp
 |o+1,a::l,j+1=>by
  rw[show jU v (o+1) (a::l)=a::jU v o l from rfl,List.getElem?_cons_succ,IU v o l j,List.length_cons,List.getElem?_cons_succ];by_cases h:o≤j∧j<o+v.length∧j<l.length
  ·rw[if_pos h,if_pos (by omega),show j+1-(o+1)=j-o by omega]
  ·rw[if_neg h,if_neg (by omega)]
theorem IT [FX](v:List AV):∀(o:Nat) (l:List AV),(jU v o l).length=l.length
 |0,l=>Vo v l
 |o+1,[]=>rfl
 |o+1,a::l=>by rw[show jU v (o+1) (a::l)=a::jU v o l from rfl,List.length_cons,IT v o l];rfl
theorem CW{b:Nat}{t:TypeId}{fz:Nat×Nat}:∀(vs:List Value) (o:Nat) (w:World) (cs:Array Value),w.heap[b]? =some (.cells cs t fz)→
 ∃cs',(w.setCells b o vs).heap=w.heap.setIfInBounds b (.cells cs' t fz)∧cs'.size=cs.size∧(∀j,cs'[j]? =if o≤j∧j<o+vs.length∧j<cs.size then vs[j-o]? else cs[j]?)∧(w.setCells b o vs).os=w.os∧(w.setCells b o vs).tape=w.tape∧(w.setCells b o vs).output=w.output
 |[],o,w,cs,h=>by
  refine⟨cs,?_,rfl,fun j=>by simp;omega,rfl,rfl,rfl⟩;rw[World.setCells];apply Array.ext_getElem?;intro i;rw[Array.getElem?_setIfInBounds];split
  ·rename_i hb;subst hb;split
   ·exact h
   ·rename_i hlt;rw[Array.getElem?_eq_none (by omega)]
  ·rfl
 |v::vs,o,w,cs,h=>by
  have h1:(w.setCell ⟨b,o,none⟩ v).heap=w.heap.setIfInBounds b (.cells (cs.setIfInBounds o v) t fz):=by
   apply Array.ext_getElem?;intro i;unfold World.setCell;rw[Array.getElem?_modify,Array.getElem?_setIfInBounds];by_cases hb:b=i
   ·subst hb;simp[h];exact(Array.getElem?_eq_some_iff.1 h).1
   ·simp[hb]
  have h2:(w.setCell ⟨b,o,none⟩ v).heap[b]? =some (.cells (cs.setIfInBounds o v) t fz):=by
   rw[h1,Array.getElem?_setIfInBounds];simp;exact(Array.getElem?_eq_some_iff.1 h).1
  obtain⟨cs',h3,h4,h5,h6,h7,h8⟩:=CW vs (o+1) (w.setCell ⟨b,o,none⟩ v) _ h2;refine⟨cs',?_,by rw[h4];simp,fun j=>?_,h6,h7,h8⟩
  ·rw[World.setCells,h3,h1];apply Array.ext_getElem?;intro i;simp only[Array.getElem?_setIfInBounds,Array.size_setIfInBounds];split<;>rfl
  ·rw[h5 j,Array.size_setIfInBounds,Array.getElem?_setIfInBounds];by_cases hj:o=j
   ·subst hj;rw[if_neg (by omega),if_pos rfl];by_cases hs:o<cs.size
    ·rw[if_pos hs,if_pos (by simp;omega)];simp
    ·rw[if_neg hs,if_neg (by omega)];rw[Array.getElem?_eq_none (by omega)]
   ·rw[if_neg hj];by_cases hc:o+1≤j∧j<o+1+vs.length∧j<cs.size
    ·rw[if_pos hc,if_pos (by simp;omega),show j-o=(j-(o+1))+1 by omega];simp
    ·rw[if_neg hc,if_neg (by simp;omega)]
theorem af1 [FX]{p x:AV}{m:Nat}(h:zd p m x s=.val v s'):∃b o c n size t r l,p=.ptr b o∧s.get b=some (.cells c n size t r)∧c.at_ (o/size)=some l∧v=und∧s'=s.put b (.cells (c.set (o/size) (jU (cellsOf x) (o% size) l)) n size t r)∧fL (cellsOf x)=true∧(cellsOf x).length=m∧o% size+m≤size:=by
 cases p<;>first|(cases h;done)|skip
 rename_i b o
 replace h:KJ (s.get b) m b o x s=.val v s':=h
 cases hg:s.get b with
 |none=>rw[hg]at h;cases h
 |some ob=>
  rw[hg]at h;cases ob<;>first|(cases h;done)|skip
  rename_i c n size t r;refine⟨b,o,c,n,size,t,r,?_⟩;rw[hg]
  replace h:KI (c.at_ (o/size)) c n size t r b o (cellsOf x) m s=.val v s':=h
  cases hl:c.at_ (o/size)with
  |none=>rw[hl]at h;cases h
  |some l=>
   rw[hl]at h
   replace h:Bool.rec (.bad 111) (.val und (s.put b (.cells (c.set (Nat.div o size) (jU (cellsOf x) (Nat.mod o size) l)) n size t r))) (and (fL (cellsOf x)) (and (Nat.beq (cK (cellsOf x)) m) (Nat.ble (Nat.add (Nat.mod o size) m) size)))=Nx.val v s':=h
   cases hc:and (fL (cellsOf x)) (and (Nat.beq (cK (cellsOf x)) m) (Nat.ble (Nat.add (Nat.mod o size) m) size))with
   |false=>rw[hc]at h;cases h
   |true=>
    rw[hc]at h;obtain⟨h1,h2⟩:=ec hc;obtain⟨h2,h3⟩:=ec h2;have h2:=Nat.eq_of_beq_eq_true h2;rw[gQ]at h2;injection h with h4 h5
    exact⟨l,rfl,rfl,rfl,h4.symm,h5.symm,h1,h2,Nat.le_of_ble_eq_true h3⟩
theorem Dm.free{fz:Nat×Nat}{n:Nat}(h:Dm fz n){o:Nat}(ho:o<n):(decide (fz.1≤o)&&decide (o<fz.2))=false:=by
 rcases h with rfl|rfl
 ·simp
 ·simp;omega
theorem af2 [FX](ht:bS P B)(hr:aZ e s w){t:TypeId}(hk:eD B t=true){p x:AV}{u z:Value}(hp:R e s.next p u)(hx:R e s.next x z)(h:zd p (aN B t) x s=.val v s'):v=und∧∃w',(Instr.storeAt t u z).run P w=.ok () w'∧aW e s w e s' w':=by
 obtain⟨ti,d,hi,hz,hu,hg,_⟩:=ht.info hk;obtain⟨b,o,c,m,size,et,r,l,rfl,hb,hl,rfl,rfl,hone,hlen,hfit⟩:=af1 h;refine⟨rfl,?_⟩;obtain⟨cs,fz,h1,h2,h3,h4,h5⟩:=hr.cells hb;obtain⟨h6,h7,h8⟩:=h5 _ _ hl;obtain⟨hbk,rfl⟩:=hp;have hone:=oD hone;have hcs:=sP hx hone;have hcl:z.cells.toList.length=aN B t:=by rw[hcs.len,hlen]
 have hdm:o/size*size+o% size=o:=by have:=Nat.div_add_mod o size;rw[Nat.mul_comm]at this;omega
 have hsz:∀j,j<aN B t→o+j<cs.size:=fun j hj=>by
  have vr:o% size+j<l.length:=by omega
  obtain⟨_,v,hv,_⟩:=h8 _ _ (List.getElem?_eq_getElem vr);have:=(Array.getElem?_eq_some_iff.1 hv).1;omega
 obtain⟨cs',h9,h10,h11,h12,h13,h14⟩:=CW z.cells.toList o w cs h1;refine⟨w.setCells (e.σ b) o z.cells.toList,?_,aW.put hr hb _ _ ?_ h9 h12 h13 h14⟩
 ·have hst:=run_storeCells_cells (P:=P) (e.σ b) o z.cells.toList 0 w (fun j hj=>by rw[Nat.add_zero,sQ h1,Array.getElem?_eq_getElem (hsz j (by omega))];rfl)
   (fun j hj=>by
    have:=h2.free (hsz j (by omega));rw[Nat.add_zero];unfold World.frozen?;simp only[h1];exact this)
   (fun v hv=>by
    obtain⟨j,hj,hjv⟩:=List.mem_iff_getElem.1 hv;obtain⟨v',hv',hR⟩:=hcs.at (List.getElem?_eq_getElem (show j<(cellsOf x).length by rw[hcl]at hj;omega));rw[List.getElem?_eq_getElem hj,hjv]at hv';cases hv';exact IY hR (hone _ (List.getElem_mem _)))
  rw[Nat.add_zero]at hst;have ahv:z.cells.size=ti.size:=by rw[←hz,←hcl];simp
  simp[Instr.storeAt,Instr.sureAddr,storeVar,sizeOf,typeInfo,hi,ahv];rw[←hst]
 ·refine⟨cs',fz,rfl,by rw[h10];exact h2,by rw[h10];exact h3,h4,fun i k hik=>?_⟩;rw[T.at_set]at hik;by_cases hii:o/size=i
  ·subst hii;rw[if_pos rfl]at hik;cases hik;refine⟨h6,by rw[IT];exact h7,fun j a hj=>?_⟩;rw[IU]at hj;by_cases hc:o% size≤j∧j<o% size+(cellsOf x).length∧j<l.length
   ·rw[if_pos hc]at hj;obtain⟨v',hv',hR⟩:=hcs.at hj;refine⟨hone _ (List.mem_of_getElem? hj),v',?_,hR⟩;have:=hsz (j-o% size) (by omega);rw[h11,if_pos (by omega),show o/size*size+j-o=j-o% size by omega];exact hv'
   ·rw[if_neg hc]at hj;obtain⟨h15,v',hv',hR⟩:=h8 j a hj;refine⟨h15,v',?_,hR⟩;have:=(List.getElem?_eq_some_iff.1 hj).1;rw[h11,if_neg (by omega)];exact hv'
  ·rw[if_neg hii]at hik;obtain⟨h15,h16,h17⟩:=h5 i k hik;refine⟨h15,h16,fun j a hj=>?_⟩;obtain⟨h18,v',hv',hR⟩:=h17 j a hj;refine⟨h18,v',?_,hR⟩;have hjl:=(List.getElem?_eq_some_iff.1 hj).1;rw[h11,if_neg ?_]
   ·exact hv'
   ·rintro⟨h19,h20,h21⟩;rw[hcl]at h20;rcases Nat.lt_trichotomy i (o/size)with hlt|heq|hgt
    ·have:(i+1)*size≤o/size*size:=Nat.mul_le_mul_right _ hlt;exact xM
    ·exact hii heq.symm
    ·have:(o/size+1)*size≤i*size:=Nat.mul_le_mul_right _ hgt;exact xM
theorem ae6 [FX](ht:bS P B)(hr:aZ e s w)(hm:aY e s.next ns tm a){t:TypeId}{x y:Operand}(ho:o.op=.store t x y)(hk:eD B t=true)(h:zd (ev (mv ns x) tm) (aN B t) (ev (mv ns y) tm) s=.val v s'):dU P e s w (execOp a.eval o) v s':=by
 obtain⟨rfl,w',h1,h2⟩:=af2 ht hr hk (cQ hm x) (cQ hm y) h;refine⟨e,w',.skip,?_,h2,.inr ⟨rfl,rfl⟩⟩;unfold execOp;rw[ho];simp only[Sem.run_bind];rw[h1];rfl
end
section
variable {P:Program} {B:Tb} {e:En} {s s':St} {w:World} {ns:NS} {tm:Tm} {a:Act} {o:Oper} {v:AV} {q:Nat}
def Rows(e:En)(k:Nat)(c:T (List AV))(n size:Nat)(cs:Array Value):Prop:=∀i l,c.at_ i=some l→i<n∧l.length=size∧∀j a,l[j]? =some a→iE a=true∧∃v,cs[i*size+j]? =some v∧R e k a v
theorem Rows.ext{e e':En}{k k':Nat}(hx:cW k e e')(hk:k≤k'){c:T (List AV)}{n size:Nat}{cs:Array Value}(h:Rows e k c n size cs):Rows e' k' c n size cs:=fun i l hi=>by
 obtain⟨h1,h2,h3⟩:=h i l hi;refine⟨h1,h2,fun j a hj=>?_⟩;obtain⟨h4,v,h5,h6⟩:=h3 j a hj;exact⟨h4,v,h5,h6.ext hx hk⟩
theorem aW.cells [FX](hr:aZ e s w){c:T (List AV)}{n size t κ:Nat}{room:Bool}{cs:Array Value}(h3:cs.size=(if room=true then κ else n)*size)(h4:room=true→n≤κ)(h5:Rows e s.next c n size cs):
 aW e s w (e.up s.next w.heap.size κ) (s.add (.cells c n size t room)) (w.alloc (.cells cs t (0,0))):=by
 have hκ:(e.up s.next w.heap.size κ).κ s.next=κ:=by simp[En.up]
 exact aW.new hr _ _ _ ⟨cs,(0,0),rfl,.inl rfl,by rw[hκ];exact h3,by rw[hκ];exact h4,h5.ext (En.up_ext _ _ _ _) (Nat.le_succ _)⟩
theorem af3(l:List AV)(i:Nat):(qq l).at_ i=if i=0 then some l else none:=by
 cases i with
 |zero=>rfl
 |succ i=>
  unfold T.at_;rw[xJ];rw[if_neg (by omega)];unfold qq;rw[T.get_cons];split<;>rfl
theorem af4 [FX]{l:List AV}{vs:List Value}(hl:RL e q l vs)(h1:∀a∈l,iE a=true):Rows e q (qq l) 1 l.length vs.toArray:=fun i k hi=>by
 rw[af3]at hi;split at hi
 ·cases hi;rename_i h0;subst h0;refine⟨Nat.zero_lt_one,rfl,fun j a hj=>⟨h1 a (List.mem_of_getElem? hj),?_⟩⟩;obtain⟨v,h2,h3⟩:=hl.at hj;exact⟨v,by rw[Nat.zero_mul,Nat.zero_add];simpa using h2,h3⟩
 ·cases hi
theorem Ud{w':World}(h:w'=w)(κ:Nat):R (e.up s.next w.heap.size κ) (s.next+1) (.ptr s.next 0) (.pointer (some ⟨w'.heap.size,0,none⟩)):=by
 subst h;exact⟨⟨Nat.lt_succ_self _,by simp[En.up]⟩,by simp[En.up]⟩
theorem ra{c:Bool}{n:Nat}{x:Nx}{v:AV}{s':St}(h:(Bool.rec (.bad n) x c:Nx)=.val v s'):c=true∧x=.val v s':=by
 cases c with
 |false=>cases h
 |true=>exact⟨rfl,h⟩
theorem af5 [FX]{l:List AV}{size t:Nat}(h:tN l size t s=.val v s'):fL l=true∧l.length=size∧v=.ptr s.next 0∧s'=s.add (.cells (qq l) 1 size t false):=by
 obtain⟨hc,h⟩:=ra h;obtain⟨h1,h2⟩:=ec hc;have h2:=Nat.eq_of_beq_eq_true h2;rw[gQ]at h2;injection h with h3 h4
 exact⟨h1,h2,h3.symm,h4.symm⟩
theorem Vp [FX](hr:aZ e s w){l:List AV}{size:Nat}{t:TypeId}{u:Value}(hl:(∀a∈l,iE a=true)→RL e s.next l u.cells.toList)(h:tN l size t s=.val v s'):∃e' w' n,((do pure (.pointer (some (←newVar t u))):Sem Value)).run P w=.ok n w'∧aW e s w e' s' w'∧R e' s'.next v n:=by
 obtain⟨h1,h2,rfl,rfl⟩:=af5 h;have h1:=oD h1;have hl:=hl h1;refine⟨e.up s.next w.heap.size 0,w.alloc (.cells u.cells t (0,0)),.pointer (some ⟨w.heap.size,0,none⟩),?_,?_,Ud rfl 0⟩
 ·simp[newVar,newRow]
 ·have:=aW.cells (t:=t) (κ:=0) (room:=false) hr (c:=qq l) (n:=1) (size:=size) (cs:=u.cells.toList.toArray) (by have:=hl.len;simp at this;simp[this,h2]) (fun h=>by cases h) (by rw[←h2];exact af4 hl h1);simpa using this
theorem IR [FX](ht:bS P B){t:TypeId}{l:List AV}(h:hH B t=some l):∃u,(∀w,(zeroValue t).run P w=.ok u w)∧∀{e:En} {q:Nat},(∀a∈l,iE a=true)→RL e q l u.cells.toList:=by
 unfold hH zero at h;cases hi:B.ty.at_ t with
 |none=>rw[hi]at h;cases h
 |some i=>
  rw[hi]at h;obtain⟨ti,h1,_,_,_,_,_,_,h2⟩:=ht.ty t i hi
  replace h:Option.rec none (fun z=>some (cellsOf z)) i.zero=some l:=h
  cases hz:i.zero with
  |none=>rw[hz]at h;cases h
  |some z=>
   rw[hz]at h;cases h;obtain⟨v,h3,rfl⟩:=h2 z hz;exact⟨v,fun w=>by simp[zeroValue,typeInfo,h1,h3],fun h=>sP (CU v) h⟩
theorem ae3 [FX](ht:bS P B)(hr:aZ e s w){t:TypeId}(ho:o.op=.alloc t)(h:Ld (hH B t) (aN B t) t s=.val v s'):dU P e s w (execOp a.eval o) v s':=by
 cases hz:hH B t with
 |none=>rw[hz]at h;cases h
 |some l=>
  rw[hz]at h;obtain⟨u,h1,h2⟩:=IR ht hz;obtain⟨e',w',n,h3,h4,h5⟩:=Vp (P:=P) hr (u:=u) h2 (show tN l (aN B t) t s=.val v s' from h);refine⟨e',w',.value n,?_,h4,.inl ⟨n,rfl,h5⟩⟩;unfold execOp;rw[ho];simp only[Instr.alloc,Sem.run_bind,h1,Result.andThen_ok]at h3 ⊢;rw[h3];rfl
theorem ae4 [FX](hr:aZ e s w)(hm:aY e s.next ns tm a){t:TypeId}{x:Operand}(ho:o.op=.box t x){size:Nat}(h:tN (cellsOf (ev (mv ns x) tm)) size t s=.val v s'):dU P e s w (execOp a.eval o) v s':=by
 obtain⟨e',w',n,h3,h4,h5⟩:=Vp (P:=P) hr (u:=a.eval x) (sP (cQ hm x)) h;refine⟨e',w',.value n,?_,h4,.inl ⟨n,rfl,h5⟩⟩;unfold execOp;rw[ho];simp only[Instr.box,Sem.run_bind]at h3 ⊢;rw[h3];rfl
theorem Vq(z:List AV):∀(n i:Nat),(mI z n).at_ i=if i<n then some z else none
 |0,i=>rfl
 |n+1,i=>by
  rw[show mI z (n+1)=(mI z n).set n z from rfl,T.at_set,Vq z n i];by_cases h:n=i
  ·rw[if_pos h,if_pos (by omega)]
  ·rw[if_neg h];by_cases h2:i<n
   ·rw[if_pos h2,if_pos (by omega)]
   ·rw[if_neg h2,if_neg (by omega)]
def uY(z:Array Value)(n:Nat):Array Value:=(Array.range n).map (fun i=>z[i% z.size]!)
theorem Tx [FX]{z:List AV}{vs:Array Value}(m:Nat)(hl:RL e q z vs.toList)(h1:∀a∈z,iE a=true):Rows e q (mI z m) m z.length (uY (if m*z.length=0 then#[]else vs) (m*z.length)):=fun i l hi=>by
 rw[Vq]at hi;split at hi;case isFalse=>cases hi
 rename_i him;cases hi;refine⟨him,rfl,fun j a hj=>⟨h1 a (List.mem_of_getElem? hj),?_⟩⟩;obtain⟨v,h2,h3⟩:=hl.at hj;have hjl:=(List.getElem?_eq_some_iff.1 hj).1;have hvs:vs.size=z.length:=by rw[←hl.len];simp
 have hlt:i*z.length+j<m*z.length:=by
  have:(i+1)*z.length≤m*z.length:=Nat.mul_le_mul_right _ him;exact xM
 refine⟨v,?_,h3⟩;rw[if_neg (by omega)];unfold uY;rw[Array.getElem?_map,Array.getElem?_range,if_pos hlt];simp only[Option.map_some];rw[hvs,Nat.add_comm,Nat.add_mul_mod_self_right,Nat.mod_eq_of_lt hjl];rw[Array.getElem?_toList]at h2;rw[getElem!_def,h2]
theorem Tz(z:Array Value)(n:Nat):(uY z n).size=n:=by simp[uY]
theorem uZ{w':World}(h:w'=w)(κ n:Nat){c:Cp}{m:Nat}(hc:c.cap κ=m)(hf:c.fits n κ):R (e.up s.next w.heap.size κ) (s.next+1) (.slc s.next 0 n c) (.slice (some ⟨w'.heap.size,0,none⟩) n m):=by
 subst h;exact⟨⟨⟨Nat.lt_succ_self _,by simp[En.up]⟩,by simpa[En.up]using hf⟩,by simp[En.up,hc]⟩
theorem CZ{d:TypeDesc}{m m':cg}(h:vQ B d m=m')(hm:m'≠.none):∃el,d=.slice el∧eD B el=true∧m'=m:=by
 cases d<;>first|(exact absurd h.symm hm)|skip
 rename_i el;refine⟨el,rfl,?_⟩
 replace h:Bool.rec .none m (eD B el)=m':=h
 cases hk:eD B el with
 |false=>rw[hk]at h;exact absurd h.symm hm
 |true=>rw[hk]at h;exact⟨rfl,h.symm⟩
theorem np(ht:bS P B){t:TypeId}(hk:eD B t=true):∃ti,P.info? t=some ti∧aN B t=ti.size∧rO B t=ti.bytes:=by
 unfold eD at hk;unfold aN rO;cases hi:B.ty.at_ t with
 |none=>rw[hi]at hk;cases hk
 |some i=>
  obtain⟨ti,h1,h2,_,_,_,_,h3,_⟩:=ht.ty t i hi;exact⟨ti,h1,h2,h3⟩
theorem af6 [FX]{x y:AV}{z:Option (List AV)}{size bytes el:Nat}(h:zp x y z size bytes el s=.val v s'):∃k n k' m l,x=.int k (.ofNat n)∧y=.int k' (.ofNat m)∧z=some l∧n≤m∧m≤1048576∧bytes≤1048576∧fL l=true∧l.length=size∧v=.slc s.next 0 n (.ex m)∧s'=s.add (.cells (mI l m) m size el false):=by
 unfold zp at h;split at h<;>first|(cases h;done)|skip
 rename_i k n k' m;cases z with
 |none=>cases h
 |some l=>
  obtain⟨hc,h⟩:=ra (show(Bool.rec (.bad 10) (oP s (.cells (mI l m) m size el false) n (.ex m)) (and (and (Nat.ble n m) (and (Nat.ble m 1048576) (Nat.ble bytes 1048576))) (and (fL l) (Nat.beq (cK l) size))):Nx)=.val v s' from h);obtain⟨h1,h2⟩:=ec hc;obtain⟨h1,h3⟩:=ec h1;obtain⟨h3,h4⟩:=ec h3;obtain⟨h5,h6⟩:=ec h2;have h6:=Nat.eq_of_beq_eq_true h6;rw[gQ]at h6;injection h with h7 h8
  exact⟨k,n,k',m,l,rfl,rfl,rfl,Nat.le_of_ble_eq_true h1,Nat.le_of_ble_eq_true h3,Nat.le_of_ble_eq_true h4,h5,h6,h7.symm,h8.symm⟩
theorem Vr{n:Nat}(h:n≤1048576):IntKind.i64.wrap (n:Int)=n:=by
 simp only[IntKind.wrap,IntKind.bits,IntKind.signed];simp;omega
theorem afc [FX](ht:bS P B)(hr:aZ e s w)(hm:aY e s.next ns tm a){t:TypeId}{x y:Operand}(ho:o.op=.makeSlice t x y){el:Nat}(hd:dsc B t=.slice el)(hk:eD B el=true)(h:zp (ev (mv ns x) tm) (ev (mv ns y) tm) (hH B el) (aN B el) (rO B el) el s=.val v s'):dU P e s w (execOp a.eval o) v s':=by
 obtain⟨k,n,k',m,l,h1,h2,h3,h4,h5,h6,h7,h8,rfl,rfl⟩:=af6 h;have hx:=cQ hm x;have hy:=cQ hm y;rw[h1]at hx;rw[h2]at hy;have hx:a.eval x=.int k (n:Int):=hx;have hy:a.eval y=.int k' (m:Int):=hy;obtain⟨u,h9,h10⟩:=IR ht h3;have h11:=oD h7;have h10:=h10 (e:=e) (q:=s.next) h11;obtain⟨ti,hi,hz,hb⟩:=np ht hk;have hu:=ht.dsc hd (by intro hh;cases hh);have hbm:ti.bytes*m≤2^ 48:=by
  have:ti.bytes*m≤1048576*1048576:=Nat.mul_le_mul (by omega) (by omega);omega
 refine⟨e.up s.next w.heap.size 0,w.alloc (.cells (uY (if m*l.length=0 then#[]else u.cells) (m*l.length)) el (0,0)),.value (.slice (some ⟨w.heap.size,0,none⟩) n m),?_,?_,.inl ⟨_,rfl,uZ rfl 0 n rfl trivial⟩⟩
 ·unfold execOp;rw[ho];simp only[Instr.makeSlice,Sem.run_bind,run_underlying hu,Result.andThen_ok,hx,hy,asInt,asIntOf,Sem.run_pure,typeInfo,Vr (show n≤1048576 by omega),Vr h5];have akc:((ti.bytes:Int)*(m:Int))≤2^ 48:=by rw[←Int.natCast_mul];omega
  have hcond:¬((decide ((m:Int)<0)||decide ((ti.bytes:Int)*(m:Int)>2^ 48)||decide ((n:Int)<0)||decide ((n:Int)>(m:Int)))=true):=by
   simp only[Bool.or_eq_true,decide_eq_true_eq];omega
  simp only[run_program,hi,Result.andThen_ok,Sem.run_pure];rw[if_neg hcond];simp only[Sem.run_bind,run_askRoom,Result.andThen_ok,sizeOf,typeInfo,run_program,hi,Sem.run_pure,Int.toNat_natCast];have hsz:ti.size=l.length:=by rw[←hz,h8]
  rw[hsz];by_cases h0:m*l.length=0
  ·rw[if_pos h0,if_pos h0];exact IS
  ·rw[if_neg h0,if_neg h0];simp only[Sem.run_bind,Sem.run_pure,Result.andThen_ok,newRow,run_newObj,h9];rfl
 ·rw[←h8];exact aW.cells hr (by rw[Tz];simp) (fun h=>by cases h) (Tx m h10 h11)
end
end Go.Proofs.YtlpombjidhloiaaGreat.Eng
