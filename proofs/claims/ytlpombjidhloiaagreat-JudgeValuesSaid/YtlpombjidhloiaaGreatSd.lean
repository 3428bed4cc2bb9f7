/- Rows of proofs that stand in several places. Condition: what each theorem says. -/
import GoSem.Step
namespace Go.Proofs
variable {A:Prop}
theorem Jc(h:A:=by
 unfold execOp;rw[ho];simp only[resolve,hcc,xN h1,List.map_toArray,List.map_cons,List.map_nil,Sem.run_bind,Sem.run_pure,Result.andThen_ok,invoke,builtin,hz]):A:=h
theorem PS(h:A:=by
 generalize bE T a.type=p;generalize bE T b.type=q;generalize(decide (a.type≠5)||decide (b.type=5)||eh T a.val (aP T b.type))=r;generalize(decide (b.type≠5)||decide (a.type=5)||eh T b.val (aP T a.type))=s;cases p<;>cases q<;>cases r<;>cases s<;>rfl):A:=h
theorem MQ(h:A:=by
 split at h
 ·rename_i tm s;injection h with h
  unfold FT at h;injection h with h1 h
  injection h with h2 h
  injection h with h3 h
  injection h with h4 h
  injection h with h5 h
  injection h with h6 h7
  exact⟨tm,s,rfl,h1,h2,h3,Nat.le_of_ble_eq_true h4,h5,h6,h7⟩
 ·cases h):A:=h
theorem Jv(h:A:=by
 exact⟨z,by rw[Sem.run_bind,Ju (fun x hx=>by cases hx) (fun hx=>by cases hx)];exact h1,h2⟩):A:=h
theorem mB(h:A:=by
 exact absurd h (by decide)):A:=h
theorem Dl(h:A:=by
 have h1:=congrArg (List.drop 1) hl;rw[List.drop_drop]at h1;exact h1):A:=h
theorem Di(h:A:=by
 rw[List.drop_eq_nil_of_le (by simpa using h1)]at hl;cases hl):A:=h
theorem IV(h:A:=by
 unfold isAgg;rw[Sem.run_bind,run_underlying hu w];cases d<;>first|rfl|cases hg):A:=h
theorem Qm(h:A:=by
 simp at h1 h2;rcases hb with hb|hb<;>rw[hb]<;>simp[cR,hw (by omega) (by omega)]<;>exact⟨by simp,by rw[hr];exact h1,by rw[hr];exact h2⟩):A:=h
theorem IS(h:A:=by
 simp only[Sem.run_bind,Sem.run_pure,Result.andThen_ok,newRow,run_newObj];rfl):A:=h
theorem Vm(h:A:=by
 rw[Sem.run_bind,Ju (fun x hx=>by cases hx) (fun hx=>by cases hx)];simp[binOp,Op.complexOp,Op.Complex.cmp,Op.floatCmp,asBool,Op.floatEq]):A:=h
theorem TX(h:A:=by
 rw[show u=_ from hx,show z=_ from hy];rename_i n1 n2;have h3:n1=n2:=eq_of_beq (show(n1==n2)=true from h);subst h3;simp[Instr.sameBits]):A:=h
theorem TQ(h:A:=by
 apply List.map_congr_left;intro b hb;have:=h1 b hb;simp only[Function.comp];rw[UInt8.toNat_ofNat'];congr 1;rw[Nat.mod_eq_of_lt (by omega)];rfl):A:=h
theorem xv(h:A:=by
 exact⟨by rw[HV.out];rfl,HB.out _⟩):A:=h
theorem wY(h:A:=by
 exact⟨_,_,rfl,h1,Nat.le_refl _⟩):A:=h
theorem CX(h:A:=by
 simp[Builtin.len_,run_underlying hu,hx,goInt]):A:=h
theorem GZ(h:A:=by
 exact⟨by simp,by rw[hr];exact h1,by rw[hr];exact h2⟩):A:=h
theorem Dk(h:A:=by
 rw[List.getElem?_drop]at h1;simpa using h1):A:=h
theorem UW(h:A:=by
 exact⟨rfl,rfl,rfl,Array.size_setIfInBounds,fun j hj=>Array.getElem?_setIfInBounds_ne (Ne.symm hj)⟩):A:=h
theorem Ui(h:A:=by
 rw[Array.toList_append,Array.toList_append,Array.toList_map,List.append_assoc];exact h2.app (hl.app h3)):A:=h
theorem xM(h:A:=by
 rw[Nat.succ_mul]at this;omega):A:=h
theorem MY(h:A:=by
 have h:R e6 s5.next (ev (bM dY 15) JC) (a6.tmps.getD 15 undef):=t6.2 15;rw[y15]at h;exact h):A:=h
theorem Vk(h:A:=by
 cases dd<;>first|rfl|exact absurd (.inl ⟨_,rfl⟩) hs|exact absurd (.inr ⟨_,rfl⟩) hs):A:=h
theorem Ua(h:A:=by
 cases X<;>first|(cases h;done)|skip
 injection h with h1 h2
 exact⟨_,_,rfl,h1.symm,h2⟩):A:=h
theorem Ts(h:A:=by
 rw[get_setP];by_cases h:k=j
 ·subst h;simp
 ·rw[if_neg h,if_neg (fun e=>h (xK e))]):A:=h
theorem Qe(h:A:=by
 exact⟨fun ho=>absurd ho (by decide +kernel),fun hk=>absurd hk (by decide +kernel)⟩):A:=h
theorem Ux(h:A:=by
 obtain⟨cs,_,h2⟩:=h;obtain⟨cs',h3,h4⟩:=h';exact⟨cs',h3,RL.bd h2 h4⟩):A:=h
theorem Hm(h:A:=by
 split
 ·exact eR
 ·exact gS (by decide)):A:=h
theorem BP(h:A:=by
 exact⟨trivial,fun _=>rfl⟩):A:=h
theorem Ug(h:A:=by
 have hne:d≠t:=by rintro rfl;rw[hd]at ht;cases ht
 rw[if_neg hne];rfl):A:=h
theorem Qk(h:A:=by
 rw[Nat.mul_comm,Nat.mul_add_div (by omega),Nat.div_eq_of_lt (by omega)];rfl):A:=h
theorem MM(h:A:=by
 exact XB (show uf s args=some (v,s')from hx) hr hl hf hm hK):A:=h
theorem GW(h:A:=by
 exact⟨trivial,fun h=>absurd rfl h⟩):A:=h
theorem Qq(h:A:=by
 exact g.elems l b _ _ (fun z hz=>hl z (by simp[hz])) (aaY _ _ ha)):A:=h
theorem UG(h:A:=by
 rw[(En.up_ext e _ _ _ b' h1).1,←hk]at he;simp[En.up]at he;omega):A:=h
theorem UH(h:A:=by
 rw[(En.up_ext e _ _ _ b h1).1,←hk']at he;simp[En.up]at he;omega):A:=h
theorem BV(h:A:=by
 exact⟨_,_,rfl,e2,e3⟩):A:=h
theorem IQ(h:A:=by
 rw[if_neg h2,if_neg (by simp;omega)]):A:=h
theorem Ue(h:A:=by
 obtain⟨u,h3,h4⟩:=h.at h1;rw[h2]at h3;cases h3;exact h4):A:=h
theorem UB(h:A:=by
 obtain⟨e',h3,h4⟩:=h2 x hx;exact⟨e',by simp[h3],h4⟩):A:=h
theorem Qp(h:A:=by
 exact RR.need h1.pos fun _=>RR.need h1.pos fun _=>sD _ _):A:=h
end Go.Proofs
