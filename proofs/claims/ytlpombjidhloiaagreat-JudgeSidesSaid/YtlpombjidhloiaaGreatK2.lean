/- separatumlaw25.JudgeSides, whole: the law answers true, and its arguments read as before. Conditions: none but the row's own. -/
import Derived.Test.YtlpombjidhloiaaGreatQvd
import Derived.Test.YtlpombjidhloiaaGreatBbm
import Derived.HandedShaped
namespace Go.Proofs.YtlpombjidhloiaaGreat
open Go.ChangeShapes Go.WideShapes Go.ChangeAt Go.RowKit
set_option maxRecDepth 100000
theorem aec(os:Os)(started:os.Started)(H:Type)(enc:TypeId×Value→H):
 ReturnsInHanded {} Tryz.checked os 5 .any (Rows.judgeSidesSpec.pre6 enc Tryz.prog Tryz.f5 Rows.judgeSidesRow.domain false) (Rows.judgeSidesSpec.post enc Tryz.prog Tryz.f5 false true false false):=by
 refine returnsInHanded_of_change_shaped (C:=Tryz.checked) own started (by kernel_rfl) Tryz.func5
  (ChangeSpec.witness6 (enc:=enc) (C:=Tryz.checked) false ⟨#[],#[.string ⟨#[]⟩,.string ⟨#[]⟩,.int .u8 0],[]⟩ 8 (by kernel_rfl) (by kernel_rfl) (by kernel_rfl) (by kernel_rfl)) ?_
 intro W base args ds gs before yX hW hcnd Kw hsh _;have hval:∀(j:Nat) t v,Tryz.f5.params[j]? =some t→args[j]? =some v→Value.okWide Tryz.prog W .any base t v:=yX;have hW':=hW;obtain⟨p,q,yY,hV,rfl,hfz,hnd⟩:=hW;have hA:DataW.TrodAll enc Tryz.prog W 0 (fun _=>true) true Tryz.f5.params.toList args.toList ds p:=yY;have hsz:(DataW.weightsEach Tryz.prog (Tryz.f5.params.toList++Rows.judgeSidesSpec.plain.varTypes Tryz.prog) (ds++gs)).all (· ≤reachBytes)=true:=Kw;rw[Tryz.params5]at hA hval hsz;obtain⟨v0,Wu,d0,Wv,p0,q0,hargs,rfl,rfl,h0,r0⟩:=trodAll_cons hA;obtain⟨v1,vs1,d1,rK,p1,q1,rfl,rfl,rfl,h1,r1⟩:=trodAll_cons r0;obtain⟨v2,vs2,d2,Ww,p2,q2,rfl,rfl,rfl,h2,r2⟩:=trodAll_cons r1;obtain⟨rfl,rfl,rfl⟩:=trodAll_nil r2;obtain rfl:args=#[v0,v1,v2]:=by cases args;simp_all
 obtain⟨rfl,rfl⟩:=trodVars_none hV;obtain⟨s0,rfl,rfl,rfl,Wx⟩:=Go.ChangeMaps.open_string Tryz.underlying9 (hval 0 9 v0 rfl rfl) h0;obtain⟨⟨a0⟩⟩:=s0;obtain⟨s1,rfl,rfl,rfl,ws1⟩:=Go.ChangeMaps.open_string Tryz.underlying9 (hval 1 9 v1 rfl rfl) h1;obtain⟨⟨a1⟩⟩:=s1;obtain⟨x,rfl,rfl,rfl,wx⟩:=open_int Tryz.underlying5 (hval 2 5 v2 rfl rfl) h2;have bx:=bounds_u8 wx;obtain⟨n,rfl⟩:=Int.eq_ofNat_of_zero_le bx.1;have b0:a0.length≤reachBytes:=sized_string hsz (j:=0) rfl rfl;have b1:a1.length≤reachBytes:=sized_string hsz (j:=1) rfl rfl;obtain⟨m,hm⟩:=Tryz.laysM144.s1_3 W hsh;refine(adC a0 a1 n (by omega) (by have:reachBytes<2^ 47:=reachBytes_lt;omega) W (Gc W hm)).mono fun e W' ⟨he,hb⟩=>?_
 subst he;exact⟨_,rfl,IN hW' hb rfl rfl (by
  rw[Tryz.params5];intro t ht;have h:t=9∨t=5:=by simp at ht;omega
  rcases h with rfl|rfl
  ·exact⟨by kernel_rfl,of_decide_eq_true (by kernel_rfl)⟩
  ·exact⟨by kernel_rfl,of_decide_eq_true (by kernel_rfl)⟩) rfl⟩
theorem xI{a b:Bool}(h1:a=true)(h2:b=true):(a&&b)=true:=by rw[h1,h2];rfl
set_option maxHeartbeats 8000000 in
theorem aed:joinedFacts Tryz.prog 5 Tryz.f5 Rows.judgeSidesSpec Rows.judgeSidesRow=true:=by
 unfold joinedFacts
 repeat' (with_reducible apply xI)
 all_goals as_aux_lemma=>kernel_rfl
theorem judgeSides_said:Rows.JudgeSidesSaid:=
 OpenClaim.holds_of_wide 5 Tryz.f5 rfl rfl rfl rfl rfl rfl rfl ⟨rfl,rfl,rfl,rfl,rfl⟩ rfl rfl rfl rfl rfl (by kernel_rfl) Tryz.func5 aed
  (of_decide_eq_true (by kernel_rfl)) (by unfold Func.isWrapper;first|(rw[if_pos (by decide +kernel)];kernel_rfl)|(rw[if_neg (by decide +kernel)];exact⟨rfl,rfl⟩))
  (fun os started H enc _=>aec os started H enc)
end Go.Proofs.YtlpombjidhloiaaGreat
