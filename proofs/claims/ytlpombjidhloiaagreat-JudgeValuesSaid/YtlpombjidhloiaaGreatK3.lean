/- separatumlaw25.JudgeValues, whole: the law answers true, and its arguments read as before. Conditions: none but the row's own. -/
import Derived.Test.YtlpombjidhloiaaGreatQve
import Derived.Test.YtlpombjidhloiaaGreatBbm
import Derived.HandedShaped
namespace Go.Proofs.YtlpombjidhloiaaGreat
open Go.ChangeShapes Go.WideShapes Go.ChangeAt Go.RowKit
set_option maxRecDepth 100000
theorem aef(os:Os)(started:os.Started)(H:Type)(enc:TypeId×Value→H):
 ReturnsInHanded {} Tryz.checked os 3 .any (Rows.judgeValuesSpec.pre6 enc Tryz.prog Tryz.f3 Rows.judgeValuesRow.domain false) (Rows.judgeValuesSpec.post enc Tryz.prog Tryz.f3 false true false false):=by
 refine returnsInHanded_of_change_shaped (C:=Tryz.checked) own started (by kernel_rfl) Tryz.func3
  (ChangeSpec.witness6 (enc:=enc) (C:=Tryz.checked) false ⟨#[],#[.string ⟨#[]⟩],[]⟩ 8 (by kernel_rfl) (by kernel_rfl) (by kernel_rfl) (by kernel_rfl)) ?_
 intro W base args ds gs before yX hW hcnd _ hsh _;have hval:∀(j:Nat) t v,Tryz.f3.params[j]? =some t→args[j]? =some v→Value.okWide Tryz.prog W .any base t v:=yX;have hW':=hW;obtain⟨p,q,yY,hV,rfl,hfz,hnd⟩:=hW;have hA:DataW.TrodAll enc Tryz.prog W 0 (fun _=>true) true Tryz.f3.params.toList args.toList ds p:=yY;rw[Tryz.params3]at hA hval;obtain⟨v0,Wu,d0,Wv,p0,q0,hargs,rfl,rfl,h0,r0⟩:=trodAll_cons hA;obtain⟨rfl,rfl,rfl⟩:=trodAll_nil r0;obtain rfl:args=#[v0]:=by cases args;simp_all
 obtain⟨rfl,rfl⟩:=trodVars_none hV;obtain⟨s0,rfl,rfl,rfl,Wx⟩:=Go.ChangeMaps.open_string Tryz.underlying9 (hval 0 9 v0 rfl rfl) h0;obtain⟨⟨a0⟩⟩:=s0;obtain⟨m,hm⟩:=Tryz.laysM144.s1_3 W hsh;refine(adK a0 W (Gc W hm)).mono fun e W' ⟨he,hb⟩=>?_
 subst he;exact⟨_,rfl,IN hW' hb rfl rfl (by
  rw[Tryz.params3];intro t ht;have h:t=9:=by simp at ht;omega
  rcases h with rfl;exact⟨by kernel_rfl,of_decide_eq_true (by kernel_rfl)⟩) rfl⟩
theorem xI{a b:Bool}(h1:a=true)(h2:b=true):(a&&b)=true:=by rw[h1,h2];rfl
set_option maxHeartbeats 8000000 in
theorem aeg:joinedFacts Tryz.prog 3 Tryz.f3 Rows.judgeValuesSpec Rows.judgeValuesRow=true:=by
 unfold joinedFacts
 repeat' (with_reducible apply xI)
 all_goals as_aux_lemma=>kernel_rfl
theorem judgeValues_said:Rows.JudgeValuesSaid:=
 OpenClaim.holds_of_wide 3 Tryz.f3 rfl rfl rfl rfl rfl rfl rfl ⟨rfl,rfl,rfl,rfl,rfl⟩ rfl rfl rfl rfl rfl (by kernel_rfl) Tryz.func3 aeg
  (of_decide_eq_true (by kernel_rfl)) (by unfold Func.isWrapper;first|(rw[if_pos (by decide +kernel)];kernel_rfl)|(rw[if_neg (by decide +kernel)];exact⟨rfl,rfl⟩))
  (fun os started H enc _=>aef os started H enc)
end Go.Proofs.YtlpombjidhloiaaGreat
