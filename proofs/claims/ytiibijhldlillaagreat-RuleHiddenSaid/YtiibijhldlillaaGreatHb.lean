/- rule.nameless at one call, in pieces: what the run tells of each. No condition. -/
import Derived.Test.YtiibijhldlillaaGreatHa
namespace Go.Proofs.Tryz
open Go.Proofs.YtiibijhldlillaaGreat.Eng
set_option maxRecDepth 100000
noncomputable def nlB : Code := Tryz.f110.body.getD .skip
noncomputable def nlL : Code := lp (bl (sl (sr (sr nlB))))
noncomputable def nlE : Code := sr (sr (sr nlB))
theorem nlB_eq : Tryz.f110.body = some (.seq (sl nlB) (.seq (sl (sr nlB)) (.seq (.block 0 (.loop nlL)) nlE))) := by kernel_rfl
theorem nlL_eq : nlL = .seq (sl nlL) (.seq (sl (sr nlL)) (sr (sr nlL))) := by kernel_rfl
theorem nt110 : ntOf B0 110 = 86 := by kernel_rfl
theorem fn110 : B0.fn.at_ 110 = some Tryz.f110 := by kernel_rfl
theorem nt110' : Tryz.f110.ntmps = 86 := by kernel_rfl
theorem res110 : Tryz.f110.results.toList = [.tmp 4] := by kernel_rfl
noncomputable def ns110 : NS := nsOf B0 110
def args110 : List AV := [.agg [.str [77], .lit (.slice none 0 0), .slc 60229 0 2 (.gap 0), .slc 60251 0 2 (.gap 0)], .slc 60252 0 1 (.ex 1)]
def foot110 : List OB := [⟨60229, [[.int .u8 15, .str [77], .str [84], .int .i64 0, .int .i64 0, .int .i64 0, .int .i64 0, .lit (.slice none 0 0), .lit (.slice none 0 0), .lit (.slice none 0 0), .lit (.slice none 0 0), .int .i64 0], [.int .u8 16, .str [], .str [], .int .i64 0, .int .i64 0, .int .i64 0, .int .i64 0, .lit (.slice none 0 0), .lit (.slice none 0 0), .lit (.slice none 0 0), .lit (.slice none 0 0), .int .i64 10]], 12, 111, true⟩, ⟨60252, [[.int .i64 11]], 1, 3, false⟩]
noncomputable def s110 : St := ⟨layM foot110 .leaf, 60254, []⟩
noncomputable def C0 : Out := run B0 100000 (.code (sl nlB) 110 (argsT args110 0 ⟨.leaf, .nil⟩) [] s110)
noncomputable def C1 : Out := run B0 100000 (.code (sl (sr nlB)) 110 (okTm C0) [] (okS C0))
noncomputable def C2 : Out := run B0 100000 (.code (sl nlL) 110 (okTm C1) [] (okS C1))
noncomputable def C3 : Out := run B0 100000 (.code (sl (sr nlL)) 110 (okTm C2) [] (okS C2))
def rowC : Option AObj → T (List AV)
  | some (.cells c _ _ _ _) => c
  | _ => .leaf
noncomputable def row3 : T (List AV) := rowC ((okS C3).heap.at_ 60258)
/-- The row that was made has room for so many. -/
noncomputable def s3K (κ : Nat) : St := ⟨(okS C3).heap.set 60258 (.cells row3 κ 1 3 false), (okS C3).next, (okS C3).wr⟩
noncomputable def setAll (l : List (Nat × AV)) : T AV := List.rec .leaf (fun p _ ih => ih.set p.1 p.2) l
def keep (κ : Nat) : List (Nat × AV) := [(1, .slc 60258 0 4 (.ex κ)), (2, .ptr 60254 0), (4, .bool false), (5, .map 60255)]
noncomputable def C4 (κ : Nat) : Out := run B0 100000 (.code (sr (sr nlL)) 110 ⟨setAll (keep κ), .nil⟩ [] (s3K κ))
noncomputable def C5 (κ : Nat) : Out := run B0 100000 (.code (.loop nlL) 110 (okTm (C4 κ)) [] (okS (C4 κ)))
noncomputable def C6 (κ : Nat) : Out := run B0 100000 (.code nlE 110 (okTm (C5 κ)) [] (okS (C5 κ)))
structure KF (κ : Nat) : Prop where
  k4 : C4 κ = .ok .normal (okTm (C4 κ)) [] (okS (C4 κ))
  k5 : C5 κ = .ok (.exit 0) (okTm (C5 κ)) [] (okS (C5 κ))
  k6 : C6 κ = .ok .ret (okTm (C6 κ)) [] (okS (C6 κ))
  v : ev (mvT ns110 4) (okTm (C6 κ)) = .bool false
  ft : ∀ x ∈ foot110, (okS (C6 κ)).heap.at_ x.b = some x.obj
  n : Nat.ble (okS (C6 κ)).next 60300 = true
theorem ft_of {h : T AObj} (h1 : h.at_ 60229 = some (OB.obj (foot110.getD 0 ⟨0, [], 0, 0, false⟩))) (h2 : h.at_ 60252 = some (OB.obj (foot110.getD 1 ⟨0, [], 0, 0, false⟩))) : ∀ x ∈ foot110, h.at_ x.b = some x.obj := fun x hx => by
  rcases List.mem_cons.1 hx with rfl | hx
  · exact h1
  rcases List.mem_cons.1 hx with rfl | hx
  · exact h2
  cases hx
theorem kf4 : KF 4 := ⟨by kernel_rfl, by kernel_rfl, by kernel_rfl, by kernel_rfl, ft_of (by kernel_rfl) (by kernel_rfl), by kernel_rfl⟩
theorem kf5 : KF 5 := ⟨by kernel_rfl, by kernel_rfl, by kernel_rfl, by kernel_rfl, ft_of (by kernel_rfl) (by kernel_rfl), by kernel_rfl⟩
theorem kf6 : KF 6 := ⟨by kernel_rfl, by kernel_rfl, by kernel_rfl, by kernel_rfl, ft_of (by kernel_rfl) (by kernel_rfl), by kernel_rfl⟩
theorem kf7 (j : Nat) : KF (j + 7) := ⟨by kernel_rfl, by kernel_rfl, by kernel_rfl, by kernel_rfl, ft_of (by kernel_rfl) (by kernel_rfl), by kernel_rfl⟩
theorem kf_all {κ : Nat} (h : 4 ≤ κ) : KF κ := by
  rcases Nat.lt_or_ge κ 7 with h7 | h7
  · have h8 : κ = 4 ∨ κ = 5 ∨ κ = 6 := by omega
    rcases h8 with rfl | rfl | rfl
    · exact kf4
    · exact kf5
    · exact kf6
  · obtain ⟨j, rfl⟩ : ∃ j, κ = j + 7 := ⟨κ - 7, by omega⟩
    exact kf7 j
theorem c0_ok : C0 = .ok .normal (okTm C0) [] (okS C0) := by kernel_rfl
theorem c1_ok : C1 = .ok .normal (okTm C1) [] (okS C1) := by kernel_rfl
theorem c2_ok : C2 = .ok .normal (okTm C2) [] (okS C2) := by kernel_rfl
theorem c3_ok : C3 = .ok .normal (okTm C3) [] (okS C3) := by kernel_rfl
theorem c3_row : (okS C3).heap.at_ 60258 = some (.cells row3 4 1 3 true) := by kernel_rfl
theorem c3_1 : ev (mvT ns110 1) (okTm C3) = .slc 60258 0 4 (.gap 0) := by kernel_rfl
theorem c3_2 : ev (mvT ns110 2) (okTm C3) = .ptr 60254 0 := by kernel_rfl
theorem c3_4 : ev (mvT ns110 4) (okTm C3) = .bool false := by kernel_rfl
theorem c3_5 : ev (mvT ns110 5) (okTm C3) = .map 60255 := by kernel_rfl
end Go.Proofs.Tryz
