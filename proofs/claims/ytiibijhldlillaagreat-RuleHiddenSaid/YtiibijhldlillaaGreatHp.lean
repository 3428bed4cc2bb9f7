/- The hooks keep their word. Condition: what each theorem says. -/
import Derived.Test.YtiibijhldlillaaGreatHg
import Derived.Test.YtiibijhldlillaaGreatHo
import Derived.Test.YtiibijhldlillaaGreatHn
import Derived.Test.YtiibijhldlillaaGreatHl
import Derived.Test.YtiibijhldlillaaGreatHm
import Derived.Test.YtiibijhldlillaaGreatHh
import Derived.Test.YtiibijhldlillaaGreatHi
import Derived.Test.YtiibijhldlillaaGreatHj
import Derived.Test.YtiibijhldlillaaGreatHk
namespace Go.Proofs.YtiibijhldlillaaGreat.Eng
/-- What a call makes may lie there. -/
theorem Stp.below [FX] {e : En} {s : St} {w w' : World} (h : Rep e s w) (hb : RowKit.Below w.heap.size w w') : Stp e s w e s w' where
  rep := ⟨fun b o hb' => by
    obtain ⟨q1, q2, r, q3, q4⟩ := h.obj b o hb'
    exact ⟨q1, Nat.lt_of_lt_of_le q2 hb.size, r, by rw [hb.block _ q2]; exact q3, q4⟩, h.inj, fun g o hg => ⟨by
      have q := (h.fx g o hg).1
      rw [hb.block _ (Array.getElem?_eq_some_iff.1 q).1]; exact q, (h.fx g o hg).2⟩⟩
  ext := Ext.refl _ _
  nx := Nat.le_refl _
  own := fun b o hb' => .inl ⟨b, o, hb', rfl⟩
  os := hb.os
  tape := hb.tape
  output := hb.output
  size := hb.size
  kp := fun k hk _ => hb.block k hk
  lg := ⟨[], rfl, fun _ _ _ => rfl⟩
  fx := rfl
end Go.Proofs.YtiibijhldlillaaGreat.Eng
namespace Go.Proofs.Tryz
open Go.Proofs.YtiibijhldlillaaGreat.Eng
set_option maxRecDepth 100000
theorem newF_inv : ∀ {l : List Nat} {s s' : St} {v : AV}, newF l s = some (v, s') → ∃ c ∈ l, s.next ≤ c ∧ v = .ptr (c + 2) 0 ∧ s' = ⟨layA (nil3 c) s.heap, c + 55, s.wr⟩
  | [], _, _, _, h => by cases h
  | c :: l, s, s', v, h => by
    replace h : (Bool.rec (newF l s) (some (.ptr (Nat.add c 2) 0, ⟨layA (nil3 c) s.heap, Nat.add c 55, s.wr⟩)) (Nat.ble s.next c) : Option (AV × St)) = some (v, s') := h
    cases hb : Nat.ble s.next c with
    | false =>
      rw [hb] at h
      obtain ⟨c', h1, h2⟩ := newF_inv h
      exact ⟨c', by simp [h1], h2⟩
    | true =>
      rw [hb] at h
      injection (show some (AV.ptr (c + 2) 0, (⟨layA (nil3 c) s.heap, c + 55, s.wr⟩ : St)) = some (v, s') from h) with h
      injection h with h1 h2
      exact ⟨c, by simp, Nat.le_of_ble_eq_true hb, h1.symm, h2.symm⟩
theorem newX_inv {l : List Nat} {args : List AV} {s s' : St} {v : AV} (h : newX l args s = some (v, s')) : args = [] ∧ newF l s = some (v, s') := by
  cases args with
  | nil => exact ⟨rfl, h⟩
  | cons _ _ => cases h
theorem trueX_inv {args : List AV} {s s' : St} {v : AV} (h : trueX args s = some (v, s')) : args = [] ∧ v = .bool true ∧ s' = s := by
  cases args with
  | nil =>
    injection (show some (AV.bool true, s) = some (v, s') from h) with h
    injection h with h1 h2
    exact ⟨rfl, h1.symm, h2.symm⟩
  | cons _ _ => cases h
theorem footX_inv [FX] {args : List AV} {s s' : St} {v : AV} (h : footX args s = some (v, s')) : eqAVs args110 args = true ∧ (∀ x ∈ foot110, okOb x (s.heap.at_ x.b) = true) ∧ s.next ≤ 60254 ∧ v = .bool false ∧ s' = ⟨layM foot110 s.heap, 60300, foot110.map OB.b ++ s.wr⟩ := by
  unfold footX at h
  cases hb : and (and (eqAVs args110 args) (okObs 0 s.heap foot110)) (Nat.ble s.next 60254) with
  | false => rw [hb] at h; cases h
  | true =>
    rw [hb] at h
    have h1 := (Bool.and_eq_true _ _).mp hb
    have h2 := (Bool.and_eq_true _ _).mp h1.1
    injection (show some (AV.bool false, (⟨layM foot110 s.heap, 60300, appR (mapR OB.b foot110) s.wr⟩ : St)) = some (v, s') from h) with h
    injection h with h3 h4
    exact ⟨h2.1, fun x hx => (okObs_mem h2.2 x hx).2, Nat.le_of_ble_eq_true h1.2, h3.symm, h4.symm⟩
/-- What the hooks but the last rest on. -/
structure HookOk : Prop where
  news : ∀ c ∈ [20000, 40000, 60000], NewFacts c
  reads : ∀ m ∈ memos, memB m (run B0 1000000 (.fn 5 m.args ⟨.leaf, m.c0, []⟩)) = true
theorem b1_tb [FX] : TbOk Tryz.prog B1 := tb_ok _ _ _ (by kernel_rfl)
theorem b2_tb [FX] : TbOk Tryz.prog B2 := tb_ok _ _ _ (by kernel_rfl)
theorem x1_ok [FX] {ob : Obj} {m : Int} (hf : FX.F 0 = some ob) (hm : ∀ w : World, w.heap[0]? = some ob → w.cell? ⟨0, 0, none⟩ = some (.int .i64 m)) (hH : HookOk) (f c : Nat) (args : List AV) (s s' : St) (v : AV) (e : En) (w : World) (vs : Array Value) (h : ext1.at_ f = some c) (hx : xf1 c args s = some (v, s')) (hr : Rep e s w) (hgl : Gl e s.next) (hl : RL e s.next args vs.toList)
    {o : Oper} {a : Act} {K : Act → World → Prop} {Q : Exit → Act → World → Prop} (hK : ∀ e' w' u, Stp e s w e' s' w' → R e' s'.next v u → K (a.put o.dst u) w') : o.upon Tryz.prog a K Q ((callFunc f vs).run Tryz.prog w) := by
  unfold ext1 at h
  rw [T.at_set] at h
  by_cases h110 : 110 = f
  · rw [if_pos h110] at h
    cases h
    subst h110
    obtain ⟨h1, h2, h3, rfl, rfl⟩ := footX_inv (show footX args s = some (v, s') from hx)
    exact locF_ok (nameless_loc hf hm) h3 h2 hr hgl (eqAVs_R h1 hl) hK
  rw [if_neg h110, T.at_set] at h
  by_cases h5 : 5 = f
  · rw [if_pos h5] at h
    cases h
    subst h5
    exact find_ok (b0_all hf hm 1000000).1.2.2 hH.reads (show findMemo memos args s = some (v, s') from hx) hr hgl hl hK
  rw [if_neg h5, T.at_set] at h
  by_cases h184 : 184 = f
  · rw [if_pos h184] at h
    cases h
    subst h184
    exact sorted_hook Tryz.sorted_ok Tryz.under9 Tryz.enters184 (show sortX 262 9 s args = some (v, s') from hx) hr hl hK
  rw [if_neg h184, T.at_set] at h
  by_cases h87 : 87 = f
  · rw [if_pos h87] at h
    cases h
    subst h87
    obtain ⟨rfl, hx2⟩ := newX_inv (show newX [20000, 40000, 60000] args s = some (v, s') from hx)
    obtain ⟨c, hc, hle, rfl, rfl⟩ := newF_inv hx2
    exact loc_ok (new_loc (hH.news c hc) hf hm) hle hr hgl hl hK
  rw [if_neg h87, T.at_set] at h
  by_cases h463 : 463 = f
  · rw [if_pos h463] at h
    cases h
    subst h463
    exact contains_hook (show contX s args = some (v, s') from hx) hr hl hf hm hK
  rw [if_neg h463, T.at_leaf] at h
  cases h
theorem b1_ext [FX] {ob : Obj} {m : Int} (hf : FX.F 0 = some ob) (hm : ∀ w : World, w.heap[0]? = some ob → w.cell? ⟨0, 0, none⟩ = some (.int .i64 m)) (hH : HookOk) : ExtOk Tryz.prog B1 := fun f c args s s' v e w vs h hx hr hgl hl _ _ _ _ hK => x1_ok hf hm hH f c args s s' v e w vs h hx hr hgl hl hK
theorem enters7 : ∀ args w, (callFunc 7 args).run Tryz.prog w = .ok (.enter 7 args) w := enters_of Tryz.func7 (by kernel_rfl) rfl
theorem b2_ext [FX] {ob : Obj} {m : Int} (hf : FX.F 0 = some ob) (hm : ∀ w : World, w.heap[0]? = some ob → w.cell? ⟨0, 0, none⟩ = some (.int .i64 m)) (hH : HookOk) (hW : isTrue (run B1 1000000 (.fn 7 [] ⟨.leaf, 1000, []⟩)) = true) : ExtOk Tryz.prog B2 := by
  intro f c args s s' v e w vs h hx hr hgl hl o a K Q hK
  replace h : (ext1.set 7 4).at_ f = some c := h
  rw [T.at_set] at h
  by_cases h7 : 7 = f
  · rw [if_pos h7] at h
    cases h
    subst h7
    obtain ⟨rfl, rfl, rfl⟩ := trueX_inv (show trueX args s = some (v, s') from hx)
    rw [enters7, Oper.upon_enter]
    have hvs : vs = #[] := Array.toList_inj.1 (show vs.toList = [] from hl)
    subst hvs
    refine (true_calls b1_tb (b1_ext hf hm hH) mixed (n := 1000000) (f := 7) (args := []) (vs := #[]) (w := w) (by kernel_rfl) hW (fun e => rfl) (fun g o hg => (hr.fx g o hg).1)).mono ?_
    rintro en w' ⟨rfl, hb⟩
    exact hK e w' _ (Stp.below hr hb) rfl
  · rw [if_neg h7] at h
    exact x1_ok hf hm hH f c args _ s' v e w vs h hx hr hgl hl hK

open Go.Proofs.YtiibijhldlillaaGreat.Eng
set_option maxRecDepth 100000
theorem hooks_ok : HookOk where
  news := fun c hc => by
    rcases List.mem_cons.1 hc with rfl | hc
    · exact facts20
    rcases List.mem_cons.1 hc with rfl | hc
    · exact facts40
    rcases List.mem_cons.1 hc with rfl | hc
    · exact facts60
    cases hc
  reads := reads_all
theorem run_hidden (k : Nat) (hk : k < 8) : isTrue (run B2 1000000 (.fn 4 [.cls .u8 8 k] ⟨.leaf, 1000, []⟩)) = true := by
  have h : k = 0 ∨ k = 1 ∨ k = 2 ∨ k = 3 ∨ k = 4 ∨ k = 5 ∨ k = 6 ∨ k = 7 := by omega
  rcases h with rfl | rfl | rfl | rfl | rfl | rfl | rfl | rfl
  · exact run0
  · exact run1
  · exact run2
  · exact run3
  · exact run4
  · exact run5
  · exact run6
  · exact run7
theorem mixed2 : Tryz.prog.follows .mixedOrders = true := by kernel_rfl
theorem hidden_any (n : Nat) (hn : n < 256) (W : World) {m : Int} (hW : W.cell? ⟨0, 0, none⟩ = some (.int .i64 m)) : Calls Tryz.prog 4 #[.int .u8 n] W fun e W' => e = .returned (.bool true) ∧ RowKit.Below W.heap.size W W' := by
  cases hob : W.heap[0]? with
  | none => simp [World.cell?, hob] at hW
  | some ob =>
    letI : FX := ⟨fun g => if g = 0 then some ob else none⟩
    have hf : FX.F 0 = some ob := rfl
    have hm : ∀ w : World, w.heap[0]? = some ob → w.cell? ⟨0, 0, none⟩ = some (.int .i64 m) := fun w hw => by
      rw [← hW]
      exact World.cell?_of_block (hw.trans hob.symm)
    refine true_calls b2_tb (b2_ext hf hm hooks_ok runW) mixed2 (n := 1000000) (f := 4) (args := [.cls .u8 8 (n % 8)]) (by kernel_rfl) (run_hidden (n % 8) (Nat.mod_lt _ (by decide))) (fun e => ⟨_, _, rfl, ⟨n, rfl, hn, rfl⟩, rfl⟩) (fun g o hg => ?_)
    by_cases h0 : g = 0
    · subst h0
      rw [hob]
      exact hg
    · rw [show FX.F g = none from if_neg h0] at hg
      cases hg
end Go.Proofs.Tryz
