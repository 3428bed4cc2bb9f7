/- A region that draws its order. What ops do. Condition: what lies in memory can lie there; what each theorem says. -/
import Derived.Test.YtabenhpjgjjgnaaGreatDoorBaa
import Derived.Test.YtabenhpjgjjgnaaGreatDoorBab
import Derived.Deep.RegionHeld3
import Derived.Deep.DeepCutAuto
import Derived.Deep.DrawnRows
/- A region that draws its order. -/
namespace Go.Proofs.YtabenhpjgjjgnaaGreatDoor
open Go.RowKit
section
variable {P : Program} {ops : Array Oper} {Q : Exit → Act → World → Prop} {md : Region.Mode} {S : World → Prop}
def Asks (P : Program) (ops : Array Oper) (S : World → Prop) (o : Oper) (v : Value) (a : Act) : Prop :=
 Region.wanted o (yielded ops a.tmps) = true ∧ ∃ f args, (∀ w, S w → (execOp a.eval o).run P w = .ok (.enter f args) w) ∧ ∀ w, S w → Calls P f args w (fun e w' => e = .returned v ∧ w = w')
theorem Asks.op {i : Nat} {o : Oper} {v : Value} {a : Act} (hi : ops[i]? = some o) (hy : Asks P ops S o v a) {K : Act → World → Prop} {w : World} (hS : S w) (h : K (a.put o.dst v) w) : wpOp P ops Q i K a w := by
 obtain ⟨hw, f, args, hr, hc⟩ := hy
 refine wpOp_step hi fun K' hK => ?_
 rw [if_pos hw]
 unfold Oper.wp
 rw [hr w hS]
 refine (hc w hS).mono ?_
 rintro e w' ⟨rfl, rfl⟩
 exact hK _ _ h
theorem Asks.same {o : Oper} {v : Value} {a a' : Act} (hy : Asks P ops S o v a) (he : execOp a'.eval o = execOp a.eval o) (hw : Region.wanted o (yielded ops a'.tmps) = Region.wanted o (yielded ops a.tmps)) : Asks P ops S o v a' := by
 unfold Asks at *
 rw [he, hw]
 exact hy
theorem Asks.apart {j : Nat} {oi oj : Oper} {v : Value} (hj : ops[j]? = some oj) (hap : oi.apart ops oj = true) (hsi : ∀ cs b, oi.op ≠ .select cs b) (hsj : ∀ cs b, oj.op ≠ .select cs b)
 (hQ : ∀ c a w, Q (.panic c) (a.put oi.dst v) w → Q (.panic c) a w) {K : Act → World → Prop} {a : Act} {w : World} (hy : Asks P ops S oi v a) (h : wpOp P ops Q j K (a.put oi.dst v) w) :
 wpOp P ops Q j (fun a' w' => Asks P ops S oi v a' ∧ K (a'.put oi.dst v) w') a w := by
 obtain ⟨h1, h2, h3⟩ := Oper.apart_spec hap
 have keep : ∀ (a : Act), Asks P ops S oi v a → ∀ u, Asks P ops S oi v (a.put oj.dst u) := fun a hy u => hy.same (execOp_put oi hsi a oj.dst u h3) (wanted_put oi a oj.dst u h3)
 unfold wpOp at h ⊢
 simp only [hj] at h ⊢
 rw [wanted_put oj a oi.dst v h1] at h
 by_cases hw : Region.wanted oj (yielded ops a.tmps) = true
 ·rw [if_pos hw] at h ⊢
  refine h.imp (fun h => ?_) (fun h => ⟨?_, h.2⟩)
  ·unfold Oper.wp at h ⊢
   rw [execOp_put oj hsj a oi.dst v h1] at h
   clear hw
   generalize (execOp a.eval oj).run P w = r at *
   cases r with
   | ok n w' =>
     cases n <;> simp only [Oper.upon] at h ⊢
     case value u => rw [Act.put_comm a v u h2] at h; exact ⟨keep a hy u, h⟩
     case skip => rw [Act.put_comm a v undef h2] at h; exact ⟨keep a hy _, h⟩
     case defer d => rw [Act.put_defers, Act.put_comm _ v undef h2] at h; exact ⟨keep { a with defers := d :: a.defers } (hy.same rfl rfl) _, h⟩
     case enter f args =>
      refine h.mono fun e w'' he => ?_
      cases e with
      | returned u => simp only at he ⊢; rw [Act.put_comm a v u h2] at he; exact ⟨keep a hy u, he⟩
      | panicked c => exact hQ _ _ _ he
      | outgrown => exact he
     case row row args => exact Rows.mono h fun u w'' he => by rw [Act.put_comm a v u h2] at he; exact ⟨keep a hy u, he⟩
   | halt x w' => cases x <;> simp only [Oper.upon] at h ⊢; exact hQ _ _ _ h
  ·have := h.1
   unfold Oper.asks at this ⊢
   rwa [execOp_put oj hsj a oi.dst v h1] at this
 ·rw [if_neg hw] at h ⊢
  rw [Act.put_comm a v undef h2] at h
  exact ⟨keep a hy _, h⟩
theorem asks_first {i : Nat} {oi : Oper} {v : Value} (hi : ops[i]? = some oi) (hsel : ∀ (j : Nat) (o : Oper) cs b, ops[j]? = some o → o.op ≠ .select cs b) (hQ : ∀ c a w, Q (.panic c) (a.put oi.dst v) w → Q (.panic c) a w) :
 ∀ (fuel : Nat) (listed : Array Bool) (a : Act) (w : World), (∀ j oj, ops[j]? = some oj → j ≠ i → listed.getD j true = false → (∀ e ∈ oj.after, Region.binds md e = true → e.on ≠ i) → oi.apart ops oj = true) →
   i ∈ Region.ready md ops listed → Asks P ops S oi v a → S w → wpAnyH P md ops Q S fuel (listed.setIfInBounds i true) (a.put oi.dst v) w → wpAnyH P md ops Q S (fuel + 1) listed a w
 | fuel, listed, a, w, hfree, hr, hy, hS, H => by
   refine ⟨fun h => (by rw [h] at hr; cases hr), fun j hj => ?_⟩
   by_cases hji : j = i
   ·subst hji; exact hy.op hi hS ⟨hS, H⟩
   have hj' := ready_mono hj hji
   cases fuel with
   | zero => rw [H.1] at hj'; cases hj'
   | succ fuel =>
     obtain ⟨hjun, oj, hoj, hall⟩ := mem_ready.1 hj
     have hnot : ∀ e ∈ oj.after, Region.binds md e = true → e.on ≠ i := fun e he hb heq => by
      have h1 := hall e he hb
      have h0 := (mem_ready.1 hr).1
      rw [heq] at h1
      rw [Array.getD_eq_getD_getElem?] at h0 h1
      cases hl : listed[i]? with
      | none => rw [hl] at h1; cases h1
      | some b => rw [hl] at h0 h1; simp only [Option.getD_some] at h0 h1; rw [h0] at h1; cases h1
     have h2 := Asks.apart hoj (hfree j oj hoj hji hjun hnot) (fun cs b => hsel i oi cs b hi) (fun cs b => hsel j oj cs b hoj) hQ hy (H.2 j hj')
     refine wpOp_mono (fun a' w' h3 => ⟨h3.2.1, asks_first hi hsel hQ fuel (listed.setIfInBounds j true) a' w' (fun k ok hk hki hun hno => hfree k ok hk hki ?_ hno) (ready_mono hr (Ne.symm hji)) h3.1 h3.2.1 ?_⟩) h2
     ·by_cases hjk : j = k
      ·subst hjk; exact hjun
      ·rwa [getD_set_ne true hjk] at hun
     ·rw [Array.setIfInBounds_comm _ _ hji]; exact h3.2.2
theorem asks_take {i : Nat} {oi : Oper} {v : Value} {fuel : Nat} {listed : Array Bool} {a : Act} {w : World} (hi : ops[i]? = some oi)
 (hs : Region.noSelect ops = true) (hf : Region.free md ops listed i = true) (hr : (Region.ready md ops listed).contains i = true)
 (hQ : ∀ c a w, Q (.panic c) (a.put oi.dst v) w → Q (.panic c) a w) (hy : Asks P ops S oi v a) (hS : S w)
 (h : wpAnyH P md ops Q S fuel (listed.setIfInBounds i true) (a.put oi.dst v) w) : wpAnyH P md ops Q S (fuel + 1) listed a w :=
 asks_first hi (Region.noSelect_spec hs) hQ fuel listed a w (Region.free_spec hi hf) (by simpa using hr) hy hS h
end
end Go.Proofs.YtabenhpjgjjgnaaGreatDoor
/- What ops do. -/
namespace Go.Proofs.YtabenhpjgjjgnaaGreatDoor
open Go.RowKit
set_option maxRecDepth 100000
attribute [local go_sem ↓] Go.wp_at_zero Go.wp_at_succ
def doesL (α β p q r s : Nat) : List (Nat × Value) := [(1, .func (.func 255) #[] #[.pointer (some ⟨p, 0, none⟩), .pointer (some ⟨q, 0, none⟩)]), (2, .func (.func 257) #[] #[.pointer (some ⟨p, 0, none⟩), .pointer (some ⟨q, 0, none⟩)]), (3, .func (.func 258) #[] #[.pointer (some ⟨p, 0, none⟩), .pointer (some ⟨q, 0, none⟩)]), (4, .func (.func 259) #[] #[.pointer (some ⟨q, 0, none⟩), .pointer (some ⟨p, 0, none⟩)]), (5, .func (.func 262) #[] #[.pointer (some ⟨q, 0, none⟩), .pointer (some ⟨p, 0, none⟩)]), (6, .func (.func 264) #[] #[.pointer (some ⟨p, 0, none⟩)]), (7, .func (.func 265) #[] #[.pointer (some ⟨p, 0, none⟩)]), (8, .func (.func 266) #[] #[.pointer (some ⟨r, 0, none⟩), .pointer (some ⟨s, 0, none⟩)]), (9, .func (.func 268) #[] #[.pointer (some ⟨r, 0, none⟩), .pointer (some ⟨s, 0, none⟩)]), (10, .func (.func 269) #[] #[.pointer (some ⟨r, 0, none⟩), .pointer (some ⟨s, 0, none⟩)]), (11, .func (.func 270) #[] #[.pointer (some ⟨s, 0, none⟩), .pointer (some ⟨r, 0, none⟩)]), (12, .func (.func 272) #[] #[.pointer (some ⟨s, 0, none⟩), .pointer (some ⟨r, 0, none⟩)]), (13, .func (.func 274) #[] #[.pointer (some ⟨α, 0, none⟩), .pointer (some ⟨β, 0, none⟩)]), (14, .func (.func 276) #[] #[.pointer (some ⟨α, 0, none⟩), .pointer (some ⟨β, 0, none⟩)]), (15, .func (.func 277) #[] #[.pointer (some ⟨p, 0, none⟩), .pointer (some ⟨q, 0, none⟩)]), (16, .func (.func 279) #[] #[.pointer (some ⟨p, 0, none⟩), .pointer (some ⟨q, 0, none⟩)]), (17, .func (.func 280) #[] #[.pointer (some ⟨p, 0, none⟩), .pointer (some ⟨q, 0, none⟩)]), (18, .func (.func 281) #[] #[.pointer (some ⟨p, 0, none⟩), .pointer (some ⟨q, 0, none⟩)]), (19, .func (.func 282) #[] #[.pointer (some ⟨α, 0, none⟩), .pointer (some ⟨β, 0, none⟩)]), (20, .func (.func 284) #[] #[.pointer (some ⟨α, 0, none⟩), .pointer (some ⟨β, 0, none⟩)]), (21, .func (.func 285) #[] #[.pointer (some ⟨α, 0, none⟩), .pointer (some ⟨β, 0, none⟩)]), (22, .func (.func 286) #[] #[.pointer (some ⟨α, 0, none⟩), .pointer (some ⟨β, 0, none⟩)]), (23, .func (.func 287) #[] #[.pointer (some ⟨α, 0, none⟩)]), (24, .func (.func 288) #[] #[.pointer (some ⟨α, 0, none⟩), .pointer (some ⟨β, 0, none⟩)]), (25, .func (.func 290) #[] #[.pointer (some ⟨α, 0, none⟩), .pointer (some ⟨β, 0, none⟩)]), (26, .func (.func 291) #[] #[.pointer (some ⟨α, 0, none⟩), .pointer (some ⟨β, 0, none⟩)]), (27, .func (.func 292) #[] #[.pointer (some ⟨α, 0, none⟩), .pointer (some ⟨β, 0, none⟩)]), (28, .func (.func 293) #[] #[.pointer (some ⟨α, 0, none⟩), .pointer (some ⟨β, 0, none⟩)]), (29, .func (.func 294) #[] #[.pointer (some ⟨α, 0, none⟩), .pointer (some ⟨β, 0, none⟩)]), (30, .func (.func 295) #[] #[.pointer (some ⟨α, 0, none⟩)]), (31, .func (.func 297) #[] #[.pointer (some ⟨α, 0, none⟩), .pointer (some ⟨β, 0, none⟩)])]
def mapW (w : World) (l : List (Nat × Value)) : World := putFM (w.alloc (.map #[] 0)) w.heap.size l
theorem push_last {α : Type} (a : Array α) (x y : α) : (a.push x).setIfInBounds a.size y = a.push y := by
 apply Array.ext'
 simp
theorem mapW_nil (w : World) : mapW w [] = w.alloc (.map #[] 0) := by
 show ({ w with heap := (w.heap.push (.map #[] 0)).setIfInBounds w.heap.size (.map #[] 0) } : World) = { w with heap := w.heap.push (.map #[] 0) }
 rw [push_last]
def doesT (α β p q r s : Nat) (n : Nat) : List (Nat × Value) := (doesL α β p q r s).take n
theorem mapW_fm (w : World) (l : List (Nat × Value)) : FM (mapW w l) w.heap.size l := (FM.new w).put l
theorem mapW_below (w : World) (l : List (Nat × Value)) : Below w.heap.size w (mapW w l) := by
 refine ⟨rfl, rfl, rfl, by unfold mapW putFM putObj World.alloc; simp, fun k hk => ?_⟩
 unfold mapW putFM putObj World.alloc
 rw [Array.getElem?_setIfInBounds_ne (by omega)]
 exact Array.getElem?_push_lt hk |>.trans (Array.getElem?_eq_getElem hk).symm
theorem mapW_put {P : Program} {mty kt et : TypeId} (hm : P.underlying mty = some (.map kt et)) (hd : P.underlying kt = some (.int .u8)) (w : World) (l : List (Nat × Value)) (x : Nat) (v : Value) (hx : x ∉ l.map (·.1)) (l' : List (Nat × Value)) (he : l' = l ++ [(x, v)]) :
 (Instr.mapUpdate mty (.map (some w.heap.size)) (.int .u8 (x : Int)) v).run P (mapW w l) = .ok () (mapW w l') := by
 rw [fm_put hm hd _ _ _ (mapW_fm w l) x v hx, he]
 congr 1
 unfold mapW putFM putObj
 simp
theorem mapW_make {P : Program} (w : World) (t : TypeId) (l : List (Nat × Value)) (he : l = []) : (Instr.makeMap t none).run P w = .ok (.map (some w.heap.size)) (mapW w l) := by
 rw [he, mapW_nil]; exact run_makeMap ..
def DoesEnd (W : World) (a b : Nat) (e : Ending) (w' : World) : Prop := ∃ α β p q r s m : Nat, e = .returned (.map (some m)) ∧ FM w' m (doesL α β p q r s) ∧ w'.cell? ⟨α, 0, none⟩ = some (.int .u16 a) ∧ w'.cell? ⟨β, 0, none⟩ = some (.int .u16 b) ∧
 w'.cell? ⟨p, 0, none⟩ = some (.int .i64 (sg a)) ∧ w'.cell? ⟨q, 0, none⟩ = some (.int .i64 (sg b)) ∧ w'.cell? ⟨r, 0, none⟩ = some (.int .i64 a) ∧ w'.cell? ⟨s, 0, none⟩ = some (.int .i64 b) ∧ Below W.heap.size W w'
def TwoNew (w : World) (x y : Int) (u v : Value) (w' : World) : Prop := ∃ p q, u = .pointer (some ⟨p, 0, none⟩) ∧ v = .pointer (some ⟨q, 0, none⟩) ∧ w'.cell? ⟨p, 0, none⟩ = some (.int .i64 x) ∧ w'.cell? ⟨q, 0, none⟩ = some (.int .i64 y) ∧ Below w.heap.size w w'
theorem new_two (w : World) (x y : Int) : TwoNew w x y (.pointer (some ⟨w.heap.size, 0, none⟩)) (.pointer (some ⟨w.heap.size + 1, 0, none⟩)) ((w.alloc (.cells #[.int .i64 x] 3)).alloc (.cells #[.int .i64 y] 3)).drew := by
 refine ⟨_, _, rfl, rfl, ?_, ?_, ?_⟩
 ·exact ((Bx.grow (Bx.new w #[.int .i64 x] 3) (alloc_below _ (.cells #[.int .i64 y] 3))).cell 0).trans rfl
 ·simp
 ·exact (((Below.refl _ _).alloc (Nat.le_refl _) _).alloc (by simp) _).drew
theorem TwoNew.swap {w : World} {x y : Int} {u v : Value} {w' : World} (h : TwoNew w x y u v w') : TwoNew w y x v u w' := by
 obtain ⟨p, q, h1, h2, h3, h4, h5⟩ := h
 exact ⟨q, p, h2, h1, h4, h3, h5⟩
set_option maxHeartbeats 6000000 in
theorem does_any (a b : Nat) (ha : a < 65536) (hb : b < 65536) (W : World) : Calls Tryz.prog 212 #[.int .u16 a, .int .u16 b] W (DoesEnd W a b) := by
 have HB1 := Lib.hid (show Below W.heap.size W ((W.alloc (.cells #[.int .u16 a] 50)).alloc (.cells #[.int .u16 b] 50)) from ((Below.refl _ _).alloc (Nat.le_refl _) _).alloc (by simp) _)
 have HX := Lib.hid (Bx.grow (Bx.new W #[.int .u16 a] 50) (alloc_below _ (.cells #[.int .u16 b] 50)))
 have HY := Lib.hid (show Bx (W.heap.size + 1) #[.int .u16 b] 50 ((W.alloc (.cells #[.int .u16 a] 50)).alloc (.cells #[.int .u16 b] 50)) by simpa using Bx.new (W.alloc (.cells #[.int .u16 a] 50)) #[.int .u16 b] 50)
 go_enter Tryz.func212, Tryz.ntmps212
 go_wp2_with fail
 generalize (W.alloc (.cells #[.int .u16 a] 50)).alloc (.cells #[.int .u16 b] 50) = w1 at *
 have c0 : w1.cell? ⟨W.heap.size, 0, none⟩ = some (.int .u16 a) := (HX.out.cell 0).trans rfl
 have c1 : w1.cell? ⟨W.heap.size + 1, 0, none⟩ = some (.int .u16 b) := (HY.out.cell 0).trans rfl
 have z0 : W.heap.size < w1.heap.size := HX.out.lt
 have z1 : W.heap.size + 1 < w1.heap.size := HY.out.lt
 clear HX HY
 go_cut [5, 6] (fun u v w' => TwoNew w1 (sg a) (sg b) u v w')
 case first =>
  refine wp_region_held_drew (S := Below w1.heap.size w1) (by kernel_rfl) (Below.refl _ _).drew (fun hHeld => ?_)
  refine wpAnyH_take (i := 0) (v := .int .u16 a) rfl (by kernel_rfl) (by kernel_rfl) (by kernel_rfl) (fun _ _ _ h => h) (Or.inl ⟨by rfl, ?_⟩) (by assumption) ?_
  ·intro w hSw; have h0 := (hSw.cell (p := ⟨W.heap.size, 0, none⟩) z0).trans c0; have h1 := (hSw.cell (p := ⟨W.heap.size + 1, 0, none⟩) z1).trans c1; go_simp
  simp only [Act.put, List.setIfInBounds_toArray]
  refine wpAnyH_take (i := 2) (v := .int .u16 b) rfl (by kernel_rfl) (by kernel_rfl) (by kernel_rfl) (fun _ _ _ h => h) (Or.inl ⟨by rfl, ?_⟩) (by assumption) ?_
  ·intro w hSw; have h0 := (hSw.cell (p := ⟨W.heap.size, 0, none⟩) z0).trans c0; have h1 := (hSw.cell (p := ⟨W.heap.size + 1, 0, none⟩) z1).trans c1; go_simp
  simp only [Act.put]
  refine asks_take (i := 1) (v := .int .i64 (sg a)) rfl (by kernel_rfl) (by kernel_rfl) (by kernel_rfl) (fun _ _ _ h => h) ⟨by rfl, 214, #[.int .u16 a], fun w _ => by go_simp, fun w _ => (int_any a ha w).mono fun _ _ h => ⟨h.1, h.2⟩⟩ (by assumption) ?_
  simp only [Act.put]
  refine asks_take (i := 3) (v := .int .i64 (sg b)) rfl (by kernel_rfl) (by kernel_rfl) (by kernel_rfl) (fun _ _ _ h => h) ⟨by rfl, 214, #[.int .u16 b], fun w _ => by go_simp, fun w _ => (int_any b hb w).mono fun _ _ h => ⟨h.1, h.2⟩⟩ (by assumption) ?_
  simp only [Act.put]
  refine wpAnyH_ready (rs := [4, 5]) (by kernel_rfl) (by simp) ?_
  refine AllReadyH.cons rfl (fun K hK => ?_) (AllReadyH.cons rfl (fun K hK => ?_) AllReadyH.nil)
  ·go_simp
   refine hK.out _ _ (by first | exact ((Below.refl _ _).alloc (Nat.le_refl _) _).drew | exact (((Below.refl _ _).alloc (Nat.le_refl _) _).alloc (by simp) _).drew) (fun hHeld => ?_)
   clear hK K
   refine wpAnyH_ready (rs := [5]) (by kernel_rfl) (by simp) ?_
   refine AllReadyH.cons rfl (fun K hK => ?_) AllReadyH.nil
   go_simp
   refine hK.out _ _ (by first | exact ((Below.refl _ _).alloc (Nat.le_refl _) _).drew | exact (((Below.refl _ _).alloc (Nat.le_refl _) _).alloc (by simp) _).drew) (fun hHeld => ?_)
   clear hK K
   refine wpAnyH_ready (rs := [6]) (by kernel_rfl) (by simp) ?_
   refine AllReadyH.cons rfl (fun K hK => ?_) AllReadyH.nil
   go_simp
   refine hK.out _ _ (by first | exact ((Below.refl _ _).alloc (Nat.le_refl _) _).drew | exact (((Below.refl _ _).alloc (Nat.le_refl _) _).alloc (by simp) _).drew) (fun hHeld => ?_)
   clear hK K
   refine wpAnyH_ready (rs := [7]) (by kernel_rfl) (by simp) ?_
   refine AllReadyH.cons rfl (fun K hK => ?_) AllReadyH.nil
   go_simp
   refine hK.out _ _ (by first | exact ((Below.refl _ _).alloc (Nat.le_refl _) _).drew | exact (((Below.refl _ _).alloc (Nat.le_refl _) _).alloc (by simp) _).drew) (fun hHeld => ?_)
   clear hK K
   refine wpAnyH_done (by kernel_rfl) ?_ _
   go_wp2_with fail
   go_meet
   exact new_two w1 _ _
  ·go_simp
   refine hK.out _ _ (by first | exact ((Below.refl _ _).alloc (Nat.le_refl _) _).drew | exact (((Below.refl _ _).alloc (Nat.le_refl _) _).alloc (by simp) _).drew) (fun hHeld => ?_)
   clear hK K
   refine wpAnyH_ready (rs := [4]) (by kernel_rfl) (by simp) ?_
   refine AllReadyH.cons rfl (fun K hK => ?_) AllReadyH.nil
   go_simp
   refine hK.out _ _ (by first | exact ((Below.refl _ _).alloc (Nat.le_refl _) _).drew | exact (((Below.refl _ _).alloc (Nat.le_refl _) _).alloc (by simp) _).drew) (fun hHeld => ?_)
   clear hK K
   refine wpAnyH_ready (rs := [6]) (by kernel_rfl) (by simp) ?_
   refine AllReadyH.cons rfl (fun K hK => ?_) AllReadyH.nil
   go_simp
   refine hK.out _ _ (by first | exact ((Below.refl _ _).alloc (Nat.le_refl _) _).drew | exact (((Below.refl _ _).alloc (Nat.le_refl _) _).alloc (by simp) _).drew) (fun hHeld => ?_)
   clear hK K
   refine wpAnyH_ready (rs := [7]) (by kernel_rfl) (by simp) ?_
   refine AllReadyH.cons rfl (fun K hK => ?_) AllReadyH.nil
   go_simp
   refine hK.out _ _ (by first | exact ((Below.refl _ _).alloc (Nat.le_refl _) _).drew | exact (((Below.refl _ _).alloc (Nat.le_refl _) _).alloc (by simp) _).drew) (fun hHeld => ?_)
   clear hK K
   refine wpAnyH_done (by kernel_rfl) ?_ _
   go_wp2_with fail
   go_meet
   exact (new_two w1 _ _).swap
 case rest =>
  obtain ⟨p, q, rfl, rfl, hp, hq, hb⟩ := hcut
  have d0 := (hb.cell (p := ⟨W.heap.size, 0, none⟩) z0).trans c0
  have d1 := (hb.cell (p := ⟨W.heap.size + 1, 0, none⟩) z1).trans c1
  have z2 : W.heap.size < wc.heap.size := Nat.lt_of_lt_of_le z0 hb.size
  have z3 : W.heap.size + 1 < wc.heap.size := Nat.lt_of_lt_of_le z1 hb.size
  have zb := Lib.hid hb
  have zp := Lib.hid hp
  have zq := Lib.hid hq
  clear hb hp hq
  go_wp2_with fail
  go_cut [7, 8] (fun u v w' => TwoNew wc a b u v w')
  case first =>
   refine wp_region_held_drew (S := Below wc.heap.size wc) (by kernel_rfl) (Below.refl _ _).drew (fun hHeld => ?_)
   refine wpAnyH_take (i := 0) (v := .int .u16 a) rfl (by kernel_rfl) (by kernel_rfl) (by kernel_rfl) (fun _ _ _ h => h) (Or.inl ⟨by rfl, ?_⟩) (by assumption) ?_
   ·intro w hSw; have h0 := (hSw.cell (p := ⟨W.heap.size, 0, none⟩) z2).trans d0; go_simp
   simp only [Act.put, List.setIfInBounds_toArray]
   refine wpAnyH_take (i := 1) (v := .int .i64 a) rfl (by kernel_rfl) (by kernel_rfl) (by kernel_rfl) (fun _ _ _ h => h) (Or.inl ⟨by rfl, ?_⟩) (by assumption) ?_
   ·intro w hSw; have h0 : IntKind.i64.wrap (a : Int) = a := IntWalk.i64_in _ (by omega)
    go_simp
   simp only [Act.put]
   refine wpAnyH_take (i := 2) (v := .int .u16 b) rfl (by kernel_rfl) (by kernel_rfl) (by kernel_rfl) (fun _ _ _ h => h) (Or.inl ⟨by rfl, ?_⟩) (by assumption) ?_
   ·intro w hSw; have h0 := (hSw.cell (p := ⟨W.heap.size + 1, 0, none⟩) z3).trans d1; go_simp
   simp only [Act.put]
   refine wpAnyH_take (i := 3) (v := .int .i64 b) rfl (by kernel_rfl) (by kernel_rfl) (by kernel_rfl) (fun _ _ _ h => h) (Or.inl ⟨by rfl, ?_⟩) (by assumption) ?_
   ·intro w hSw; have h0 : IntKind.i64.wrap (b : Int) = b := IntWalk.i64_in _ (by omega)
    go_simp
   simp only [Act.put]
   refine wpAnyH_ready (rs := [4, 5]) (by kernel_rfl) (by simp) ?_
   refine AllReadyH.cons rfl (fun K hK => ?_) (AllReadyH.cons rfl (fun K hK => ?_) AllReadyH.nil)
   ·go_simp
    refine hK.out _ _ (by first | exact ((Below.refl _ _).alloc (Nat.le_refl _) _).drew | exact (((Below.refl _ _).alloc (Nat.le_refl _) _).alloc (by simp) _).drew) (fun hHeld => ?_)
    clear hK K
    refine wpAnyH_ready (rs := [5]) (by kernel_rfl) (by simp) ?_
    refine AllReadyH.cons rfl (fun K hK => ?_) AllReadyH.nil
    go_simp
    refine hK.out _ _ (by first | exact ((Below.refl _ _).alloc (Nat.le_refl _) _).drew | exact (((Below.refl _ _).alloc (Nat.le_refl _) _).alloc (by simp) _).drew) (fun hHeld => ?_)
    clear hK K
    refine wpAnyH_ready (rs := [6]) (by kernel_rfl) (by simp) ?_
    refine AllReadyH.cons rfl (fun K hK => ?_) AllReadyH.nil
    go_simp
    refine hK.out _ _ (by first | exact ((Below.refl _ _).alloc (Nat.le_refl _) _).drew | exact (((Below.refl _ _).alloc (Nat.le_refl _) _).alloc (by simp) _).drew) (fun hHeld => ?_)
    clear hK K
    refine wpAnyH_ready (rs := [7]) (by kernel_rfl) (by simp) ?_
    refine AllReadyH.cons rfl (fun K hK => ?_) AllReadyH.nil
    go_simp
    refine hK.out _ _ (by first | exact ((Below.refl _ _).alloc (Nat.le_refl _) _).drew | exact (((Below.refl _ _).alloc (Nat.le_refl _) _).alloc (by simp) _).drew) (fun hHeld => ?_)
    clear hK K
    refine wpAnyH_done (by kernel_rfl) ?_ _
    go_wp2_with fail
    go_meet
    exact new_two wc _ _
   ·go_simp
    refine hK.out _ _ (by first | exact ((Below.refl _ _).alloc (Nat.le_refl _) _).drew | exact (((Below.refl _ _).alloc (Nat.le_refl _) _).alloc (by simp) _).drew) (fun hHeld => ?_)
    clear hK K
    refine wpAnyH_ready (rs := [4]) (by kernel_rfl) (by simp) ?_
    refine AllReadyH.cons rfl (fun K hK => ?_) AllReadyH.nil
    go_simp
    refine hK.out _ _ (by first | exact ((Below.refl _ _).alloc (Nat.le_refl _) _).drew | exact (((Below.refl _ _).alloc (Nat.le_refl _) _).alloc (by simp) _).drew) (fun hHeld => ?_)
    clear hK K
    refine wpAnyH_ready (rs := [6]) (by kernel_rfl) (by simp) ?_
    refine AllReadyH.cons rfl (fun K hK => ?_) AllReadyH.nil
    go_simp
    refine hK.out _ _ (by first | exact ((Below.refl _ _).alloc (Nat.le_refl _) _).drew | exact (((Below.refl _ _).alloc (Nat.le_refl _) _).alloc (by simp) _).drew) (fun hHeld => ?_)
    clear hK K
    refine wpAnyH_ready (rs := [7]) (by kernel_rfl) (by simp) ?_
    refine AllReadyH.cons rfl (fun K hK => ?_) AllReadyH.nil
    go_simp
    refine hK.out _ _ (by first | exact ((Below.refl _ _).alloc (Nat.le_refl _) _).drew | exact (((Below.refl _ _).alloc (Nat.le_refl _) _).alloc (by simp) _).drew) (fun hHeld => ?_)
    clear hK K
    refine wpAnyH_done (by kernel_rfl) ?_ _
    go_wp2_with fail
    go_meet
    exact (new_two wc _ _).swap
  case rest =>
   obtain ⟨p1, q1, rfl, rfl, hp, hq, hb1⟩ := hcut
   have y0 := (hb1.cell (p := ⟨W.heap.size, 0, none⟩) z2).trans d0
   have y1 := (hb1.cell (p := ⟨W.heap.size + 1, 0, none⟩) z3).trans d1
   have zr := Lib.hid hp
   have zs := Lib.hid hq
   have zb2 := Lib.hid hb1
   have zp := Lib.hid ((hb1.cell (p := ⟨p, 0, none⟩) (lt_of_cell zp.out)).trans zp.out)
   have zq := Lib.hid ((hb1.cell (p := ⟨q, 0, none⟩) (lt_of_cell zq.out)).trans zq.out)
   have zw := Lib.hid (((HB1.out.trans (zb.out.mono HB1.out.size)).trans (hb1.mono (HB1.out.trans (zb.out.mono HB1.out.size)).size)))
   clear hp hq hb1
   have m0 := @mapW_make Tryz.prog wc 236 (doesT W.heap.size (W.heap.size + 1) p q p1 q1 0) rfl
   have m1 : (Instr.mapUpdate 236 (.map (some wc.heap.size)) (.int .u8 1) (.func (.func 255) #[] #[.pointer (some ⟨p, 0, none⟩), .pointer (some ⟨q, 0, none⟩)])).run Tryz.prog (mapW wc (doesT W.heap.size (W.heap.size + 1) p q p1 q1 0)) = .ok () (mapW wc (doesT W.heap.size (W.heap.size + 1) p q p1 q1 1)) := mapW_put Tryz.underlying236 Tryz.underlying5 wc _ 1 _ (by simp [doesT, doesL]) _ rfl
   have m2 : (Instr.mapUpdate 236 (.map (some wc.heap.size)) (.int .u8 2) (.func (.func 257) #[] #[.pointer (some ⟨p, 0, none⟩), .pointer (some ⟨q, 0, none⟩)])).run Tryz.prog (mapW wc (doesT W.heap.size (W.heap.size + 1) p q p1 q1 1)) = .ok () (mapW wc (doesT W.heap.size (W.heap.size + 1) p q p1 q1 2)) := mapW_put Tryz.underlying236 Tryz.underlying5 wc _ 2 _ (by simp [doesT, doesL]) _ rfl
   have m3 : (Instr.mapUpdate 236 (.map (some wc.heap.size)) (.int .u8 3) (.func (.func 258) #[] #[.pointer (some ⟨p, 0, none⟩), .pointer (some ⟨q, 0, none⟩)])).run Tryz.prog (mapW wc (doesT W.heap.size (W.heap.size + 1) p q p1 q1 2)) = .ok () (mapW wc (doesT W.heap.size (W.heap.size + 1) p q p1 q1 3)) := mapW_put Tryz.underlying236 Tryz.underlying5 wc _ 3 _ (by simp [doesT, doesL]) _ rfl
   have m4 : (Instr.mapUpdate 236 (.map (some wc.heap.size)) (.int .u8 4) (.func (.func 259) #[] #[.pointer (some ⟨q, 0, none⟩), .pointer (some ⟨p, 0, none⟩)])).run Tryz.prog (mapW wc (doesT W.heap.size (W.heap.size + 1) p q p1 q1 3)) = .ok () (mapW wc (doesT W.heap.size (W.heap.size + 1) p q p1 q1 4)) := mapW_put Tryz.underlying236 Tryz.underlying5 wc _ 4 _ (by simp [doesT, doesL]) _ rfl
   have m5 : (Instr.mapUpdate 236 (.map (some wc.heap.size)) (.int .u8 5) (.func (.func 262) #[] #[.pointer (some ⟨q, 0, none⟩), .pointer (some ⟨p, 0, none⟩)])).run Tryz.prog (mapW wc (doesT W.heap.size (W.heap.size + 1) p q p1 q1 4)) = .ok () (mapW wc (doesT W.heap.size (W.heap.size + 1) p q p1 q1 5)) := mapW_put Tryz.underlying236 Tryz.underlying5 wc _ 5 _ (by simp [doesT, doesL]) _ rfl
   have m6 : (Instr.mapUpdate 236 (.map (some wc.heap.size)) (.int .u8 6) (.func (.func 264) #[] #[.pointer (some ⟨p, 0, none⟩)])).run Tryz.prog (mapW wc (doesT W.heap.size (W.heap.size + 1) p q p1 q1 5)) = .ok () (mapW wc (doesT W.heap.size (W.heap.size + 1) p q p1 q1 6)) := mapW_put Tryz.underlying236 Tryz.underlying5 wc _ 6 _ (by simp [doesT, doesL]) _ rfl
   have m7 : (Instr.mapUpdate 236 (.map (some wc.heap.size)) (.int .u8 7) (.func (.func 265) #[] #[.pointer (some ⟨p, 0, none⟩)])).run Tryz.prog (mapW wc (doesT W.heap.size (W.heap.size + 1) p q p1 q1 6)) = .ok () (mapW wc (doesT W.heap.size (W.heap.size + 1) p q p1 q1 7)) := mapW_put Tryz.underlying236 Tryz.underlying5 wc _ 7 _ (by simp [doesT, doesL]) _ rfl
   have m8 : (Instr.mapUpdate 236 (.map (some wc.heap.size)) (.int .u8 8) (.func (.func 266) #[] #[.pointer (some ⟨p1, 0, none⟩), .pointer (some ⟨q1, 0, none⟩)])).run Tryz.prog (mapW wc (doesT W.heap.size (W.heap.size + 1) p q p1 q1 7)) = .ok () (mapW wc (doesT W.heap.size (W.heap.size + 1) p q p1 q1 8)) := mapW_put Tryz.underlying236 Tryz.underlying5 wc _ 8 _ (by simp [doesT, doesL]) _ rfl
   have m9 : (Instr.mapUpdate 236 (.map (some wc.heap.size)) (.int .u8 9) (.func (.func 268) #[] #[.pointer (some ⟨p1, 0, none⟩), .pointer (some ⟨q1, 0, none⟩)])).run Tryz.prog (mapW wc (doesT W.heap.size (W.heap.size + 1) p q p1 q1 8)) = .ok () (mapW wc (doesT W.heap.size (W.heap.size + 1) p q p1 q1 9)) := mapW_put Tryz.underlying236 Tryz.underlying5 wc _ 9 _ (by simp [doesT, doesL]) _ rfl
   have m10 : (Instr.mapUpdate 236 (.map (some wc.heap.size)) (.int .u8 10) (.func (.func 269) #[] #[.pointer (some ⟨p1, 0, none⟩), .pointer (some ⟨q1, 0, none⟩)])).run Tryz.prog (mapW wc (doesT W.heap.size (W.heap.size + 1) p q p1 q1 9)) = .ok () (mapW wc (doesT W.heap.size (W.heap.size + 1) p q p1 q1 10)) := mapW_put Tryz.underlying236 Tryz.underlying5 wc _ 10 _ (by simp [doesT, doesL]) _ rfl
   have m11 : (Instr.mapUpdate 236 (.map (some wc.heap.size)) (.int .u8 11) (.func (.func 270) #[] #[.pointer (some ⟨q1, 0, none⟩), .pointer (some ⟨p1, 0, none⟩)])).run Tryz.prog (mapW wc (doesT W.heap.size (W.heap.size + 1) p q p1 q1 10)) = .ok () (mapW wc (doesT W.heap.size (W.heap.size + 1) p q p1 q1 11)) := mapW_put Tryz.underlying236 Tryz.underlying5 wc _ 11 _ (by simp [doesT, doesL]) _ rfl
   have m12 : (Instr.mapUpdate 236 (.map (some wc.heap.size)) (.int .u8 12) (.func (.func 272) #[] #[.pointer (some ⟨q1, 0, none⟩), .pointer (some ⟨p1, 0, none⟩)])).run Tryz.prog (mapW wc (doesT W.heap.size (W.heap.size + 1) p q p1 q1 11)) = .ok () (mapW wc (doesT W.heap.size (W.heap.size + 1) p q p1 q1 12)) := mapW_put Tryz.underlying236 Tryz.underlying5 wc _ 12 _ (by simp [doesT, doesL]) _ rfl
   have m13 : (Instr.mapUpdate 236 (.map (some wc.heap.size)) (.int .u8 13) (.func (.func 274) #[] #[.pointer (some ⟨W.heap.size, 0, none⟩), .pointer (some ⟨(W.heap.size + 1), 0, none⟩)])).run Tryz.prog (mapW wc (doesT W.heap.size (W.heap.size + 1) p q p1 q1 12)) = .ok () (mapW wc (doesT W.heap.size (W.heap.size + 1) p q p1 q1 13)) := mapW_put Tryz.underlying236 Tryz.underlying5 wc _ 13 _ (by simp [doesT, doesL]) _ rfl
   have m14 : (Instr.mapUpdate 236 (.map (some wc.heap.size)) (.int .u8 14) (.func (.func 276) #[] #[.pointer (some ⟨W.heap.size, 0, none⟩), .pointer (some ⟨(W.heap.size + 1), 0, none⟩)])).run Tryz.prog (mapW wc (doesT W.heap.size (W.heap.size + 1) p q p1 q1 13)) = .ok () (mapW wc (doesT W.heap.size (W.heap.size + 1) p q p1 q1 14)) := mapW_put Tryz.underlying236 Tryz.underlying5 wc _ 14 _ (by simp [doesT, doesL]) _ rfl
   have m15 : (Instr.mapUpdate 236 (.map (some wc.heap.size)) (.int .u8 15) (.func (.func 277) #[] #[.pointer (some ⟨p, 0, none⟩), .pointer (some ⟨q, 0, none⟩)])).run Tryz.prog (mapW wc (doesT W.heap.size (W.heap.size + 1) p q p1 q1 14)) = .ok () (mapW wc (doesT W.heap.size (W.heap.size + 1) p q p1 q1 15)) := mapW_put Tryz.underlying236 Tryz.underlying5 wc _ 15 _ (by simp [doesT, doesL]) _ rfl
   have m16 : (Instr.mapUpdate 236 (.map (some wc.heap.size)) (.int .u8 16) (.func (.func 279) #[] #[.pointer (some ⟨p, 0, none⟩), .pointer (some ⟨q, 0, none⟩)])).run Tryz.prog (mapW wc (doesT W.heap.size (W.heap.size + 1) p q p1 q1 15)) = .ok () (mapW wc (doesT W.heap.size (W.heap.size + 1) p q p1 q1 16)) := mapW_put Tryz.underlying236 Tryz.underlying5 wc _ 16 _ (by simp [doesT, doesL]) _ rfl
   have m17 : (Instr.mapUpdate 236 (.map (some wc.heap.size)) (.int .u8 17) (.func (.func 280) #[] #[.pointer (some ⟨p, 0, none⟩), .pointer (some ⟨q, 0, none⟩)])).run Tryz.prog (mapW wc (doesT W.heap.size (W.heap.size + 1) p q p1 q1 16)) = .ok () (mapW wc (doesT W.heap.size (W.heap.size + 1) p q p1 q1 17)) := mapW_put Tryz.underlying236 Tryz.underlying5 wc _ 17 _ (by simp [doesT, doesL]) _ rfl
   have m18 : (Instr.mapUpdate 236 (.map (some wc.heap.size)) (.int .u8 18) (.func (.func 281) #[] #[.pointer (some ⟨p, 0, none⟩), .pointer (some ⟨q, 0, none⟩)])).run Tryz.prog (mapW wc (doesT W.heap.size (W.heap.size + 1) p q p1 q1 17)) = .ok () (mapW wc (doesT W.heap.size (W.heap.size + 1) p q p1 q1 18)) := mapW_put Tryz.underlying236 Tryz.underlying5 wc _ 18 _ (by simp [doesT, doesL]) _ rfl
   have m19 : (Instr.mapUpdate 236 (.map (some wc.heap.size)) (.int .u8 19) (.func (.func 282) #[] #[.pointer (some ⟨W.heap.size, 0, none⟩), .pointer (some ⟨(W.heap.size + 1), 0, none⟩)])).run Tryz.prog (mapW wc (doesT W.heap.size (W.heap.size + 1) p q p1 q1 18)) = .ok () (mapW wc (doesT W.heap.size (W.heap.size + 1) p q p1 q1 19)) := mapW_put Tryz.underlying236 Tryz.underlying5 wc _ 19 _ (by simp [doesT, doesL]) _ rfl
   have m20 : (Instr.mapUpdate 236 (.map (some wc.heap.size)) (.int .u8 20) (.func (.func 284) #[] #[.pointer (some ⟨W.heap.size, 0, none⟩), .pointer (some ⟨(W.heap.size + 1), 0, none⟩)])).run Tryz.prog (mapW wc (doesT W.heap.size (W.heap.size + 1) p q p1 q1 19)) = .ok () (mapW wc (doesT W.heap.size (W.heap.size + 1) p q p1 q1 20)) := mapW_put Tryz.underlying236 Tryz.underlying5 wc _ 20 _ (by simp [doesT, doesL]) _ rfl
   have m21 : (Instr.mapUpdate 236 (.map (some wc.heap.size)) (.int .u8 21) (.func (.func 285) #[] #[.pointer (some ⟨W.heap.size, 0, none⟩), .pointer (some ⟨(W.heap.size + 1), 0, none⟩)])).run Tryz.prog (mapW wc (doesT W.heap.size (W.heap.size + 1) p q p1 q1 20)) = .ok () (mapW wc (doesT W.heap.size (W.heap.size + 1) p q p1 q1 21)) := mapW_put Tryz.underlying236 Tryz.underlying5 wc _ 21 _ (by simp [doesT, doesL]) _ rfl
   have m22 : (Instr.mapUpdate 236 (.map (some wc.heap.size)) (.int .u8 22) (.func (.func 286) #[] #[.pointer (some ⟨W.heap.size, 0, none⟩), .pointer (some ⟨(W.heap.size + 1), 0, none⟩)])).run Tryz.prog (mapW wc (doesT W.heap.size (W.heap.size + 1) p q p1 q1 21)) = .ok () (mapW wc (doesT W.heap.size (W.heap.size + 1) p q p1 q1 22)) := mapW_put Tryz.underlying236 Tryz.underlying5 wc _ 22 _ (by simp [doesT, doesL]) _ rfl
   have m23 : (Instr.mapUpdate 236 (.map (some wc.heap.size)) (.int .u8 23) (.func (.func 287) #[] #[.pointer (some ⟨W.heap.size, 0, none⟩)])).run Tryz.prog (mapW wc (doesT W.heap.size (W.heap.size + 1) p q p1 q1 22)) = .ok () (mapW wc (doesT W.heap.size (W.heap.size + 1) p q p1 q1 23)) := mapW_put Tryz.underlying236 Tryz.underlying5 wc _ 23 _ (by simp [doesT, doesL]) _ rfl
   have m24 : (Instr.mapUpdate 236 (.map (some wc.heap.size)) (.int .u8 24) (.func (.func 288) #[] #[.pointer (some ⟨W.heap.size, 0, none⟩), .pointer (some ⟨(W.heap.size + 1), 0, none⟩)])).run Tryz.prog (mapW wc (doesT W.heap.size (W.heap.size + 1) p q p1 q1 23)) = .ok () (mapW wc (doesT W.heap.size (W.heap.size + 1) p q p1 q1 24)) := mapW_put Tryz.underlying236 Tryz.underlying5 wc _ 24 _ (by simp [doesT, doesL]) _ rfl
   have m25 : (Instr.mapUpdate 236 (.map (some wc.heap.size)) (.int .u8 25) (.func (.func 290) #[] #[.pointer (some ⟨W.heap.size, 0, none⟩), .pointer (some ⟨(W.heap.size + 1), 0, none⟩)])).run Tryz.prog (mapW wc (doesT W.heap.size (W.heap.size + 1) p q p1 q1 24)) = .ok () (mapW wc (doesT W.heap.size (W.heap.size + 1) p q p1 q1 25)) := mapW_put Tryz.underlying236 Tryz.underlying5 wc _ 25 _ (by simp [doesT, doesL]) _ rfl
   have m26 : (Instr.mapUpdate 236 (.map (some wc.heap.size)) (.int .u8 26) (.func (.func 291) #[] #[.pointer (some ⟨W.heap.size, 0, none⟩), .pointer (some ⟨(W.heap.size + 1), 0, none⟩)])).run Tryz.prog (mapW wc (doesT W.heap.size (W.heap.size + 1) p q p1 q1 25)) = .ok () (mapW wc (doesT W.heap.size (W.heap.size + 1) p q p1 q1 26)) := mapW_put Tryz.underlying236 Tryz.underlying5 wc _ 26 _ (by simp [doesT, doesL]) _ rfl
   have m27 : (Instr.mapUpdate 236 (.map (some wc.heap.size)) (.int .u8 27) (.func (.func 292) #[] #[.pointer (some ⟨W.heap.size, 0, none⟩), .pointer (some ⟨(W.heap.size + 1), 0, none⟩)])).run Tryz.prog (mapW wc (doesT W.heap.size (W.heap.size + 1) p q p1 q1 26)) = .ok () (mapW wc (doesT W.heap.size (W.heap.size + 1) p q p1 q1 27)) := mapW_put Tryz.underlying236 Tryz.underlying5 wc _ 27 _ (by simp [doesT, doesL]) _ rfl
   have m28 : (Instr.mapUpdate 236 (.map (some wc.heap.size)) (.int .u8 28) (.func (.func 293) #[] #[.pointer (some ⟨W.heap.size, 0, none⟩), .pointer (some ⟨(W.heap.size + 1), 0, none⟩)])).run Tryz.prog (mapW wc (doesT W.heap.size (W.heap.size + 1) p q p1 q1 27)) = .ok () (mapW wc (doesT W.heap.size (W.heap.size + 1) p q p1 q1 28)) := mapW_put Tryz.underlying236 Tryz.underlying5 wc _ 28 _ (by simp [doesT, doesL]) _ rfl
   have m29 : (Instr.mapUpdate 236 (.map (some wc.heap.size)) (.int .u8 29) (.func (.func 294) #[] #[.pointer (some ⟨W.heap.size, 0, none⟩), .pointer (some ⟨(W.heap.size + 1), 0, none⟩)])).run Tryz.prog (mapW wc (doesT W.heap.size (W.heap.size + 1) p q p1 q1 28)) = .ok () (mapW wc (doesT W.heap.size (W.heap.size + 1) p q p1 q1 29)) := mapW_put Tryz.underlying236 Tryz.underlying5 wc _ 29 _ (by simp [doesT, doesL]) _ rfl
   have m30 : (Instr.mapUpdate 236 (.map (some wc.heap.size)) (.int .u8 30) (.func (.func 295) #[] #[.pointer (some ⟨W.heap.size, 0, none⟩)])).run Tryz.prog (mapW wc (doesT W.heap.size (W.heap.size + 1) p q p1 q1 29)) = .ok () (mapW wc (doesT W.heap.size (W.heap.size + 1) p q p1 q1 30)) := mapW_put Tryz.underlying236 Tryz.underlying5 wc _ 30 _ (by simp [doesT, doesL]) _ rfl
   have m31 : (Instr.mapUpdate 236 (.map (some wc.heap.size)) (.int .u8 31) (.func (.func 297) #[] #[.pointer (some ⟨W.heap.size, 0, none⟩), .pointer (some ⟨(W.heap.size + 1), 0, none⟩)])).run Tryz.prog (mapW wc (doesT W.heap.size (W.heap.size + 1) p q p1 q1 30)) = .ok () (mapW wc (doesT W.heap.size (W.heap.size + 1) p q p1 q1 31)) := mapW_put Tryz.underlying236 Tryz.underlying5 wc _ 31 _ (by simp [doesT, doesL]) _ rfl
   go_wp2_with fail
   have M := Lib.hid (mapW_below wc (doesT W.heap.size (W.heap.size + 1) p q p1 q1 31))
   have F := Lib.hid (mapW_fm wc (doesT W.heap.size (W.heap.size + 1) p q p1 q1 31))
   clear m1
   go_ret
   exact ⟨W.heap.size, W.heap.size + 1, p, q, p1, q1, wc.heap.size, rfl, F.out, (M.out.cell (lt_of_cell y0)).trans y0, (M.out.cell (lt_of_cell y1)).trans y1, (M.out.cell (lt_of_cell zp.out)).trans zp.out, (M.out.cell (lt_of_cell zq.out)).trans zq.out, (M.out.cell (lt_of_cell zr.out)).trans zr.out, (M.out.cell (lt_of_cell zs.out)).trans zs.out, zw.out.trans (M.out.mono zw.out.size)⟩
end Go.Proofs.YtabenhpjgjjgnaaGreatDoor
