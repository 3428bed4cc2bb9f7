/- A run does not hang on where a machine lies. Two machines of one program, side by side. The library's sort of words, part one. The library's sort of words, part two. The library's sort of words, part three. Condition: what lies in memory can lie there; what each theorem says. -/
import Derived.Test.YtabenhpjgjjgnaaGreatDoorBbf
import Derived.Test.YtabenhpjgjjgnaaGreatDoorBaa
import Derived.BigQuiet
import Derived.Deep.RegionHeld3
import Derived.Deep.QuietTactic
import Derived.CellFam
import Derived.LoopN
import Derived.Deep.DeepCutAuto
import Derived.Deep.DrawnRows
import Derived.Deep.RegionLaw
import Derived.Deep.CutBlock
/- A run does not hang on where a machine lies. -/
namespace Go.Proofs.YtabenhpjgjjgnaaGreatDoor
open Go.RowKit
structure Alike (A B : MK) : Prop where
 n : A.n = B.n
 mods : A.mods = B.mods
 order : A.order = B.order
 data : A.data = B.data
 first : A.first = B.first
 low : A.low = B.low
 high : A.high = B.high
 most : A.most = B.most
 hn : A.hn = B.hn
theorem push_alike {A B : MK} (h : Alike A B) : pushM A = pushM B := by
 funext x S; unfold pushM topN hereP modOf; rw [h.mods, h.n]
theorem pops_alike {A B : MK} (h : Alike A B) : popsM A = popsM B := by
 funext x S; unfold popsM floorN hereP modOf; rw [h.mods]
theorem goes_alike {A B : MK} (h : Alike A B) : goesM A = goesM B := by
 funext x S; unfold goesM codeLen modOf; rw [h.mods]
theorem address_alike {A B : MK} (h : Alike A B) : addressM A = addressM B := by
 funext x S; unfold addressM; rw [push_alike h]
theorem loads_alike {A B : MK} (h : Alike A B) : loadsM A = loadsM B := by
 funext x S; unfold loadsM; rw [push_alike h, h.n]
theorem stores_alike {A B : MK} (h : Alike A B) : storesM A = storesM B := by
 funext x S; unfold storesM storesR putM; rw [pops_alike h, h.n]
theorem out_alike {A B : MK} (h : Alike A B) : outM A = outM B := by
 have e : outL A = outL B := by
  funext ws l
  induction l with
  | zero => rfl
  | succ l ih => funext fp; unfold outL; rw [h.n, h.low, ih]
 funext l S; unfold outM hereP modOf; rw [e, h.mods]
theorem module_alike {A B : MK} (h : Alike A B) : moduleM A = moduleM B := by
 funext S; unfold moduleM modOf; rw [h.mods]
theorem writes_alike {A B : MK} (h : Alike A B) : writesM A = writesM B := by
 funext s S; unfold writesM writeM; rw [h.most]
theorem all_alike {A B : MK} (h : Alike A B) : pushAll A = pushAll B := by
 funext l
 induction l with
 | nil => rfl
 | cons x l ih => funext S; unfold pushAll; rw [push_alike h, ih]
theorem proc_alike {A B : MK} (h : Alike A B) : procOf A = procOf B := by
 funext m p; unfold procOf; rw [h.mods]
theorem here_alike {A B : MK} (h : Alike A B) : hereP A = hereP B := by
 funext S; unfold hereP modOf; rw [h.mods]
theorem frame_alike {A B : MK} (h : Alike A B) : frameM A = frameM B := by
 funext a b c d e f g S; unfold frameM markM; rw [h.n, here_alike h]
theorem enter_alike {A B : MK} (h : Alike A B) : enterM A = enterM B := by
 funext m p x S; unfold enterM enterAt floorN; rw [proc_alike h, here_alike h, h.high, frame_alike h]
theorem begins_alike {A B : MK} (h : Alike A B) : beginsM A = beginsM B := by
 funext S; unfold beginsM nextP nextMod; rw [h.order, h.mods, h.high, h.low, frame_alike h]
theorem leave_alike {A B : MK} (h : Alike A B) : leaveM A = leaveM B := by
 funext is S; unfold leaveM leaveL; rw [here_alike h, begins_alike h, proc_alike h, h.mods, h.high, h.low]
theorem callf_alike {A B : MK} (h : Alike A B) : callfL A = callfL B := by
 funext x S n
 induction n with
 | zero => rfl
 | succ n ih => funext j; unfold callfL; rw [ih, proc_alike h, h.first, h.mods, enter_alike h]
theorem do_alike {A B : MK} (h : Alike A B) : doA A = doA B := by
 funext op S
 have h1 := push_alike h
 have h2 := pops_alike h
 have h3 := goes_alike h
 have h4 := address_alike h
 have h5 := loads_alike h
 have h6 := stores_alike h
 have h7 := out_alike h
 have h8 := module_alike h
 have h9 := writes_alike h
 have ha := all_alike h
 have hb := proc_alike h
 have hc := here_alike h
 have hd := enter_alike h
 have he := leave_alike h
 have hf := callf_alike h
 have hg : modOf A = modOf B := by funext S; unfold modOf; rw [h.mods]
 unfold doA opM opR litM globalM globalR localM liM liR siM siR siPut addM addR ptrM ptrR ptrP ixM ixR ixL ixopM ixopR ixopL rangesM rangesR convM convR jmpM jumpsM jumpsR keepsM keepsR casesM casesR marksM callM callxM callxR callfM callfR retfM retfR retfL numberM numberR turnsM turnsR movesM movesR makeM makeR makeL freeM freeR freeL readM putcM putcR wrsM wrsR wrsE textsM textsR
 simp only [h1, h2, h3, h4, h5, h6, h7, h8, h9, ha, hb, hc, hd, he, hf, hg, h.n, h.mods, h.data, h.first, h.high, h.hn]
theorem step_alike {A B : MK} (h : Alike A B) : stepM A = stepM B := by
 funext S; unfold stepM stepR modOf; rw [do_alike h, h.mods]
theorem run_alike {A B : MK} (h : Alike A B) : runM A = runM B := by
 funext n
 induction n with
 | zero => rfl
 | succ n ih => funext S; unfold runM; rw [step_alike h, ih]
end Go.Proofs.YtabenhpjgjjgnaaGreatDoor
/- Two machines of one program, side by side. -/
namespace Go.Proofs.YtabenhpjgjjgnaaGreatDoor
open Go.RowKit
set_option maxRecDepth 100000
attribute [local go_sem ↓] Go.wp_at_zero Go.wp_at_succ
theorem NewG.alike {A B : MK} {ms : List ModL} {o : List Int} {dl fl : List Int} {st hp out : Int} (a : NewG A ms o dl fl st hp out) (b : NewG B ms o dl fl st hp out) : Alike A B :=
 ⟨by have := a.n; have := b.n; omega, a.mods.trans b.mods.symm, a.order.trans b.order.symm, a.data.trans b.data.symm, a.first.trans b.first.symm, a.low.trans b.low.symm, a.high.trans b.high.symm, a.most.trans b.most.symm, a.hn.trans b.hn.symm⟩
theorem start_alike {A B : MK} (h : Alike A B) (inp : List UInt8) : startG A inp = startG B inp := by
 unfold startG; rw [begins_alike h, h.n, h.mods]
theorem runF_alike {A B : MK} (h : Alike A B) (f : Int) (S : St) : runF A f S = runF B f S := by
 unfold runF; rw [run_alike h]
theorem At.apart {K : MK} {S : St} {W W' : World} {bs0 : List Nat} (h : At { K with bs := bs0 ++ K.bs } S W) (k : KOk K) (ho : Only bs0 W W') (hd : ∀ b ∈ K.bs, b ∉ bs0) : At { K with bs := bs0 ++ K.bs } S W' := by
 have hO : Only (bs0 ++ K.bs) W W' := by
  refine ⟨ho.os, ho.tape, ho.output, by rw [mask_size, mask_size]; exact ho.size, fun q hq => ?_⟩
  by_cases hm : q ∈ bs0 ++ K.bs
  ·rw [mask_in _ _ hm hq, mask_in _ _ hm (Nat.lt_of_lt_of_le hq ho.size)]
  ·rw [mask_at _ _ hm, mask_at _ _ hm]
   exact ho.block hq (fun e => hm (List.mem_append_left _ e))
 have hs : ∀ b ∈ K.bs, W'.heap[b]? = W.heap[b]? := fun b hb => ho.block (h.old b (List.mem_append_right _ hb)) (hd b hb)
 obtain ⟨A, c, h1, h2, h3⟩ := h.box
 obtain ⟨re, im, hre, ht⟩ := h.term
 exact h.only hO ⟨A, c, (hs _ k.hb).trans h1, h2.only hO, h3⟩ ⟨re, im, hre, (hs _ k.ht).trans ht⟩ (h.mem.later (hs _ k.hm)) (h.hp.later rfl rfl (hs _ k.hh) (hs _ k.hq))
theorem At.w {K : MK} {S : St} {W : World} (h : At K S W) (k : KOk K) : AtW K S W := AtW.of h (fun _ _ => rfl) k
theorem AtW.apart {K : MK} {S : St} {W W' : World} {bs0 : List Nat} (h : AtW K S W) (k : KOk K) (ho : Only bs0 W W') (hl : ∀ b ∈ K.bs, b < W.heap.size) (hd : ∀ b ∈ K.bs, b ∉ bs0) : AtW K S W' := by
 have hs : ∀ b ∈ K.bs, W'.heap[b]? = W.heap[b]? := fun b hb => ho.block (hl b hb) (hd b hb)
 obtain ⟨cs, hx, A, c, a, e⟩ := h.box
 obtain ⟨re, im, hre, ht⟩ := h.term
 exact ⟨⟨cs, (hs _ k.hb).trans hx, A, c, a, e⟩, ⟨re, im, hre, (hs _ k.ht).trans ht⟩, h.mem.later (hs _ k.hm), h.hp.later rfl rfl (hs _ k.hh) (hs _ k.hq)⟩
theorem mods_masked {w0 w : World} {A : Option Addr} {ms : List ModL} {bs : List Nat} (h : Mods w0 A ms) (hb : Below w0.heap.size w0 w) (hn : ∀ b ∈ bs, w0.heap.size ≤ b) : Mods (mask bs w) A ms := by
 refine h.later (B := w0.heap.size) ?_ (Nat.le_refl _)
 refine ⟨hb.os, hb.tape, hb.output, by rw [mask_size]; exact hb.size, fun k hk => ?_⟩
 rw [mask_at _ _ (fun hm => by have := hn k hm; omega)]
 exact hb.block k hk
theorem outT24 (bt : Nat) (o : List UInt8) (K : MK) (S : St) (hb : bt = K.bt) (ho : o = S.out) (re im : Nat) (W : World) (hx : Bx bt (tcells K S re im) 118 W) : Calls Tryz.prog 50 #[.pointer (some ⟨bt, 0, none⟩)] W fun e w' => e = .returned (.string ⟨o.toArray⟩) ∧ W = w' := by
 subst ho hb
 have c1 : W.cell? ⟨K.bt, 1, none⟩ = some (.string ⟨S.out.toArray⟩) := (hx.cell 1).trans rfl
 clear hx
 go_enter Tryz.func50, Tryz.ntmps50
 go_wp2_with fail
 go_ret
 exact ⟨rfl, rfl⟩
theorem out24 (K : MK) (S : St) (W : World) (h : AtW K S W) : Calls Tryz.prog 17 #[.pointer (some ⟨K.b, 0, none⟩)] W fun e w' => e = .returned (.string ⟨S.out.toArray⟩) ∧ W = w' := by
 obtain ⟨cs, hx, A, c, a, rfl⟩ := h.box
 obtain ⟨re, im, _, ht⟩ := h.term
 have c0 : W.cell? ⟨K.b, 0, none⟩ = some (.pointer (some ⟨K.bt, 0, none⟩)) := (hx.cell 0).trans rfl
 have HT := Lib.hid ht
 clear hx ht h
 go_enter Tryz.func17, Tryz.ntmps17
 go_wp2_with (first | (go_at_call 50; refine (outT24 K.bt S.out K S rfl rfl re im _ HT.out).mono ?_; rintro e w' ⟨rfl, rfl⟩))
 go_ret
 exact ⟨rfl, rfl⟩
theorem Env.below24 {W W' : World} (h : Env W) (hb : Below W.heap.size W W') : Env W' := ⟨h.sp.later hb, h.p10.grow hb⟩
theorem envK24 {W W' : World} {K : MK} (h : Env W) (hb : Below W.heap.size W W') (hk : ∀ b ∈ K.bs, W.heap.size ≤ b) : EnvK K W' := fun _W2 ho => h.below24 (hb.trans (ho.below hb.size hk))
def eE (S : St) : Array Value := #[.int .u8 ((endOf S).1 : Nat), .int .u8 ((endOf S).2.1 : Nat), .int .i64 (endOf S).2.2]
theorem AtW.later {K : MK} {S : St} {W W' : World} (h : AtW K S W) (hs : ∀ b ∈ K.bs, W'.heap[b]? = W.heap[b]?) (k : KOk K) : AtW K S W' := by
 obtain ⟨cs, hx, A, c, a, e⟩ := h.box
 obtain ⟨re, im, hre, ht⟩ := h.term
 exact ⟨⟨cs, (hs _ k.hb).trans hx, A, c, a, e⟩, ⟨re, im, hre, (hs _ k.ht).trans ht⟩, h.mem.later (hs _ k.hm), h.hp.later rfl rfl (hs _ k.hh) (hs _ k.hq)⟩
end Go.Proofs.YtabenhpjgjjgnaaGreatDoor
/- The library's sort of words, part one. -/
namespace Go.Proofs.YtabenhpjgjjgnaaGreatDoor
open Go.RowKit
set_option maxRecDepth 100000
attribute [local go_sem ↓] Go.wp_at_zero Go.wp_at_succ
def slotN : Value → Nat | .int _ q => q.toNat | _ => 0
def slotM : Value → Nat | .int _ q => (q + 1).toNat | _ => 0
def RowU (blk off n : Nat) (W : World) : Prop := ∃ cs T, Bx blk cs T W ∧ ∀ t, t < n → ∃ x : Int, cs[off + t]? = some (.int .u16 x)
theorem RowU.lt {blk off n : Nat} {W : World} (h : RowU blk off n W) : blk < W.heap.size := by
 obtain ⟨_, _, hx, _⟩ := h
 exact hx.lt
theorem RowU.fam {blk off n : Nat} {W : World} (h : RowU blk off n W) : ∃ G : Nat → Int, (∀ t, t < n → W.cell? ⟨blk, off + t, none⟩ = some (.int .u16 (G t))) ∧ ∀ t, t < n → W.frozen? ⟨blk, off + t, none⟩ = false := by
 obtain ⟨cs, T, hx, hc⟩ := h
 refine ⟨fun t => match cs[off + t]? with | some (.int _ x) => x | _ => 0, fun t ht => ?_, fun t _ => hx.frozen _⟩
 obtain ⟨x, e⟩ := hc t ht
 rw [hx.cell, e]; dsimp only; rw [e]
structure Fr (blk off n : Nat) (W W' : World) : Prop where
 only : Only [blk] W W'
 row : RowU blk off n W'
section
variable {blk off n : Nat} {W W' W'' : World}
theorem Fr.refl (h : RowU blk off n W) : Fr blk off n W W := ⟨Only.refl _ _, h⟩
theorem Fr.trans (h : Fr blk off n W W') (k : Fr blk off n W' W'') : Fr blk off n W W'' := ⟨h.only.trans k.only, k.row⟩
theorem RowU.grow (h : RowU blk off n W) (hb : Below W.heap.size W W') : RowU blk off n W' := by
 obtain ⟨cs, T, hx, hc⟩ := h
 exact ⟨cs, T, hx.grow hb, hc⟩
theorem Fr.grow (h : Fr blk off n W W') (hb : Below W'.heap.size W' W'') : Fr blk off n W W'' := ⟨h.only.trans (Only.of_below hb), h.row.grow hb⟩
theorem Fr.drew (h : Fr blk off n W W') (k : Nat) : Fr blk off n W (W'.drewN k) := h.grow ⟨rfl, rfl, rfl, Nat.le_refl _, fun _ _ => rfl⟩
theorem Fr.drew1 (h : Fr blk off n W W') : Fr blk off n W W'.drew := h.grow ⟨rfl, rfl, rfl, Nat.le_refl _, fun _ _ => rfl⟩
theorem RowU.set (h : RowU blk off n W) (i : Nat) (x : Int) : RowU blk off n (W.setCell ⟨blk, off + i, none⟩ (.int .u16 x)) := by
 obtain ⟨cs, T, hx, hc⟩ := h
 refine ⟨_, T, hx.set (off + i) (.int .u16 x), fun t ht => ?_⟩
 obtain ⟨y, e⟩ := hc t ht
 rw [Array.getElem?_setIfInBounds]
 by_cases hti : off + i = off + t
 ·rw [if_pos hti, if_pos (by have := (Array.getElem?_eq_some_iff.1 e).1; omega)]
  exact ⟨x, rfl⟩
 ·rw [if_neg hti]; exact ⟨y, e⟩
theorem Fr.set (h : Fr blk off n W W') (i : Nat) (x : Int) : Fr blk off n W (W'.setCell ⟨blk, off + i, none⟩ (.int .u16 x)) := ⟨h.only.setCell (List.mem_singleton.2 rfl) _, h.row.set i x⟩
end
theorem nan_u (x : Int) (w : World) : Calls Tryz.prog 333 #[.int .u16 x] w fun e w' => e = .returned (.bool false) ∧ w' = w := by
 go_enter Tryz.func333, Tryz.ntmps333
 go_wp2_with fail
 go_ret
 exact ⟨by simp, rfl⟩
theorem less_u (x y : Int) (w : World) : Calls Tryz.prog 312 #[.int .u16 x, .int .u16 y] w fun e w' => e = .returned (.bool (decide (x < y))) ∧ w' = w := by
 go_enter Tryz.func312, Tryz.ntmps312
 go_wp2_with (go_at_call 333; refine (nan_u _ _).mono ?_; rintro e w' ⟨rfl, rfl⟩)
 go_ret
 exact ⟨rfl, rfl⟩
set_option maxHeartbeats 4000000 in
theorem ins_u (blk off n cap a b : Nat) (W : World) (hR : RowU blk off n W) (hab : a ≤ b) (hb : b ≤ n) (hn : n < 4611686018427387904) :
 Calls Tryz.prog 306 #[.slice (some ⟨blk, off, none⟩) n cap, .int .i64 a, .int .i64 b] W fun e w' => e = .returned (.tuple #[]) ∧ Fr blk off n W w' := by
 have H0 := Lib.hid (Fr.refl hR)
 clear hR
 go_enter Tryz.func306, Tryz.ntmps306
 go_wp2_with fail
 go_loopw [6] (fun vi wr => ∃ i : Nat, vi = .int .i64 i ∧ a < i ∧ i ≤ b + 1 ∧ Fr blk off n W wr) (fun vi _ => b + 1 - slotN vi)
 case atStart => exact ⟨a + 1, by go_num, by omega, by omega, H0.out⟩
 case round =>
  obtain ⟨i, rfl, hai, hib, hF⟩ := hrel
  have HF := Lib.hid hF
  clear hF H0
  go_wp2_with fail
  ·have hlt : i < b := by assumption
   go_loopw [7] (fun vj wr2 => ∃ j : Nat, vj = .int .i64 j ∧ a ≤ j ∧ j ≤ i ∧ Fr blk off n W wr2) (fun vj _ => slotN vj)
   case atStart => exact ⟨i, rfl, by omega, Nat.le_refl _, HF.out⟩
   case round =>
    obtain ⟨j, rfl, haj, hji, hF2⟩ := hrel
    obtain ⟨G, hc, hf⟩ := hF2.row.fam
    have HF2 := Lib.hid hF2
    clear hF2 HF
    go_wp2_with fail
    by_cases hja : a < j
    ·go_big_quiet (first | (go_at_call 312; refine Calls.quiet_of_same (less_u _ _ _)))
     go_wp2_with fail
     ·go_region
      all_goals go_wp2_with fail
      go_roundw
      case rel =>
       exact ⟨j - 1, by congr 1; omega, by omega, by omega, ((HF2.out.drew _).set _ _).set _ _⟩
      case measure => simp [slotN]; omega
     ·go_roundw
      case rel => exact ⟨i + 1, by go_num, by omega, by omega, HF2.out.drew _⟩
      case measure => simp [slotN]; omega
    ·go_big_quiet (first | (go_at_call 312; refine Calls.quiet_of_same (less_u _ _ _)))
     go_wp2_with fail
     go_roundw
     case rel => exact ⟨i + 1, by go_num, by omega, by omega, HF2.out.drew _⟩
     case measure => simp [slotN]; omega
  ·go_end0
   exact ⟨rfl, HF.out⟩
set_option maxHeartbeats 4000000 in
theorem sift_u (blk off n cap lo hi first : Nat) (W : World) (hR : RowU blk off n W) (hlo : lo ≤ n) (hb : first + hi ≤ n) (hn : n ≤ 1000000000) :
 Calls Tryz.prog 328 #[.slice (some ⟨blk, off, none⟩) n cap, .int .i64 lo, .int .i64 hi, .int .i64 first] W fun e w' => e = .returned (.tuple #[]) ∧ Fr blk off n W w' := by
 have H0 := Lib.hid (Fr.refl hR)
 clear hR
 go_enter Tryz.func328, Tryz.ntmps328
 go_wp2_with fail
 go_loopw [8] (fun v wr => ∃ r : Nat, v = .int .i64 r ∧ r ≤ n ∧ Fr blk off n W wr) (fun v _ => n - slotN v)
 case atStart => exact ⟨lo, rfl, hlo, H0.out⟩
 case round =>
  obtain ⟨r, rfl, hr, hF⟩ := hrel
  obtain ⟨G, hc, hf⟩ := hF.row.fam
  have HF := Lib.hid hF
  clear hF H0
  by_cases h0 : hi ≤ 2 * r + 1
  ·have h0z : (hi : Int) ≤ 2 * (r : Int) + 1 := by omega
   go_wp2_with fail
   go_end0
   exact ⟨rfl, HF.out⟩
  ·have h0z : ¬ (hi : Int) ≤ 2 * (r : Int) + 1 := by omega
   by_cases h1 : 2 * r + 2 < hi
   ·have h1z : 2 * (r : Int) + 1 + 1 < (hi : Int) := by omega
    go_wp2_with fail
    go_big_quiet (first | (go_at_call 312; refine Calls.quiet_of_same (less_u _ _ _)))
    go_wp2_with fail
    all_goals
     have hF2 := HF.out.drew nq
     obtain ⟨G2, hc2, hf2⟩ := hF2.row.fam
     have HF2 := Lib.hid hF2
     clear hF2 hc hf HF
     generalize wr.drewN nq = wr2 at *
     go_big_quiet (first | (go_at_call 312; refine Calls.quiet_of_same (less_u _ _ _)))
     go_wp2_with fail
    ·(try simp only [Exit.inBlock, Exit.then]); refine bodyPost_ret (results_none rfl _ _ _) rfl ?_
     exact ⟨rfl, HF2.out.drew _⟩
    ·have hF3 := HF2.out.drew nq
     obtain ⟨G3, hc3, hf3⟩ := hF3.row.fam
     have HF3 := Lib.hid hF3
     clear hF3 hc2 hf2 HF2
     generalize wr2.drewN nq = wr3 at *
     go_region
     all_goals go_wp2_with fail
     go_roundw
     case rel => exact ⟨2 * r + 2, by congr 1 <;> omega, by omega, ((HF3.out.drew _).set _ _).set _ _⟩
     case measure => simp [slotN]; omega
    ·(try simp only [Exit.inBlock, Exit.then]); refine bodyPost_ret (results_none rfl _ _ _) rfl ?_
     exact ⟨rfl, HF2.out.drew _⟩
    ·have hF3 := HF2.out.drew nq
     obtain ⟨G3, hc3, hf3⟩ := hF3.row.fam
     have HF3 := Lib.hid hF3
     clear hF3 hc2 hf2 HF2
     generalize wr2.drewN nq = wr3 at *
     go_region
     all_goals go_wp2_with fail
     go_roundw
     case rel => exact ⟨2 * r + 1, by congr 1 <;> omega, by omega, ((HF3.out.drew _).set _ _).set _ _⟩
     case measure => simp [slotN]; omega
   ·have h1z : decide (2 * (r : Int) + 1 + 1 < (hi : Int)) = false := decide_eq_false (by omega)
    go_wp2_with fail
    go_big_quiet (first | (go_at_call 312; refine Calls.quiet_of_same (less_u _ _ _)))
    go_wp2_with fail
    have hF2 := HF.out.drew nq
    obtain ⟨G2, hc2, hf2⟩ := hF2.row.fam
    have HF2 := Lib.hid hF2
    clear hF2 hc hf HF
    generalize wr.drewN nq = wr2 at *
    go_big_quiet (first | (go_at_call 312; refine Calls.quiet_of_same (less_u _ _ _)))
    go_wp2_with fail
    ·(try simp only [Exit.inBlock, Exit.then]); refine bodyPost_ret (results_none rfl _ _ _) rfl ?_
     exact ⟨rfl, HF2.out.drew _⟩
    ·have hF3 := HF2.out.drew nq
     obtain ⟨G3, hc3, hf3⟩ := hF3.row.fam
     have HF3 := Lib.hid hF3
     clear hF3 hc2 hf2 HF2
     generalize wr2.drewN nq = wr3 at *
     go_region
     all_goals go_wp2_with fail
     go_roundw
     case rel => exact ⟨2 * r + 1, by congr 1 <;> omega, by omega, ((HF3.out.drew _).set _ _).set _ _⟩
     case measure => simp [slotN]; omega
end Go.Proofs.YtabenhpjgjjgnaaGreatDoor
/- The library's sort of words, part two. -/
namespace Go.Proofs.YtabenhpjgjjgnaaGreatDoor
open Go.RowKit
set_option maxRecDepth 100000
attribute [local go_sem ↓] Go.wp_at_zero Go.wp_at_succ
def Sw (sb s : Nat) (W : World) : Prop := Bx sb #[.int .i64 s] 3 W
theorem Sw.cell {sb s : Nat} {W : World} (h : Sw sb s W) : W.cell? ⟨sb, 0, none⟩ = some (.int .i64 s) := (Bx.cell h 0).trans rfl
theorem RowU.only {blk off n : Nat} {bs : List Nat} {W W' : World} (h : RowU blk off n W) (ho : Only bs W W') (hn : blk ∉ bs) : RowU blk off n W' := by
 obtain ⟨cs, T, hx, hc⟩ := h
 exact ⟨cs, T, hx.only ho hn, hc⟩
set_option maxHeartbeats 2000000 in
theorem order2_u (blk off n cap a b sb s : Nat) (W : World) (hR : RowU blk off n W) (ha : a < n) (hb : b < n) (hn : n ≤ 1000000000) (hs : Sw sb s W) (hs1 : s ≤ 1000) (hne : blk ≠ sb) :
 Calls Tryz.prog 342 #[.slice (some ⟨blk, off, none⟩) n cap, .int .i64 a, .int .i64 b, .pointer (some ⟨sb, 0, none⟩)] W fun e w' => ∃ s', s' ≤ s + 1 ∧ (e = .returned (.tuple #[.int .i64 a, .int .i64 b]) ∨ e = .returned (.tuple #[.int .i64 b, .int .i64 a])) ∧ Only [sb] W w' ∧ Sw sb s' w' := by
 obtain ⟨G, hc, hf⟩ := hR.fam
 have c0 := hs.cell
 have f0 : W.frozen? ⟨sb, 0, none⟩ = false := Bx.frozen hs 0
 have HS := Lib.hid hs
 clear hR hs
 go_enter Tryz.func342, Tryz.ntmps342
 go_wp2_with fail
 go_big_quiet (first | (go_at_call 312; refine Calls.quiet_of_same (less_u _ _ _)))
 go_wp2_with fail
 ·go_ret2
  have h1 : Sw sb s (W.drewN nq) := HS.out
  exact ⟨s + 1, by omega, .inr rfl, (Only.of_below ⟨rfl, rfl, rfl, Nat.le_refl _, fun _ _ => rfl⟩ : Only [sb] W (W.drewN nq)).setCell (List.mem_singleton.2 rfl) _, (Bx.set h1 0 (.int .i64 ((s : Int) + 1))).to (by simp)⟩
 ·go_ret2
  exact ⟨s, by omega, .inl rfl, (Only.refl _ _).trans (Only.of_below ⟨rfl, rfl, rfl, Nat.le_refl _, fun _ _ => rfl⟩), HS.out⟩
theorem med_u (blk off n cap a b c sb s : Nat) (W : World) (hR : RowU blk off n W) (ha : a < n) (hb : b < n) (hc : c < n) (hn : n ≤ 1000000000) (hs : Sw sb s W) (hs1 : s ≤ 900) (hne : blk ≠ sb) :
 Calls Tryz.prog 332 #[.slice (some ⟨blk, off, none⟩) n cap, .int .i64 a, .int .i64 b, .int .i64 c, .pointer (some ⟨sb, 0, none⟩)] W fun e w' => ∃ s' m : Nat, s' ≤ s + 3 ∧ e = .returned (.int .i64 m) ∧ (m = a ∨ m = b ∨ m = c) ∧ Only [sb] W w' ∧ Sw sb s' w' := by
 have hno : blk ∉ [sb] := by simpa using hne
 have H1 := Lib.hid (order2_u blk off n cap a b sb s W hR ha hb hn hs (by omega) hne)
 have HR := Lib.hid hR
 clear hR hs
 go_enter Tryz.func332, Tryz.ntmps332
 go_wp2_with fail
 refine H1.out.mono ?_
 rintro e w1 ⟨s1, hs1, he, ho1, hS1⟩
 have HO1 := Lib.hid ho1
 have HS1 := Lib.hid hS1
 have HE := Lib.hid (show ∃ a1 b1 : Nat, e = .returned (.tuple #[.int .i64 a1, .int .i64 b1]) ∧ (a1 < n ∧ b1 < n) ∧ (a1 = a ∨ a1 = b) ∧ (b1 = a ∨ b1 = b) by
  rcases he with h | h
  ·exact ⟨a, b, h, ⟨ha, hb⟩, .inl rfl, .inr rfl⟩
  ·exact ⟨b, a, h, ⟨hb, ha⟩, .inr rfl, .inl rfl⟩)
 clear H1 ho1 hS1 he
 obtain ⟨a1, b1, rfl, ⟨ha1, hb1⟩, ea1, eb1⟩ := HE.out
 have H2 := Lib.hid (order2_u blk off n cap b1 c sb s1 w1 (HR.out.only HO1.out hno) hb1 hc hn HS1.out (by omega) hne)
 go_wp2_with fail
 refine H2.out.mono ?_
 rintro e w2 ⟨s2, hs2, he, ho2, hS2⟩
 have HO2 := Lib.hid (HO1.out.trans ho2)
 have HS2 := Lib.hid hS2
 have HE2 := Lib.hid (show ∃ b2 c2 : Nat, e = .returned (.tuple #[.int .i64 b2, .int .i64 c2]) ∧ b2 < n ∧ (b2 = a ∨ b2 = b ∨ b2 = c) by
  rcases he with h | h
  ·exact ⟨b1, c, h, hb1, by omega⟩
  ·exact ⟨c, b1, h, hc, by omega⟩)
 clear H2 ho2 hS2 he HE
 obtain ⟨b2, c2, rfl, hb2, eb2⟩ := HE2.out
 have H3 := Lib.hid (order2_u blk off n cap a1 b2 sb s2 w2 (HR.out.only HO2.out hno) ha1 hb2 hn HS2.out (by omega) hne)
 go_wp2_with fail
 refine H3.out.mono ?_
 rintro e w3 ⟨s3, hs3, he, ho3, hS3⟩
 have HO3 := Lib.hid (HO2.out.trans ho3)
 have HS3 := Lib.hid hS3
 have HE3 := Lib.hid (show ∃ a3 b3 : Nat, e = .returned (.tuple #[.int .i64 a3, .int .i64 b3]) ∧ (b3 = a ∨ b3 = b ∨ b3 = c) by
  rcases he with h | h
  ·exact ⟨a1, b2, h, eb2⟩
  ·exact ⟨b2, a1, h, by omega⟩)
 clear H3 ho3 hS3 he HE2
 obtain ⟨a3, b3, rfl, eb3⟩ := HE3.out
 go_wp2_with fail
 go_ret
 exact ⟨s3, b3, by omega, rfl, eb3, HO3.out, HS3.out⟩
theorem medAdj_u (blk off n cap a sb s : Nat) (W : World) (hR : RowU blk off n W) (ha : 1 ≤ a) (hb : a + 1 < n) (hn : n ≤ 1000000000) (hs : Sw sb s W) (hs1 : s ≤ 900) (hne : blk ≠ sb) :
 Calls Tryz.prog 331 #[.slice (some ⟨blk, off, none⟩) n cap, .int .i64 a, .pointer (some ⟨sb, 0, none⟩)] W fun e w' => ∃ s' m : Nat, s' ≤ s + 3 ∧ e = .returned (.int .i64 m) ∧ (a ≤ m + 1 ∧ m ≤ a + 1) ∧ Only [sb] W w' ∧ Sw sb s' w' := by
 have H1 := med_u blk off n cap (a - 1) a (a + 1) sb s W hR (by omega) (by omega) hb hn hs hs1 hne
 rw [show ((a - 1 : Nat) : Int) = (a : Int) - 1 by omega, show ((a + 1 : Nat) : Int) = (a : Int) + 1 by omega] at H1
 have H1 := Lib.hid H1
 clear hR hs
 go_enter Tryz.func331, Tryz.ntmps331
 go_wp2_with fail
 refine H1.out.mono ?_
 rintro e w1 ⟨s1, m, hs1, rfl, hm, ho1, hS1⟩
 go_wp2_with fail
 go_ret
 exact ⟨s1, m, hs1, rfl, by omega, ho1, hS1⟩
set_option maxHeartbeats 2000000 in
theorem pivot_u (blk off n cap a b : Nat) (W : World) (hR : RowU blk off n W) (hab : a + 8 ≤ b) (hb : b ≤ n) (hn : n ≤ 1000000000) :
 Calls Tryz.prog 309 #[.slice (some ⟨blk, off, none⟩) n cap, .int .i64 a, .int .i64 b] W fun e w' => ∃ p h : Nat, e = .returned (.tuple #[.int .i64 p, .int .i64 h]) ∧ (a ≤ p ∧ p < b) ∧ Below W.heap.size W w' := by
 obtain ⟨l, h1, h2⟩ : ∃ l, a + l ≤ b ∧ b ≤ a + l := ⟨b - a, by omega, by omega⟩
 have eh : (b : Int) - (a : Int) = (l : Int) := by omega
 have h8 : (8 : Int) ≤ (l : Int) := by omega
 have hne : blk ≠ W.heap.size := Nat.ne_of_lt hR.lt
 have HR := Lib.hid hR
 obtain ⟨q, hq0, hq1⟩ : ∃ q, 4 * q ≤ l ∧ l ≤ 4 * q + 3 := ⟨l / 4, by omega, by omega⟩
 obtain ⟨i, hi0, hi1⟩ : ∃ i, a + q ≤ i ∧ i ≤ a + q := ⟨_, Nat.le_refl _, Nat.le_refl _⟩
 obtain ⟨j, hj0, hj1⟩ : ∃ j, a + q * 2 ≤ j ∧ j ≤ a + q * 2 := ⟨_, Nat.le_refl _, Nat.le_refl _⟩
 obtain ⟨k, hk0, hk1⟩ : ∃ k, a + q * 3 ≤ k ∧ k ≤ a + q * 3 := ⟨_, Nat.le_refl _, Nat.le_refl _⟩
 have eq : (l : Int) / 4 = (q : Int) := by omega
 have ei : (a : Int) + (q : Int) = (i : Int) := by omega
 have ej : (a : Int) + (q : Int) * 2 = (j : Int) := by omega
 have ek : (a : Int) + (q : Int) * 3 = (k : Int) := by omega
 have HA := Lib.hid (fun (b : Nat) (hb : b < W.heap.size) => (alloc_below W (.cells #[.int .i64 0] 3)).block b hb)
 have HS0 := Lib.hid (show Sw W.heap.size 0 (W.alloc (.cells #[.int .i64 0] 3)) from Bx.new W #[.int .i64 0] 3)
 have HR0 := Lib.hid (hR.grow (alloc_below W (.cells #[.int .i64 0] 3)))
 have HB0 := Lib.hid (alloc_below W (.cells #[.int .i64 0] 3))
 clear hR HA HR
 go_enter Tryz.func309, Tryz.ntmps309
 go_upto_if 32 with fail
 generalize W.alloc (.cells #[.int .i64 0] 3) = w0 at *
 go_cut [10, 11, 12] (fun _ v _ wx => ∃ p s : Nat, v = .int .i64 p ∧ (a ≤ p ∧ p < b) ∧ Below W.heap.size W wx ∧ Sw W.heap.size s wx)
 case first =>
  go_upto_if 34 with fail
  go_cut [10, 11, 12] (fun x y z wx => ∃ i j k s : Nat, x = .int .i64 i ∧ y = .int .i64 j ∧ z = .int .i64 k ∧ (a ≤ i ∧ i < b) ∧ (a ≤ j ∧ j < b) ∧ (a ≤ k ∧ k < b) ∧ s ≤ 900 ∧ Below W.heap.size W wx ∧ RowU blk off n wx ∧ Sw W.heap.size s wx)
  case first =>
   by_cases h50 : 50 ≤ l
   ·have hI : (50 : Int) ≤ (l : Int) := by omega
    have H1 := Lib.hid (medAdj_u blk off n cap i W.heap.size 0 w0 HR0.out (by omega) (by omega) hn HS0.out (by omega) hne)
    go_wp2_with fail
    refine H1.out.mono ?_
    rintro e w1 ⟨s1, m1, hs1, rfl, hm1, ho1, hS1⟩
    have HR1 := Lib.hid (HR0.out.only ho1 (by simpa using hne))
    have HB1 := Lib.hid (HB0.out.trans (ho1.below HB0.out.size (by simp)))
    have H2 := Lib.hid (medAdj_u blk off n cap j W.heap.size s1 w1 HR1.out (by omega) (by omega) hn hS1 (by omega) hne)
    clear H1 ho1 hS1
    go_wp2_with fail
    refine H2.out.mono ?_
    rintro e w2 ⟨s2, m2, hs2, rfl, hm2, ho2, hS2⟩
    have HR2 := Lib.hid (HR1.out.only ho2 (by simpa using hne))
    have HB2 := Lib.hid (HB1.out.trans (ho2.below HB1.out.size (by simp)))
    have H3 := Lib.hid (medAdj_u blk off n cap k W.heap.size s2 w2 HR2.out (by omega) (by omega) hn hS2 (by omega) hne)
    clear H2 ho2 hS2
    go_wp2_with fail
    refine H3.out.mono ?_
    rintro e w3 ⟨s3, m3, hs3, rfl, hm3, ho3, hS3⟩
    have HR3 := Lib.hid (HR2.out.only ho3 (by simpa using hne))
    have HB3 := Lib.hid (HB2.out.trans (ho3.below HB2.out.size (by simp)))
    have HS3 := Lib.hid hS3
    clear H3 ho3 hS3
    go_wp2_with fail
    go_meet
    exact ⟨m1, m2, m3, s3, rfl, rfl, rfl, by omega, by omega, by omega, by omega, HB3.out, HR3.out, HS3.out⟩
   ·have hI : ¬ (50 : Int) ≤ (l : Int) := by omega
    go_wp2_with fail
    go_meet
    exact ⟨i, j, k, 0, rfl, rfl, rfl, by omega, by omega, by omega, by omega, HB0.out, HR0.out, HS0.out⟩
  case rest =>
   obtain ⟨i2, j2, k2, s2, rfl, rfl, rfl, hi2, hj2, hk2, hs2, hB2, hR2, hS2⟩ := hcut
   have H4 := Lib.hid (med_u blk off n cap i2 j2 k2 W.heap.size s2 wc hR2 (by omega) (by omega) (by omega) hn hS2 hs2 hne)
   have HB2 := Lib.hid hB2
   clear hB2 hR2 hS2 HR0 HB0 HS0
   go_wp2_with fail
   refine H4.out.mono ?_
   rintro e w4 ⟨s4, m4, hs4, rfl, hm4, ho4, hS4⟩
   have HB4 := Lib.hid (HB2.out.trans (ho4.below HB2.out.size (by simp)))
   have HS4 := Lib.hid hS4
   clear H4 ho4 hS4
   go_wp2_with fail
   go_meet
   exact ⟨m4, s4, rfl, by omega, HB4.out, HS4.out⟩
 case rest =>
  obtain ⟨p, s, rfl, hp, hB, hS⟩ := hcut
  have HB := Lib.hid hB
  have c0 := hS.cell
  clear hB hS HR0 HB0 HS0
  go_wp2_with fail
  ·go_ret2
   exact ⟨p, 1, rfl, hp, HB.out⟩
  ·go_ret2
   exact ⟨p, 2, rfl, hp, HB.out⟩
  ·go_ret2
   exact ⟨p, 0, rfl, hp, HB.out⟩
end Go.Proofs.YtabenhpjgjjgnaaGreatDoor
/- The library's sort of words, part three. -/
namespace Go.Proofs.YtabenhpjgjjgnaaGreatDoor
open Go.RowKit
set_option maxRecDepth 100000
attribute [local go_sem ↓] Go.wp_at_zero Go.wp_at_succ
set_option maxHeartbeats 4000000 in
theorem rev_u (blk off n cap a b : Nat) (W : World) (hR : RowU blk off n W) (hab : a < b) (hb : b ≤ n) (hn : n ≤ 1000000000) :
 Calls Tryz.prog 310 #[.slice (some ⟨blk, off, none⟩) n cap, .int .i64 a, .int .i64 b] W fun e w' => e = .returned (.tuple #[]) ∧ Fr blk off n W w' := by
 have H0 := Lib.hid (Fr.refl hR)
 clear hR
 go_enter Tryz.func310, Tryz.ntmps310
 go_wp2_with fail
 go_loopw [6, 7] (fun vi vj wr => ∃ i j : Nat, vi = .int .i64 i ∧ vj = .int .i64 j ∧ i ≤ n ∧ j < n ∧ Fr blk off n W wr) (fun _ vj _ => slotN vj)
 case atStart => exact ⟨a, b - 1, rfl, by congr 1 <;> omega, by omega, by omega, H0.out⟩
 case round =>
  obtain ⟨i, j, rfl, rfl, hi, hj, hF⟩ := hrel
  obtain ⟨G, hc, hf⟩ := hF.row.fam
  have HF := Lib.hid hF
  clear hF H0
  go_wp2_with fail
  ·have hlt : i < j := by assumption
   go_region
   all_goals go_wp2_with fail
   go_roundw
   case rel => exact ⟨i + 1, j - 1, by congr 1 <;> omega, by congr 1 <;> omega, by omega, by omega, ((HF.out.drew _).set _ _).set _ _⟩
   case measure => simp [slotN]; omega
  ·go_end0
   exact ⟨rfl, HF.out⟩
set_option maxHeartbeats 4000000 in
theorem heap_u (blk off n cap a b : Nat) (W : World) (hR : RowU blk off n W) (hab : a < b) (hb : b ≤ n) (hn : n ≤ 1000000000) :
 Calls Tryz.prog 307 #[.slice (some ⟨blk, off, none⟩) n cap, .int .i64 a, .int .i64 b] W fun e w' => e = .returned (.tuple #[]) ∧ Fr blk off n W w' := by
 have H0 := Lib.hid (Fr.refl hR)
 obtain ⟨h, h1, h2⟩ : ∃ h, a + h ≤ b ∧ b ≤ a + h := ⟨b - a, by omega, by omega⟩
 have eh : (b : Int) - (a : Int) = (h : Int) := by omega
 clear hR
 go_enter Tryz.func307, Tryz.ntmps307
 go_wp2_with fail
 go_loopw [9] (fun v wr => ∃ i : Nat, v = .int .i64 ((i : Int) - 1) ∧ i ≤ n ∧ Fr blk off n W wr) (fun v _ => slotM v)
 case atStart => exact ⟨(h - 1) / 2 + 1, by congr 1; omega, by omega, H0.out⟩
 case round =>
  obtain ⟨i, rfl, hi, hF⟩ := hrel
  have HF := Lib.hid hF
  clear hF H0
  rcases Nat.eq_zero_or_pos i with rfl | hi0
  ·rw [show ((0 : Nat) : Int) - 1 = -1 from rfl]
   go_wp2_with fail
   go_loopw [10] (fun v wr => ∃ i : Nat, v = .int .i64 ((i : Int) - 1) ∧ i ≤ h ∧ Fr blk off n W wr) (fun v _ => slotM v)
   case atStart => exact ⟨h, rfl, Nat.le_refl _, HF.out⟩
   case round =>
    obtain ⟨i, rfl, hi, hF⟩ := hrel
    have HF2 := Lib.hid hF
    clear hF HF
    rcases Nat.eq_zero_or_pos i with rfl | hi0
    ·go_wp2_with fail
     go_end0
     exact ⟨rfl, HF2.out⟩
    ·obtain ⟨i, rfl⟩ : ∃ k, i = k + 1 := ⟨i - 1, by omega⟩
     have ei : ((i + 1 : Nat) : Int) - 1 = (i : Int) := by omega
     rw [ei]
     clear ei
     obtain ⟨G, hc, hf⟩ := HF2.out.row.fam
     go_wp2_with fail
     rcases Nat.eq_zero_or_pos i with rfl | hip
     ·go_region
      have HF3 := Lib.hid ((HF2.out.set a (G a)).set a (G a)).drew1
      have HS := Lib.hid (sift_u blk off n cap 0 0 a _ HF3.out.row (Nat.zero_le _) (by omega) hn)
      clear HF2
      go_wp2_with fail
      refine HS.out.mono ?_
      rintro e w1 ⟨rfl, hF1⟩
      have HF1 := Lib.hid (HF3.out.trans hF1)
      clear HS HF3 hF1 hc hf
      go_wp2_with fail
      go_roundw
      case rel => exact ⟨0, by congr 1, by omega, HF1.out⟩
      case measure => simp [slotM]
     ·go_region
      have HF3 := Lib.hid ((HF2.out.set a (G (a + i))).set (a + i) (G a)).drew1
      have HS := Lib.hid (sift_u blk off n cap 0 i a _ HF3.out.row (Nat.zero_le _) (by omega) hn)
      clear HF2
      go_wp2_with fail
      refine HS.out.mono ?_
      rintro e w1 ⟨rfl, hF1⟩
      have HF1 := Lib.hid (HF3.out.trans hF1)
      clear HS HF3 hF1 hc hf
      go_wp2_with fail
      go_roundw
      case rel => exact ⟨i, by congr 1, by omega, HF1.out⟩
      case measure => simp [slotM]
  ·obtain ⟨i, rfl⟩ : ∃ k, i = k + 1 := ⟨i - 1, by omega⟩
   have ei : ((i + 1 : Nat) : Int) - 1 = (i : Int) := by omega
   rw [ei]
   clear ei
   have HS := Lib.hid (sift_u blk off n cap i h a wr HF.out.row (by omega) (by omega) hn)
   go_wp2_with fail
   refine HS.out.mono ?_
   rintro e w1 ⟨rfl, hF1⟩
   have HF1 := Lib.hid (HF.out.trans hF1)
   clear HS HF hF1
   go_wp2_with fail
   go_roundw
   case rel => exact ⟨i, rfl, by omega, HF1.out⟩
   case measure => simp [slotM]
end Go.Proofs.YtabenhpjgjjgnaaGreatDoor
