/- A machine's step makes a map of what all instructions do. -/
import Derived.Test.YtabenhpjgjjgnaaGreatDoorBam
namespace Go.Proofs.YtabenhpjgjjgnaaGreatDoor
open Go.RowKit
set_option maxRecDepth 100000
attribute [local go_sem ↓] Go.wp_at_zero Go.wp_at_succ
theorem cf_local : ∀ (vs : Array Value) (w : World), (callFunc 71 vs).run Tryz.prog w = .ok (.enter 71 vs) w := fun vs w => by go_simp
theorem cf_jumps : ∀ (vs : Array Value) (w : World), (callFunc 81 vs).run Tryz.prog w = .ok (.enter 81 vs) w := fun vs w => by go_simp
theorem cf_keeps : ∀ (vs : Array Value) (w : World), (callFunc 82 vs).run Tryz.prog w = .ok (.enter 82 vs) w := fun vs w => by go_simp
theorem cf_texts : ∀ (vs : Array Value) (w : World), (callFunc 98 vs).run Tryz.prog w = .ok (.enter 98 vs) w := fun vs w => by go_simp
theorem cf_turns : ∀ (vs : Array Value) (w : World), (callFunc 91 vs).run Tryz.prog w = .ok (.enter 91 vs) w := fun vs w => by go_simp
theorem ex_bs {o : Oper} {a : Act} {w : World} {l : List Nat} (hl : l = [0, 0] ∨ l = [0, 1] ∨ l = [1, 0, 1]) {d : Nat} (ho : o.op = (Kd.bs d l).op) :
 (execOp a.eval o).run Tryz.prog w = .ok (.value (.slice (some ⟨w.heap.size, 0, none⟩) l.length l.length)) (w.alloc (.cells (l.map fun (x : Nat) => Value.int .i64 (x : Int)).toArray 3)) := by
 unfold execOp
 rw [ho]
 rcases hl with rfl | rfl | rfl
 all_goals
  simp only [Kd.op]
  simp only [List.zipIdx_cons, List.zipIdx_nil, List.map_cons, List.map_nil, List.map_toArray, Act.eval, List.length_cons, List.length_nil]
  go_simp
theorem row_new (K : MK) {w : World} (hold : ∀ b ∈ K.bs, b < w.heap.size) (l : List Nat) : Row8 K l (.slice (some ⟨w.heap.size, 0, none⟩) l.length l.length) (w.alloc (.cells (l.map fun (x : Nat) => Value.int .i64 (x : Int)).toArray 3)) := by
 refine ⟨w.heap.size, rfl, .inr ⟨w.heap.size, 0, rfl, by rw [mask_size]; simp, fun j hj => ?_⟩⟩
 have hn : w.heap.size ∉ K.bs := fun hm => by have := hold _ hm; omega
 have hj' : j < l.length := by simpa [natI] using hj
 have hc : (mask K.bs (w.alloc (.cells (l.map fun (x : Nat) => Value.int .i64 (x : Int)).toArray 3))).cell? ⟨w.heap.size, 0 + j * 1, none⟩ = (w.alloc (.cells (l.map fun (x : Nat) => Value.int .i64 (x : Int)).toArray 3)).cell? ⟨w.heap.size, 0 + j * 1, none⟩ := by
  unfold World.cell?
  rw [mask_at _ _ hn]
 show (mask K.bs _).cell? _ = _
 rw [hc, Bx.cell (Bx.new w _ _)]
 simp [natI, List.getD_eq_getElem?_getD, hj']
theorem Spec.free {K : MK} {B0 r r' : Nat} {k : Kd} {v : Value} {w : World} (h : Spec K B0 r k v w) (h1 : 0 ∉ k.srcs ∨ ∃ key s i, k = .ins key s i) (h2 : k ≠ .mk) (h3 : k ≠ .asg) : Spec K B0 r' k v w := by
 cases k with
 | mk => exact absurd rfl h2
 | asg => exact absurd rfl h3
 | mv => rcases h1 with h1 | ⟨_, _, _, h1⟩
         ·exact absurd (by simp [Kd.srcs]) h1
         ·cases h1
 | _ => exact h
theorem putFM_only {bs : List Nat} {W w : World} {r : Nat} (h : Only bs W w) (hr : W.heap.size ≤ r) (l : List (Nat × Value)) : Only bs W (putFM w r l) := by
 have hsz : (putFM w r l).heap.size = w.heap.size := putObj_size _ _ _
 refine ⟨h.os, h.tape, h.output, by rw [mask_size, mask_size, hsz]; exact h.size, fun k hk => ?_⟩
 by_cases hb : k ∈ bs
 ·rw [mask_in _ _ hb hk, mask_in _ _ hb (by rw [hsz]; exact Nat.lt_of_lt_of_le hk h.size)]
 ·rw [mask_at _ _ hb, mask_at _ _ hb, ← h.block hk hb]
  exact putObj_other (by omega)
section
variable {ops : Array Oper} {Q : Exit → Act → World → Prop} {K : MK} {S : St} {W0 : World} {B0 p : Nat} {n : Int} {base : Array Value} {df : List Deferred}
def J8 (K : MK) (S : St) (W0 : World) (B0 p : Nat) (n : Int) (base : Array Value) (df : List Deferred) (listed : Array Bool) (a : Act) (w : World) : Prop := ∃ r, I8 K S W0 B0 p n base df r listed a w
set_option maxHeartbeats 1000000 in
theorem i8_step (hops : opsOf ops = kindOps) (hed : edgesB ops = true) (hsz : ops.size = 143) (hb1 : base.getD 1 undef = .pointer (some ⟨B0, 0, none⟩)) (listed : Array Bool) (a : Act) (w : World) (j : Nat) (o : Oper) (hJ : J8 K S W0 B0 p n base df listed a w) (hs : listed.size = ops.size) (ho : ops[j]? = some o) (hl : listed.getD j false = false)
 (hall : ∀ e ∈ o.after, Region.binds .any e = true → listed.getD e.on false = true) (hcl : Closed .any ops listed) : wpOp Tryz.prog ops Q j (fun a' w' => J8 K S W0 B0 p n base df (listed.setIfInBounds j true) a' w') a w := by
 obtain ⟨r, h⟩ := hJ
 rw [hsz] at hs
 obtain ⟨k, hk, hd, hop, hg⟩ := op_kind hops ho
 have hwf := kinds_wf k (List.mem_of_getElem? hk)
 have src : ∀ i ∈ k.srcs, listed.getD i false = true := fun i hi => by
  obtain ⟨e, he, hb, rfl⟩ := edges_src hed ho hk hi
  exact hall e he hb
 have t1 : a.eval (.tmp 1) = .pointer (some ⟨B0, 0, none⟩) := (h.old 1 (by omega) (by omega)).trans hb1
 have hold := h.at_.old
 have hnew : ∀ x, w.heap.size ≤ x → x ∉ K.bs := fun x hx hm => by have := hold _ hm; omega
 cases k with
 | mk =>
   have hj0 : j = 0 := dst_once hk (show kinds[0]? = some .mk from rfl) rfl rfl
   subst hj0
   have none_ins : ∀ (i key s i2 : Nat), kinds[i]? = some (Kd.ins key s i2) → listed.getD i false = false := fun i key s i2 hi => by
    cases hli : listed.getD i false with
    | false => rfl
    | true =>
      have hi' : i < ops.size := by have := (List.getElem?_eq_some_iff.1 hi).1; rw [kinds_len] at this; omega
      obtain ⟨e, he, hb, he0⟩ := edges_src hed (show ops[i]? = some ops[i] by simp [hi']) hi (i := 0) (by simp [Kd.srcs])
      have := hcl i ops[i] (by simp [hi']) hli e he hb
      rw [he0] at this; rw [this] at hl; cases hl
   have none_mv : listed.getD 141 false = false := by
    cases hli : listed.getD 141 false with
    | false => rfl
    | true =>
      obtain ⟨e, he, hb, he0⟩ := edges_src hed (show ops[141]? = some ops[141] by simp [hsz]) (show kinds[141]? = some .mv from rfl) (i := 0) (by simp [Kd.srcs])
      have := hcl 141 ops[141] (by simp [hsz]) hli e he hb
      rw [he0] at this; rw [this] at hl; cases hl
   have none_asg : listed.getD 142 false = false := by
    cases hli : listed.getD 142 false with
    | false => rfl
    | true =>
      obtain ⟨e, he, hb, he0⟩ := edges_src hed (show ops[142]? = some ops[142] by simp [hsz]) (show kinds[142]? = some .asg from rfl) (i := 141) (by simp [Kd.srcs])
      have := hcl 142 ops[142] (by simp [hsz]) hli e he hb
      rw [he0] at this; rw [this] at none_mv; cases none_mv
   refine op_val ho hg (ex_mm hop) ⟨w.heap.size, ?_⟩
   rw [hd]
   have hb := alloc_below w (.map #[] 0)
   refine ⟨(put_size _ _ _).trans h.size, (put_defs _ _ _).trans h.defs, fun e he h7 => ?_, fun i k' e hi he hli => ?_, h.at_.grow hb, h.only.trans (Only.of_below hb), (Stay.below hb).cell h.box, (Stay.below hb).cell h.ins, fun _ => ⟨h.only.size, [], FM.new w, List.nodup_nil, fun i key s i2 hi => ?_, fun _ _ hm => by cases hm⟩, h.bqo⟩
   ·show (a.put (some 50) _).tmps.getD e undef = _
    rw [getD_put (by omega)]; exact h.old e he h7
   ·show Spec K B0 _ k' ((a.put (some 50) _).tmps.getD e undef) _
    by_cases hi0 : i = 0
    ·subst hi0
     rw [show kinds[0]? = some Kd.mk from rfl] at hi
     cases hi; cases he
     rw [getD_put_self (by rw [h.size]; omega)]
     rfl
    ·have hne : e ≠ 50 := fun e' => hi0 (dst_once hi (show kinds[0]? = some .mk from rfl) he (by rw [e']; rfl))
     rw [getD_set_ne false (Ne.symm hi0)] at hli
     rw [getD_put hne]
     refine ((h.done i k' e hi he hli).stay (Stay.below hb)).free ?_ ?_ ?_
     ·by_cases hz : 0 ∈ k'.srcs
      ·cases k' with
       | ins key s i2 => exact .inr ⟨_, _, _, rfl⟩
       | mv => have : i = 141 := dst_once hi (show kinds[141]? = some .mv from rfl) rfl rfl
               subst this; rw [none_mv] at hli; cases hli
       | asg => simp [Kd.srcs] at hz
       | mk => simp [Kd.srcs] at hz
       | ld => simp [Kd.srcs] at hz
       | bs => simp [Kd.srcs] at hz
       | m1 => simp [Kd.srcs] at hz
       | mf d f s i2 => have hw := kinds_wf _ (List.mem_of_getElem? hi); simp [Kd.srcs] at hz; subst hz; cases hw
       | cf d f s g i2 k2 gf => obtain ⟨_, hw1, _, _, hw2⟩ := kinds_wf _ (List.mem_of_getElem? hi); simp [Kd.srcs] at hz; rcases hz with rfl | rfl; cases hw1; cases hw2
       | cb d f s b i2 => obtain ⟨_, hw⟩ := kinds_wf _ (List.mem_of_getElem? hi); simp [Kd.srcs] at hz; subst hz; cases hw
       | ct d s n l g i2 k2 => obtain ⟨hw1, hw2⟩ := kinds_wf _ (List.mem_of_getElem? hi); simp [Kd.srcs] at hz; rcases hz with rfl | rfl; cases hw1; cases hw2
       | c0 d s n i2 => have hw := kinds_wf _ (List.mem_of_getElem? hi); simp [Kd.srcs] at hz; subst hz; cases hw
      ·exact .inl hz
     ·rintro rfl
      exact hi0 (dst_once hi (show kinds[0]? = some .mk from rfl) rfl rfl)
     ·rintro rfl
      have : i = 142 := dst_once hi (show kinds[142]? = some .asg from rfl) rfl rfl
      subst this; rw [none_asg] at hli; cases hli
   ·have hne : i ≠ 0 := fun e => by subst e; cases hi
    rw [getD_set_ne false (Ne.symm hne), none_ins i key s i2 hi]
    simp
 | ld d =>
   refine op_val ho hg (ex_load hop t1 h.box) ⟨r, ?_⟩
   rw [hd]
   exact h.put0 hs hk rfl hl (fun e => by subst e; cases hk) rfl
 | mf d f s i =>
   have hv : a.eval (.tmp s) = .pointer (some ⟨K.b, 0, none⟩) := h.done i _ s hwf rfl (src i (by simp [Kd.srcs]))
   refine op_val ho hg (ex_mf hop hv) ⟨r, ?_⟩
   rw [hd]
   exact h.put0 hs hk rfl hl (fun e => by subst e; cases hk) rfl
 | m1 d =>
   refine op_val ho hg (ex_mc hop t1) ⟨r, ?_⟩
   rw [hd]
   exact h.put0 hs hk rfl hl (fun e => by subst e; cases hk) rfl
 | bs d l =>
   refine op_val ho hg (ex_bs hwf hop) ⟨r, ?_⟩
   rw [hd]
   exact h.putB hs hk rfl hl (fun e => by subst e; cases hk) (alloc_below _ _) (row_new K hold l)
 | mv =>
   have hv : a.eval (.tmp 50) = .map (some r) := h.done 0 .mk 50 rfl rfl (src 0 (by simp [Kd.srcs]))
   refine op_val ho hg (ex_mv (.inl hop) hv) ⟨r, ?_⟩
   rw [hd]
   exact h.put0 hs hk rfl hl (fun e => by subst e; cases hk) rfl
 | asg =>
   have hv : a.eval (.tmp 149) = .map (some r) := h.done 141 .mv 149 rfl rfl (src 141 (by simp [Kd.srcs]))
   refine op_val ho hg (ex_mv (.inr hop) hv) ⟨r, ?_⟩
   rw [hd]
   exact h.put0 hs hk rfl hl (fun e => by subst e; cases hk) rfl
 | cf d f s g i k2 gf =>
   obtain ⟨hf, hw1, s', i', hw2⟩ := hwf
   have hv : a.eval (.tmp s) = .pointer (some ⟨K.b, 0, none⟩) := h.done i _ s hw1 rfl (src i (by simp [Kd.srcs]))
   have hu : a.eval (.tmp g) = .func (.func gf) #[.pointer (some ⟨K.b, 0, none⟩)] #[] := h.done k2 _ g hw2 rfl (src k2 (by simp [Kd.srcs]))
   have fin : ∀ e w', MadeFn w (inner f) (.pointer (some ⟨K.b, 0, none⟩)) (.func (.func gf) #[.pointer (some ⟨K.b, 0, none⟩)] #[]) e w' → ∃ v, e = .returned v ∧ J8 K S W0 B0 p n base df (listed.setIfInBounds j true) (a.put o.dst v) w' := by
    rintro e w' ⟨x, y, rfl, hx, hy, cx, cy, hb⟩
    refine ⟨_, rfl, r, ?_⟩
    rw [hd]
    exact h.putB hs hk rfl hl (fun e => by subst e; cases hk) hb ⟨x, y, rfl, hnew x hx, hnew y hy, cx, cy⟩
   rcases hf with rfl | rfl
   ·refine op_call ho hg (ex_call hop cf_global) ?_
    simp only [List.map_toArray, List.map_cons, List.map_nil, hv, hu]
    exact (global_mk K.b _ _ _ w).mono fin
   ·refine op_call ho hg (ex_call hop cf_local) ?_
    simp only [List.map_toArray, List.map_cons, List.map_nil, hv, hu]
    exact (local_mk K.b _ _ _ w).mono fin
 | cb d f s b i =>
   obtain ⟨hf, hw1⟩ := hwf
   have hv : a.eval (.tmp s) = .pointer (some ⟨K.b, 0, none⟩) := h.done i _ s hw1 rfl (src i (by simp [Kd.srcs]))
   have hu : a.eval (.const (.bool b)) = .bool b := rfl
   have fin : ∀ e w', MadeFn w (inner f) (.pointer (some ⟨K.b, 0, none⟩)) (.bool b) e w' → ∃ v, e = .returned v ∧ J8 K S W0 B0 p n base df (listed.setIfInBounds j true) (a.put o.dst v) w' := by
    rintro e w' ⟨x, y, rfl, hx, hy, cx, cy, hb⟩
    refine ⟨_, rfl, r, ?_⟩
    rw [hd]
    exact h.putB hs hk rfl hl (fun e => by subst e; cases hk) hb ⟨x, y, rfl, hnew x hx, hnew y hy, cx, cy⟩
   rcases hf with rfl | rfl | rfl
   ·refine op_call ho hg (ex_call hop cf_jumps) ?_
    simp only [List.map_toArray, List.map_cons, List.map_nil, hv, hu]
    exact (jumps_mk K.b _ w).mono fin
   ·refine op_call ho hg (ex_call hop cf_keeps) ?_
    simp only [List.map_toArray, List.map_cons, List.map_nil, hv, hu]
    exact (keeps_mk K.b _ w).mono fin
   ·refine op_call ho hg (ex_call hop cf_texts) ?_
    simp only [List.map_toArray, List.map_cons, List.map_nil, hv, hu]
    exact (texts_mk K.b _ w).mono fin
 | ct d s m l g i k2 =>
   obtain ⟨hw1, hw2⟩ := hwf
   have hv : a.eval (.tmp s) = .pointer (some ⟨K.b, 0, none⟩) := h.done i _ s hw1 rfl (src i (by simp [Kd.srcs]))
   obtain ⟨A, hu, hI⟩ := h.done k2 _ g hw2 rfl (src k2 (by simp [Kd.srcs]))
   have hu : a.eval (.tmp g) = .slice (some ⟨A, 0, none⟩) l.length l.length := hu
   have hc : a.eval (.const (.int .i64 (m : Int))) = .int .i64 (m : Int) := rfl
   refine op_call ho hg (ex_call hop cf_turns) ?_
   simp only [List.map_toArray, List.map_cons, List.map_nil, hv, hu, hc]
   refine (turns_mk K.b _ _ _ _ w).mono ?_
   rintro e w' ⟨x, y, z, rfl, hx, hy, hz, cx, cy, cz, hb⟩
   refine ⟨_, rfl, r, ?_⟩
   rw [hd]
   exact h.putB hs hk rfl hl (fun e => by subst e; cases hk) hb ⟨x, y, z, _, _, rfl, hnew x hx, hnew y hy, hnew z hz, cx, cy, cz, hI.reads ((Stay.below hb).mask _)⟩
 | c0 d s m i =>
   have hv : a.eval (.tmp s) = .pointer (some ⟨K.b, 0, none⟩) := h.done i _ s hwf rfl (src i (by simp [Kd.srcs]))
   have hu : a.eval (.const (.slice none 0 0)) = .slice none 0 0 := rfl
   have hc : a.eval (.const (.int .i64 (m : Int))) = .int .i64 (m : Int) := rfl
   refine op_call ho hg (ex_call hop cf_turns) ?_
   simp only [List.map_toArray, List.map_cons, List.map_nil, hv, hu, hc]
   refine (turns_mk K.b _ _ _ _ w).mono ?_
   rintro e w' ⟨x, y, z, rfl, hx, hy, hz, cx, cy, cz, hb⟩
   refine ⟨_, rfl, r, ?_⟩
   rw [hd]
   exact h.putB hs hk rfl hl (fun e => by subst e; cases hk) hb ⟨x, y, z, _, _, rfl, hnew x hx, hnew y hy, hnew z hz, cx, cy, cz, .inl rfl⟩
 | ins key s i =>
   obtain ⟨k', hk', hdk⟩ := hwf
   have h0 := src 0 (by simp [Kd.srcs])
   have hm : a.eval (.tmp 50) = .map (some r) := h.done 0 .mk 50 rfl rfl h0
   have hsp := h.done i k' s hk' hdk (src i (by simp [Kd.srcs]))
   obtain ⟨hfar, l, hF, hnd, hin, hsp2⟩ := h.map h0
   have hnk : key ∉ l.map (·.1) := fun hc => by rw [(hin j key s i hk).2 hc] at hl; cases hl
   have hr := fm_put (P := Tryz.prog) Tryz.underlying142 Tryz.underlying5 w r l hF key (a.tmps.getD s undef) hnk
   refine op_skip ho hg hd (ex_ins hop hm rfl hr) ⟨r, ?_⟩
   have hst := Stay.fm (l' := l ++ [(key, a.tmps.getD s undef)]) hF
   have hj' : j < 143 := by have := (List.getElem?_eq_some_iff.1 hk).1; rw [kinds_len] at this; exact this
   have hj0 : j ≠ 0 := fun e => by subst e; cases hk
   refine ⟨h.size, h.defs, h.old, fun i2 k2 e hi he hli => ?_, h.at_.stay hst (putObj_other (by have := h.bqo; omega)), putFM_only h.only hfar _, hst.cell h.box, hst.cell h.ins, fun _ => ⟨hfar, _, hF.put _, ?_, fun i2 key2 s2 i3 hi => ?_, fun key2 v2 hkv => ?_⟩, h.bqo⟩
   ·have hij : i2 ≠ j := fun e' => by subst e'; rw [hk] at hi; cases hi; cases he
    rw [getD_set_ne false (Ne.symm hij)] at hli
    exact (h.done i2 k2 e hi he hli).stay hst
   ·rw [List.map_append, List.nodup_append]
    exact ⟨hnd, by simp, fun x hx y hy => by simp at hy; subst hy; exact fun e => hnk (e ▸ hx)⟩
   ·by_cases hij : i2 = j
    ·subst hij
     rw [hk] at hi; cases hi
     rw [getD_set_self (by omega)]
     simp
    ·rw [getD_set_ne false (Ne.symm hij), hin i2 key2 s2 i3 hi]
     have hne : key2 ≠ key := fun e => hij (key_once hi hk rfl (by rw [e]; rfl))
     simp [hne]
   ·rcases List.mem_append.1 hkv with hkv | hkv
    ·obtain ⟨i4, s4, j4, k4, h5, h6, h7⟩ := hsp2 key2 v2 hkv
     exact ⟨i4, s4, j4, k4, h5, h6, h7.stay hst⟩
    ·simp only [List.mem_singleton, Prod.mk.injEq] at hkv
     obtain ⟨rfl, rfl⟩ := hkv
     exact ⟨j, s, i, k', hk, hk', hsp.stay hst⟩
end
end Go.Proofs.YtabenhpjgjjgnaaGreatDoor
