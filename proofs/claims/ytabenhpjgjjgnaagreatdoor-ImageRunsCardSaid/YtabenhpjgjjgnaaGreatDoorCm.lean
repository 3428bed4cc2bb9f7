/- separatumlaw24. The row's closed facts, one by one. Condition: what lies in memory can lie there; what each theorem says. -/
import Derived.Test.YtabenhpjgjjgnaaGreatDoorCd
import Derived.Test.YtabenhpjgjjgnaaGreatDoorBc
import Derived.Test.YtabenhpjgjjgnaaGreatDoorBq
import Derived.Test.YtabenhpjgjjgnaaGreatDoorCl
import Derived.Test.YtabenhpjgjjgnaaGreatDoorCards
import Derived.Test.YtabenhpjgjjgnaaGreatDoorTie
import Derived.Deep.DeepCutAuto
import Derived.Deep.RegionHeld3
import Derived.ProofKit
import Derived.OpenShut
import Derived.Deep.DeepHandedRow
/- separatumlaw24. -/
namespace Go.Proofs.YtabenhpjgjjgnaaGreatDoor
open Go.RowKit
set_option maxRecDepth 100000
attribute [local go_sem ↓] Go.wp_at_zero Go.wp_at_succ
theorem outT24 (bt : Nat) (o : List UInt8) (K : MK) (S : St) (hb : bt = K.bt) (ho : o = S.out) (re im : Nat) (W : World) (hx : Bx bt (tcells K S re im) 118 W) : Calls Tryz.prog 50 #[.pointer (some ⟨bt, 0, none⟩)] W fun e w' => e = .returned (.string ⟨o.toArray⟩) ∧ W = w' := by
 subst ho hb
 have c1 : W.cell? ⟨K.bt, 1, none⟩ = some (.string ⟨S.out.toArray⟩) := (hx.cell 1).trans rfl
 clear hx
 go_enter Tryz.func50, Tryz.ntmps50
 go_wp2_with fail
 go_ret
 exact ⟨rfl, rfl⟩
theorem out24 (K : MK) (S : St) (W : World) (h : AtW K S W) : Calls Tryz.prog 17 #[.pointer (some ⟨K.b, 0, none⟩)] W fun e w' => e = .returned (.string ⟨S.out.toArray⟩) ∧ W = w' := by
 obtain ⟨cs, hx, A, c, a, rfl⟩ := h.box
 obtain ⟨re, im, _, ht⟩ := h.term
 have c0 : W.cell? ⟨K.b, 0, none⟩ = some (.pointer (some ⟨K.bt, 0, none⟩)) := (hx.cell 0).trans rfl
 have HT := Lib.hid ht
 clear hx ht h
 go_enter Tryz.func17, Tryz.ntmps17
 go_wp2_with (first | (go_at_call 50; refine (outT24 K.bt S.out K S rfl rfl re im _ HT.out).mono ?_; rintro e w' ⟨rfl, rfl⟩))
 go_ret
 exact ⟨rfl, rfl⟩
theorem Env.below24 {W W' : World} (h : Env W) (hb : Below W.heap.size W W') : Env W' := ⟨h.sp.later hb, h.p10.grow hb⟩
theorem envK24 {W W' : World} {K : MK} (h : Env W) (hb : Below W.heap.size W W') (hk : ∀ b ∈ K.bs, W.heap.size ≤ b) : EnvK K W' := fun _W2 ho => h.below24 (hb.trans (ho.below hb.size hk))
theorem rightL_le (s : List UInt8) : (rightL s).length ≤ s.length + 12 := by
 unfold rightL
 split
 ·omega
 ·simp only [List.length_append, List.length_take, List.length_drop]
  have : (eightL (keyN (s.drop 12))).length = 8 := beN_length _ _
  omega
theorem newErr_ne {ms : List ModL} {o : List Int} {st hp out : Int} {inp : List UInt8} (h : checkB ms o = true) : newErr ms o st hp out inp ≠ 200 := by
 unfold newErr termErr
 rw [h]
 simp only [Bool.true_eq_false, if_false]
 split
 ·decide
 ·split
  ·decide
  ·split <;> decide
def eE (S : St) : Array Value := #[.int .u8 ((endOf S).1 : Nat), .int .u8 ((endOf S).2.1 : Nat), .int .i64 (endOf S).2.2]
structure Duo (A B : MK) (S SA SB : St) (W0 : World) (st : Nat) (W : World) : Prop where
 hb : Below W0.heap.size W0 W
 s0 : st = 0 → At A S W ∧ At { B with bs := A.bs ++ B.bs } S W
 s1 : st = 1 → (∃ a, At A { SA with args := a } W) ∧ At { B with bs := A.bs ++ B.bs } S W
 s2 : st = 2 → AtW A SA W ∧ AtW B SB W
 old : ∀ b ∈ A.bs ++ B.bs, b < W.heap.size
theorem AtW.later {K : MK} {S : St} {W W' : World} (h : AtW K S W) (hs : ∀ b ∈ K.bs, W'.heap[b]? = W.heap[b]?) (k : KOk K) : AtW K S W' := by
 obtain ⟨cs, hx, A, c, a, e⟩ := h.box
 obtain ⟨re, im, hre, ht⟩ := h.term
 exact ⟨⟨cs, (hs _ k.hb).trans hx, A, c, a, e⟩, ⟨re, im, hre, (hs _ k.ht).trans ht⟩, h.mem.later (hs _ k.hm), h.hp.later rfl rfl (hs _ k.hh) (hs _ k.hq)⟩
section
variable {A B : MK} {S SA SB : St} {W0 W W' : World} {st : Nat}
theorem Duo.grow (h : Duo A B S SA SB W0 st W) (ka : KOk A) (kb : KOk B) (hb : Below W.heap.size W W') : Duo A B S SA SB W0 st W' :=
 ⟨h.hb.trans (hb.mono h.hb.size), fun e => ⟨(h.s0 e).1.grow hb, (h.s0 e).2.grow hb⟩, fun e => ⟨(h.s1 e).1.imp fun _ q => q.grow hb, (h.s1 e).2.grow hb⟩,
  fun e => ⟨(h.s2 e).1.later (fun b hm => hb.block b (h.old b (List.mem_append_left _ hm))) ka, (h.s2 e).2.later (fun b hm => hb.block b (h.old b (List.mem_append_right _ hm))) kb⟩,
  fun b hm => Nat.lt_of_lt_of_le (h.old b hm) hb.size⟩
structure Runs (A B : MK) (S SA SB : St) (n : Int) (W0 : World) : Prop where
 ka : KOk A
 kb : KOk B
 fa : KFacts A
 fb : KFacts B
 ra : Rest A S
 rb : Rest B S
 s0 : S.steps = 0
 ea : SA = runF A n S
 eb : SB = runF B n S
 n1 : n ≤ 1000000
 env : Env W0
 la : ∀ b ∈ A.bs, W0.heap.size ≤ b
 lb : ∀ b ∈ B.bs, W0.heap.size ≤ b
 ab : ∀ b ∈ B.bs, b ∉ A.bs
theorem atW_args {K : MK} {S : St} {a : List Int} {W : World} (h : AtW K { S with args := a } W) : AtW K S W := by
 obtain ⟨cs, hx, A, c, a', e⟩ := h.box
 exact ⟨⟨cs, hx, A, c, a', e⟩, h.term, h.mem, ⟨h.hp.box, h.hp.map⟩⟩
theorem Duo.ranOnly {bs : List Nat} (h : Duo A B S SA SB W0 st W) (ho : Only bs W W') {st2 : Nat} (hl : ∀ b ∈ bs, W0.heap.size ≤ b)
 (h0 : st2 = 0 → At A S W' ∧ At { B with bs := A.bs ++ B.bs } S W') (h1 : st2 = 1 → (∃ a, At A { SA with args := a } W') ∧ At { B with bs := A.bs ++ B.bs } S W') (h2 : st2 = 2 → AtW A SA W' ∧ AtW B SB W') : Duo A B S SA SB W0 st2 W' :=
 ⟨h.hb.trans (ho.below h.hb.size hl), h0, h1, h2, fun b hm => Nat.lt_of_lt_of_le (h.old b hm) ho.size⟩
theorem runA_any {n : Int} (r : Runs A B S SA SB n W0) (h : Duo A B S SA SB W0 0 W) : Calls Tryz.prog 10 #[.pointer (some ⟨A.b, 0, none⟩), .int .i64 n] W fun e w' => e = .returned (.agg (eE SA)) ∧ Duo A B S SA SB W0 1 w' := by
 obtain ⟨ha, hb⟩ := h.s0 rfl
 refine (run_all A r.ka r.fa n r.n1 S r.ra (by have := r.s0; omega) S.args W ha (envK24 r.env h.hb r.la)).mono ?_
 rintro e w' ⟨rfl, ho, a, hA⟩
 rw [← r.ea] at hA ⊢
 exact ⟨rfl, h.ranOnly ho r.la (fun e => by cases e) (fun _ => ⟨⟨a, hA⟩, hb.apart r.kb ho r.ab⟩) (fun e => by cases e)⟩
theorem runB_any {n : Int} (r : Runs A B S SA SB n W0) (h : Duo A B S SA SB W0 1 W) : Calls Tryz.prog 10 #[.pointer (some ⟨B.b, 0, none⟩), .int .i64 n] W fun e w' => e = .returned (.agg (eE SB)) ∧ Duo A B S SA SB W0 2 w' := by
 obtain ⟨⟨a, ha⟩, hb⟩ := h.s1 rfl
 refine (run_all B r.kb r.fb n r.n1 S r.rb (by have := r.s0; omega) S.args W hb.less (envK24 r.env h.hb r.lb)).mono ?_
 rintro e w' ⟨rfl, ho, a2, hB⟩
 rw [← r.eb] at hB ⊢
 exact ⟨rfl, h.ranOnly ho r.lb (fun e => by cases e) (fun e => by cases e) (fun _ => ⟨(atW_args (ha.w r.ka)).apart r.ka ho ha.old (fun b hm hm2 => r.ab b hm2 hm), atW_args (hB.w r.kb)⟩)⟩
end
set_option maxHeartbeats 4000000 in
theorem imageRuns_any (s inp : List UInt8) (hs : s.length ≤ 9223372036854775807) (hin : inp.length ≤ 9223372036854775807) (st hp out : Int) (hst0 : -9223372036854775808 ≤ st) (hst1 : st ≤ 9223372036854775807) (hhp0 : -9223372036854775808 ≤ hp) (hhp1 : hp ≤ 9223372036854775807) (hou0 : -9223372036854775808 ≤ out) (hou1 : out ≤ 9223372036854775807) (fuel : Nat) (hfu : fuel < 65536) (w : World) (hE : Env w) :
 Calls Tryz.prog 4 #[.string ⟨s.toArray⟩, .agg #[.int .i64 st, .int .i64 hp, .int .i64 out], .string ⟨inp.toArray⟩, .int .u16 fuel] w (BoolEnd w true) := by
 have HB0 := Lib.hid (alloc_below w (.cells #[.int .i64 st, .int .i64 hp, .int .i64 out] 27))
 have HC0 := Lib.hid (Bx.new w #[.int .i64 st, .int .i64 hp, .int .i64 out] 27)
 have HE := Lib.hid hE
 have HR := Lib.hid (And.intro hst0 (And.intro hst1 (And.intro hhp0 (And.intro hhp1 (And.intro hou0 hou1)))))
 clear hE hst0 hst1 hhp0 hhp1 hou0 hou1
 by_cases h : 4096 < s.length ∨ 1024 < inp.length
 ·by_cases h1 : 4096 < s.length
  ·have hI : (4096 : Int) < (s.length : Int) := by omega
   clear h h1
   go_enter Tryz.func4, Tryz.ntmps4
   go_wp2_with fail
   refine (alive_any _).mono ?_
   rintro e w1 ⟨rfl, hb1⟩
   have HB1 := Lib.hid (HB0.out.trans (hb1.mono HB0.out.size))
   clear hb1
   go_wp2_with fail
   go_ret
   exact ⟨rfl, HB1.out⟩
  ·have hI : ¬ (4096 : Int) < (s.length : Int) := by omega
   have hJ : (1024 : Int) < (inp.length : Int) := by omega
   clear h h1
   go_enter Tryz.func4, Tryz.ntmps4
   go_wp2_with fail
   refine (alive_any _).mono ?_
   rintro e w1 ⟨rfl, hb1⟩
   have HB1 := Lib.hid (HB0.out.trans (hb1.mono HB0.out.size))
   clear hb1
   go_wp2_with fail
   go_ret
   exact ⟨rfl, HB1.out⟩
 have hI : ¬ (4096 : Int) < (s.length : Int) := by omega
 have hJ : ¬ (1024 : Int) < (inp.length : Int) := by omega
 have hl : s.length ≤ 4096 := by omega
 have hil : inp.length ≤ 1024 := by omega
 clear h
 go_enter Tryz.func4, Tryz.ntmps4
 go_wp2_with fail
 refine (right_any s (by omega) _).mono ?_
 rintro e w0 ⟨rfl, hb0⟩
 have HB1 := Lib.hid (HB0.out.trans (hb0.mono HB0.out.size))
 have HC1 := Lib.hid (HC0.out.grow hb0)
 have hrl := rightL_le s
 clear hb0 HB0 HC0
 generalize rightL s = r at *
 go_wp2_with fail
 refine (decode_any r (by omega) _).mono ?_
 rintro e w1 ⟨t1, rfl, hI1, hb1⟩
 have HI1 := Lib.hid hI1
 have HB2 := Lib.hid (HB1.out.trans (hb1.mono HB1.out.size))
 have HC2 := Lib.hid (HC1.out.grow hb1)
 have HOK := Lib.hid (fun h : decodeE r = 0 => decodeI_ok h)
 clear hI1 hb1 HB1 HC1 hrl
 generalize hDi : decodeI r = i at *
 generalize hDe : decodeE r = er at *
 clear hDi hDe
 unfold imgV
 have HA1 := Lib.hid (alloc_below w1 (.cells #[.slice t1.A1 i.names.length t1.c1, .slice t1.A2 i.mods.length t1.c2, .slice t1.A3 i.order.length t1.c3] 55))
 have HX3 := Lib.hid (Bx.new w1 #[.slice t1.A1 i.names.length t1.c1, .slice t1.A2 i.mods.length t1.c2, .slice t1.A3 i.order.length t1.c3] 55)
 have HI3 := Lib.hid (HI1.out.later HA1.out (Nat.le_refl _))
 have HB3 := Lib.hid (HB2.out.trans (HA1.out.mono HB2.out.size))
 have HC3 := Lib.hid (HC2.out.grow HA1.out)
 clear HI1 HB2 HC2 HA1
 go_upto_region 4 with (fail)
 generalize w1.alloc (.cells #[.slice t1.A1 i.names.length t1.c1, .slice t1.A2 i.mods.length t1.c2, .slice t1.A3 i.order.length t1.c3] 55) = w3 at *
 generalize w1.heap.size = b1 at *
 by_cases he : er = 0
 case neg =>
  have d0 : (er != 0) = true := bne_iff_ne.2 he
  clear he
  go_wp2_with fail
  refine (alive_any _).mono ?_
  rintro e w5 ⟨rfl, hb5⟩
  have HB5 := Lib.hid (HB3.out.trans (hb5.mono HB3.out.size))
  clear hb5
  go_wp2_with fail
  go_ret
  exact ⟨rfl, HB5.out⟩
 case pos =>
 subst he
 obtain ⟨hck, hol⟩ := HOK.out rfl
 have HCK := Lib.hid hck
 have HOL := Lib.hid hol
 clear hck hol HOK
 have c0 : w3.cell? ⟨w.heap.size, 0, none⟩ = some (.int .i64 st) := (HC3.out.cell 0).trans rfl
 have c1 : w3.cell? ⟨w.heap.size, 1, none⟩ = some (.int .i64 hp) := (HC3.out.cell 1).trans rfl
 have c2 : w3.cell? ⟨w.heap.size, 2, none⟩ = some (.int .i64 out) := (HC3.out.cell 2).trans rfl
 have d1 : w3.cell? ⟨b1, 1, none⟩ = some (.slice t1.A2 i.mods.length t1.c2) := (HX3.out.cell 1).trans rfl
 have d2 : w3.cell? ⟨b1, 2, none⟩ = some (.slice t1.A3 i.order.length t1.c3) := (HX3.out.cell 2).trans rfl
 go_wp2_with fail
 have HM3 := Lib.hid HI3.out.mods
 have HO3 := Lib.hid HI3.out.order
 have HE3 := Lib.hid (HE.out.below24 HB3.out)
 refine new_rows [] t1.A2 t1.A3 t1.c2 t1.c3 i.mods i.order HCK.out (by have := HOL.out; omega) st hp out HR.out.1 HR.out.2.1 HR.out.2.2.1 HR.out.2.2.2.1 HR.out.2.2.2.2.1 HR.out.2.2.2.2.2 inp (by omega) _ (fun _ hm => by cases hm) (HM3.out.later (B := w3.heap.size) (by
  have := mask_wide (bs0 := []) (bs := []) (Below.refl w3.heap.size w3) (Nat.le_refl _) (fun _ hm => by cases hm)
  exact ⟨rfl, rfl, rfl, by rw [mask_size]; exact Nat.le_refl _, fun k hk => mask_at _ _ (by simp)⟩) (Nat.le_refl _)) HO3.out _ (fun e w4 hN => ?_)
 rcases hN with ⟨x, hx, hne, rfl, hb4⟩ | ⟨hne, A, rfl, kA, gA, hA, lA, hb4⟩
 ·
  have HB4 := Lib.hid (HB3.out.trans (hb4.mono HB3.out.size))
  have HC4 := Lib.hid (HC3.out.grow hb4)
  have HX4 := Lib.hid (HX3.out.grow hb4)
  have HM4 := Lib.hid (HM3.out.later hb4 (Nat.le_refl _))
  have HO4 := Lib.hid (HO3.out.later hb4 (Nat.le_refl _))
  have HNE := Lib.hid hne
  clear hb4 hne HC3 HX3 HI3 HM3 HO3 c0 c1 c2 d1 d2 HE3
  have c0 : w4.cell? ⟨w.heap.size, 0, none⟩ = some (.int .i64 st) := (HC4.out.cell 0).trans rfl
  have c1 : w4.cell? ⟨w.heap.size, 1, none⟩ = some (.int .i64 hp) := (HC4.out.cell 1).trans rfl
  have c2 : w4.cell? ⟨w.heap.size, 2, none⟩ = some (.int .i64 out) := (HC4.out.cell 2).trans rfl
  have d1 : w4.cell? ⟨b1, 1, none⟩ = some (.slice t1.A2 i.mods.length t1.c2) := (HX4.out.cell 1).trans rfl
  have d2 : w4.cell? ⟨b1, 2, none⟩ = some (.slice t1.A3 i.order.length t1.c3) := (HX4.out.cell 2).trans rfl
  go_wp2_with fail
  refine new_rows [] t1.A2 t1.A3 t1.c2 t1.c3 i.mods i.order HCK.out (by have := HOL.out; omega) st hp out HR.out.1 HR.out.2.1 HR.out.2.2.1 HR.out.2.2.2.1 HR.out.2.2.2.2.1 HR.out.2.2.2.2.2 inp (by omega) _ (fun _ hm => by cases hm) (HM4.out.later (B := w4.heap.size) (by
   exact ⟨rfl, rfl, rfl, by rw [mask_size]; exact Nat.le_refl _, fun k hk => mask_at _ _ (by simp)⟩) (Nat.le_refl _)) HO4.out _ (fun e w5 hN => ?_)
  rcases hN with ⟨y, hy, hne2, rfl, hb5⟩ | ⟨hne2, _⟩
  ·have hxy : x = y := HNE.out.symm.trans hne2
   subst hxy
   have hx2 : x ≠ 200 := fun e => newErr_ne HCK.out (HNE.out.trans e)
   have HB5 := Lib.hid (HB4.out.trans (hb5.mono HB4.out.size))
   clear hb5 hne2 hy c0 c1 c2 d1 d2
   have hx25 : x = 2 ∨ x = 5 := by rcases hx with h | h | h; exact absurd h hx2; exact .inl h; exact .inr h
   clear hx hx2
   rcases hx25 with rfl | rfl
   all_goals
    go_wp2_with fail
    refine (alive_any _).mono ?_
    rintro e w6 ⟨rfl, hb6⟩
    have HB6 := Lib.hid (HB5.out.trans (hb6.mono HB5.out.size))
    clear hb6
    go_wp2_with fail
    go_ret
    exact ⟨rfl, HB6.out⟩
  ·exact absurd (HNE.out.symm.trans hne2) (by rcases hx with h | h | h <;> rw [h] <;> decide)
 have HB4 := Lib.hid (HB3.out.trans (hb4.mono HB3.out.size))
 have HC4 := Lib.hid (HC3.out.grow hb4)
 have HX4 := Lib.hid (HX3.out.grow hb4)
 have HM4 := Lib.hid (mods_masked HM3.out hb4 lA)
 have HO4 := Lib.hid (HO3.out.later hb4 (Nat.le_refl _))
 have HNE := Lib.hid hne
 have HKA := Lib.hid kA
 have HGA := Lib.hid gA
 have HAA := Lib.hid (show At A (startG A inp) w4 from hA)
 have HLA := Lib.hid lA
 have HBA := Lib.hid hb4
 clear hb4 hne HC3 HX3 HI3 HM3 HO3 c0 c1 c2 d1 d2 kA gA hA lA
 have c0 : w4.cell? ⟨w.heap.size, 0, none⟩ = some (.int .i64 st) := (HC4.out.cell 0).trans rfl
 have c1 : w4.cell? ⟨w.heap.size, 1, none⟩ = some (.int .i64 hp) := (HC4.out.cell 1).trans rfl
 have c2 : w4.cell? ⟨w.heap.size, 2, none⟩ = some (.int .i64 out) := (HC4.out.cell 2).trans rfl
 have d1 : w4.cell? ⟨b1, 1, none⟩ = some (.slice t1.A2 i.mods.length t1.c2) := (HX4.out.cell 1).trans rfl
 have d2 : w4.cell? ⟨b1, 2, none⟩ = some (.slice t1.A3 i.order.length t1.c3) := (HX4.out.cell 2).trans rfl
 go_wp2_with fail
 refine new_rows A.bs t1.A2 t1.A3 t1.c2 t1.c3 i.mods i.order HCK.out (by have := HOL.out; omega) st hp out HR.out.1 HR.out.2.1 HR.out.2.2.1 HR.out.2.2.2.1 HR.out.2.2.2.2.1 HR.out.2.2.2.2.2 inp (by omega) _ HAA.out.old HM4.out HO4.out _ (fun e w5 hN => ?_)
 rcases hN with ⟨y, hy, hne2, _, _⟩ | ⟨_, B, rfl, kB, gB, hB, lB, hb5⟩
 ·exact absurd (HNE.out.symm.trans hne2) (by rcases hy with h | h | h <;> rw [h] <;> decide)
 have hal : Alike A B := HGA.out.alike gB
 have hrest := rest_start HKA.out (by have := HGA.out.most; have := HNE.out; unfold newErr termErr at this; rw [HCK.out] at this; simp only [Bool.true_eq_false, if_false] at this; split at this <;> first | omega | (split at this <;> first | omega | (split at this <;> omega))) inp
 have hm4 : ((fuel % 500 : Nat) : Int) ≤ 1000000 := by omega
 have HRUN := Lib.hid (show Runs A B (startG A inp) (runF A (fuel % 500 : Nat) (startG A inp)) (runF B (fuel % 500 : Nat) (startG A inp)) (fuel % 500 : Nat) w3 from
  ⟨HKA.out, kB, facts_new HKA.out HGA.out HNE.out (by have := HOL.out; omega), facts_new kB gB HNE.out (by have := HOL.out; omega), hrest.1, by
   rw [start_alike hal]
   exact (rest_start kB (by have := HGA.out.most; have := gB.most; have h0 := hrest.1.ste; have := HNE.out; unfold newErr termErr at this; rw [HCK.out] at this; simp only [Bool.true_eq_false, if_false] at this; split at this <;> first | omega | (split at this <;> first | omega | (split at this <;> omega))) inp).1, hrest.2.1, rfl, rfl, hm4, HE3.out, HLA.out, fun b hm => Nat.le_trans HBA.out.size (lB b hm), fun b hm hm2 => by have := lB b hm; have := HAA.out.old b hm2; omega⟩)
 have HSAME := Lib.hid (show runF B (fuel % 500 : Nat) (startG A inp) = runF A (fuel % 500 : Nat) (startG A inp) from (runF_alike hal _ _).symm)
 have HGOOD := Lib.hid (run_good HKA.out hrest.1 hrest.2.1 (fuel % 500))
 have HD := Lib.hid (show Duo A B (startG A inp) (runF A (fuel % 500 : Nat) (startG A inp)) (runF B (fuel % 500 : Nat) (startG A inp)) w3 0 w5 from
  ⟨HBA.out.trans (hb5.mono HBA.out.size), fun _ => ⟨HAA.out.grow hb5, by rw [start_alike hal]; exact hB⟩, fun e => (by cases e), fun e => (by cases e), fun b hm => by
   rcases List.mem_append.1 hm with h | h
   ·exact Nat.lt_of_lt_of_le (HAA.out.old b h) hb5.size
   ·exact hB.old b (List.mem_append_right _ h)⟩)
 clear hb5 hal hrest hm4 gB hB lB kB c0 c1 c2 d1 d2 HB4 HC4 HX4 HM4 HO4 HNE HGA HAA HLA HBA HCK HOL HR HE HE3
 have e1 : (fuel : Int) % 500 = ((fuel % 500 : Nat) : Int) := by omega
 go_upto_region 13 with (fail)
 rw [e1]
 clear e1
 generalize hn : fuel % 500 = n at *
 have hn500 : n < 500 := by omega
 have hnI : (n : Int) < 500 := by omega
 generalize startG A inp = S at *
 generalize runF A (n : Int) S = SA at *
 generalize runF B (n : Int) S = SB at *
 clear hn
 have hBA : SB = SA := HSAME.out
 subst hBA
 clear HSAME
 obtain ⟨k, t, x, hk⟩ : ∃ (k t : Nat) (x : Int), endOf SB = (k, t, x) := ⟨_, _, _, rfl⟩
 have HV := Lib.hid (show eE SB = #[.int .u8 k, .int .u8 t, .int .i64 x] by unfold eE; rw [hk])
 obtain ⟨hx, hk0⟩ : x ≤ (n : Int) ∧ k ≠ 0 := by have := HGOOD.out; rw [hk] at this; exact this
 clear hk HGOOD
 go_wp2_with fail
 refine (runA_any HRUN.out HD.out).mono ?_
 clear HD
 rw [HV.out]
 rintro e w6 ⟨rfl, hd⟩
 have HD6 := Lib.hid hd
 clear hd
 go_wp2_with fail
 refine (runB_any HRUN.out HD6.out).mono ?_
 clear HD6
 rw [HV.out]
 rintro e w7 ⟨rfl, hd⟩
 have HBa := Lib.hid (alloc_below w7 (.cells #[.int .u8 k, .int .u8 t, .int .i64 x] 38))
 have HBb := Lib.hid (alloc_below (w7.alloc (.cells #[.int .u8 k, .int .u8 t, .int .i64 x] 38)) (.cells #[.int .u8 k, .int .u8 t, .int .i64 x] 38))
 have HX := Lib.hid ((Bx.new w7 #[.int .u8 k, .int .u8 t, .int .i64 x] 38).grow HBb.out)
 have HY := Lib.hid (show Bx (w7.heap.size + 1) #[.int .u8 k, .int .u8 t, .int .i64 x] 38 ((w7.alloc (.cells #[.int .u8 k, .int .u8 t, .int .i64 x] 38)).alloc (.cells #[.int .u8 k, .int .u8 t, .int .i64 x] 38)) by simpa using Bx.new (w7.alloc (.cells #[.int .u8 k, .int .u8 t, .int .i64 x] 38)) #[.int .u8 k, .int .u8 t, .int .i64 x] 38)
 have HD := Lib.hid ((hd.grow HRUN.out.ka HRUN.out.kb HBa.out).grow HRUN.out.ka HRUN.out.kb HBb.out)
 clear hd HBa HBb
 go_upto_region 14 with (fail)
 generalize (w7.alloc (.cells #[.int .u8 k, .int .u8 t, .int .i64 x] 38)).alloc (.cells #[.int .u8 k, .int .u8 t, .int .i64 x] 38) = w8 at *
 have hg : w7.heap.size ≠ w7.heap.size + 1 := by omega
 generalize w7.heap.size + 1 = g17 at *
 generalize w7.heap.size = g16 at *
 have HA := Lib.hid (HD.out.s2 rfl).1
 have HB := Lib.hid (HD.out.s2 rfl).2
 have x0 : w8.cell? ⟨g16, 0, none⟩ = some (.int .u8 k) := (HX.out.cell 0).trans rfl
 have x1 : w8.cell? ⟨g16, 1, none⟩ = some (.int .u8 t) := (HX.out.cell 1).trans rfl
 have x2 : w8.cell? ⟨g16, 2, none⟩ = some (.int .i64 x) := (HX.out.cell 2).trans rfl
 have y0 : w8.cell? ⟨g17, 0, none⟩ = some (.int .u8 k) := (HY.out.cell 0).trans rfl
 have y1 : w8.cell? ⟨g17, 1, none⟩ = some (.int .u8 t) := (HY.out.cell 1).trans rfl
 have y2 : w8.cell? ⟨g17, 2, none⟩ = some (.int .i64 x) := (HY.out.cell 2).trans rfl
 have dx : decide (x ≤ (n : Int)) = true := decide_eq_true hx
 have dk : ((k : Int) != 0) = true := bne_iff_ne.2 (by omega)
 go_wp2_with fail
 refine (out24 A SB w8 HA.out).mono ?_
 rintro e w9 ⟨rfl, rfl⟩
 go_wp2_with fail
 refine (out24 B SB w8 HB.out).mono ?_
 rintro e w9 ⟨rfl, rfl⟩
 go_wp2_with fail
 refine (alive_any _).mono ?_
 rintro e w9 ⟨rfl, hb9⟩
 go_wp2_with fail
 go_ret
 exact ⟨rfl, HB3.out.trans ((HD.out.hb.trans (hb9.mono HD.out.hb.size)).mono HB3.out.size)⟩
end Go.Proofs.YtabenhpjgjjgnaaGreatDoor
/- The row's closed facts, one by one. -/
namespace Go.Proofs.YtabenhpjgjjgnaaGreatDoor
open Go.ChangeShapes
set_option maxRecDepth 100000
theorem and_mk {a b : Bool} (h1 : a = true) (h2 : b = true) : (a && b) = true := by rw [h1, h2]; rfl
set_option maxHeartbeats 8000000 in
theorem runs_closed : joinedFacts Tryz.prog 4 Tryz.f4 (OpenSpec.ofChange Rows.imageRunsSpec).bare Rows.imageRunsRow = true := by
 unfold joinedFacts
 repeat' (with_reducible apply and_mk)
 all_goals as_aux_lemma => kernel_rfl
end Go.Proofs.YtabenhpjgjjgnaaGreatDoor
