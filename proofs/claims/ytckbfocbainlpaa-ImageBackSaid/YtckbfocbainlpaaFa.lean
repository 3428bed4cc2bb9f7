/- separatumlaw24.plain, alive. No condition. -/
import Derived.Test.YtckbfocbainlpaaTd
import Derived.Test.YtckbfocbainlpaaGf
import Derived.Test.YtckbfocbainlpaaEa
import Derived.Test.YtckbfocbainlpaaEc
import Derived.Test.YtckbfocbainlpaaSc
namespace Go.Proofs.Ytckbfocbainlpaa
open Go.RowKit
set_option maxRecDepth 100000

def plainM : ModL := ⟨[], [⟨0, 0, 0, 0, 1, false⟩], [], 0, []⟩
def plainI : ImgL := ⟨[[77]], [plainM], [0]⟩
def PlainEnd (w : World) (e : Ending) (w' : World) : Prop := ∃ s, e = .returned (imgV s plainI) ∧ ImgIn w' s plainI ∧ Below w.heap.size w w'
theorem plain_in {W : World} {b : Nat} (h1 : W.heap[b]? = some (.cells #[.string ⟨#[77]⟩] 9 (0, 0))) (h2 : W.heap[b + 1]? = some (.cells #[.int .i64 0, .int .i64 0, .int .i64 0, .int .i64 0, .int .i64 1, .bool false] 90 (0, 0)))
    (h3 : W.heap[b + 1 + 1]? = some (.cells #[.string ⟨#[]⟩, .slice (some ⟨b + 1, 0, none⟩) 1 1, .slice none 0 0, .int .i64 0, .slice none 0 0] 41 (0, 0))) (h4 : W.heap[b + 1 + 1 + 1]? = some (.cells #[.int .i64 0] 3 (0, 0))) :
    ImgIn W ⟨some ⟨b, 0, none⟩, 1, some ⟨b + 1 + 1, 0, none⟩, 1, some ⟨b + 1 + 1 + 1, 0, none⟩, 1⟩ plainI := by
  have cell : ∀ {k : Nat} {cs : Array Value} {T : TypeId} {i : Nat} {v : Value}, W.heap[k]? = some (.cells cs T (0, 0)) → cs[i]? = some v → W.cell? ⟨k, i, none⟩ = some v := fun h hv => by
    unfold World.cell?; simp [h, hv]
  refine ⟨.inr ⟨b, 0, rfl, lt_of_get h1, fun j hj => ?_⟩, .inr ⟨b + 1 + 1, 0, rfl, lt_of_get h3, fun j hj => ?_⟩, .inr ⟨b + 1 + 1 + 1, 0, rfl, lt_of_get h4, fun j hj => ?_⟩, by decide, by decide, by decide⟩
  · obtain rfl : j = 0 := by have : j < 1 := hj; omega
    exact ⟨cell h1 rfl, by decide⟩
  · obtain rfl : j = 0 := by have : j < 1 := hj; omega
    refine ⟨⟨some ⟨b + 1, 0, none⟩, 1, none, 0, none, 0⟩, ⟨.inr ⟨b + 1, 0, rfl, lt_of_get h2, fun j hj => ?_⟩, .inl rfl, .inl rfl, by decide, by decide, by decide, by decide⟩, cell h3 rfl, cell h3 rfl, cell h3 rfl, cell h3 rfl, cell h3 rfl⟩
    obtain rfl : j = 0 := by have : j < 1 := hj; omega
    exact ⟨cell h2 rfl, cell h2 rfl, cell h2 rfl, cell h2 rfl, cell h2 rfl, cell h2 rfl⟩
  · obtain rfl : j = 0 := by have : j < 1 := hj; omega
    exact cell h4 rfl
theorem five_heap (w : World) (a b c d e : Obj) : (((((w.alloc a).alloc b).alloc c).alloc d).alloc e).heap[w.heap.size + 1]? = some b ∧ (((((w.alloc a).alloc b).alloc c).alloc d).alloc e).heap[w.heap.size + 1 + 1]? = some c ∧ (((((w.alloc a).alloc b).alloc c).alloc d).alloc e).heap[w.heap.size + 1 + 1 + 1]? = some d ∧ (((((w.alloc a).alloc b).alloc c).alloc d).alloc e).heap[w.heap.size + 1 + 1 + 1 + 1]? = some e ∧ Below w.heap.size w (((((w.alloc a).alloc b).alloc c).alloc d).alloc e) := by
  have hb := heap_alloc_new (w.alloc a) b
  have hc := heap_alloc_new ((w.alloc a).alloc b) c
  have hd := heap_alloc_new (((w.alloc a).alloc b).alloc c) d
  have he := heap_alloc_new ((((w.alloc a).alloc b).alloc c).alloc d) e
  simp only [World.size_alloc] at hb hc hd he
  refine ⟨?_, ?_, ?_, he, ?_⟩
  · exact (Below.heap_alloc _ e _ (by simp only [World.size_alloc]; omega)).trans ((Below.heap_alloc _ d _ (by simp only [World.size_alloc]; omega)).trans ((Below.heap_alloc _ c _ (by simp only [World.size_alloc]; omega)).trans hb))
  · exact (Below.heap_alloc _ e _ (by simp only [World.size_alloc]; omega)).trans ((Below.heap_alloc _ d _ (by simp only [World.size_alloc]; omega)).trans hc)
  · exact (Below.heap_alloc _ e _ (by simp only [World.size_alloc]; omega)).trans hd
  · exact (((((Below.refl _ _).alloc (Nat.le_refl _) _).alloc (by simp only [World.size_alloc]; omega) _).alloc (by simp only [World.size_alloc]; omega) _).alloc (by simp only [World.size_alloc]; omega) _).alloc (by simp only [World.size_alloc]; omega) _
theorem plain_any (w : World) : Calls Try.prog 19 #[] w (PlainEnd w) := by
  go_enter Try.func19, Try.ntmps19
  go_wp2_with fail
  refine bodyPost_ret (v := .agg #[.slice (some ⟨w.heap.size + 1, 0, none⟩) 1 1, .slice (some ⟨w.heap.size + 1 + 1 + 1, 0, none⟩) 1 1, .slice (some ⟨w.heap.size + 1 + 1 + 1 + 1, 0, none⟩) 1 1]) (by simp [results, Try.results19, go_sem]) rfl ?_
  obtain ⟨h1, h2, h3, h4, h5⟩ := five_heap w (.cells #[.slice (some ⟨w.heap.size + 1, 0, none⟩) 1 1, .slice (some ⟨w.heap.size + 1 + 1 + 1, 0, none⟩) 1 1, .slice (some ⟨w.heap.size + 1 + 1 + 1 + 1, 0, none⟩) 1 1] 28) (.cells #[.string ⟨#[77]⟩] 9) (.cells #[.int .i64 0, .int .i64 0, .int .i64 0, .int .i64 0, .int .i64 1, .bool false] 90) (.cells #[.string ⟨#[]⟩, .slice (some ⟨w.heap.size + 1 + 1, 0, none⟩) 1 1, .slice none 0 0, .int .i64 0, .slice none 0 0] 41) (.cells #[.int .i64 0] 3)
  exact ⟨_, rfl, plain_in h1 h2 h3 h4, h5⟩
def plainB : List UInt8 := encodeL plainI
theorem plainB_ok : imgB plainI = true := by kernel_rfl
theorem plainB_len : plainB.length = 34 := by kernel_rfl
theorem plainB_head : plainB.take 4 = [83, 69, 80, 73] := by kernel_rfl
theorem plainB_mid : (plainB.drop 12).take 3 = [1, 1, 77] := by kernel_rfl
theorem plainB_dec : decodeE plainB = 0 := by kernel_rfl
theorem plainB_key : decodeE (plainB ++ [120]) = 210 := by kernel_rfl
theorem plainB_short : decodeE [83, 69, 80, 73] = 7 := by kernel_rfl
theorem plainB_img : decodeI plainB = plainI := by kernel_rfl
theorem plainB_sizes : codeTo plainI.mods plainI.mods.length = 0 ∧ dataTo plainI.mods plainI.mods.length = 0 := ⟨by kernel_rfl, by kernel_rfl⟩
theorem nullI_no : imgB nullI = false := by kernel_rfl
theorem nullI_enc : encodeL nullI = [] := by kernel_rfl
theorem encEnd_eq {w w' : World} {ok : Bool} {l : List UInt8} {e : Ending} (h : PackEnd w ok l e w') {m : List UInt8} {n : Int} (h1 : l = m) (h2 : errArg ok = n) : e = .returned (.tuple #[.string ⟨m.toArray⟩, .int .i64 n]) ∧ Below w.heap.size w w' := by
  subst h1 h2; exact h
theorem decEnd_eq {w w' : World} {i : ImgL} {er : Int} {e : Ending} (h : DecEnd w i er e w') {j : ImgL} {n : Int} (h1 : i = j) (h2 : er = n) : DecEnd w j n e w' := by
  subst h1 h2; exact h

set_option maxHeartbeats 4000000 in
theorem alive_any (w : World) : Calls Try.prog 7 #[] w (BoolEnd w true) := by
  go_enter Try.func7, Try.ntmps7
  go_wp2_with fail
  refine (plain_any _).mono ?_
  rintro e w1 ⟨s1, rfl, hI1, hb1⟩
  have HI1 := Lib.hid hI1
  have HB1 := Lib.hid hb1
  clear hI1 hb1
  go_wp2_with fail
  refine (encode_any s1 plainI _ HI1.out).mono ?_
  intro e w2 h2
  obtain ⟨rfl, hb2⟩ := encEnd_eq h2 (show encodeL plainI = plainB from rfl) (show errArg (imgB plainI) = 0 by rw [plainB_ok]; rfl)
  have HB2 := Lib.hid (HB1.out.trans (hb2.mono HB1.out.size))
  have hL := plainB_len
  have HDec := Lib.hid plainB_dec
  have HImg := Lib.hid plainB_img
  have HKey := Lib.hid plainB_key
  have HHead := Lib.hid plainB_head
  have HMid := Lib.hid plainB_mid
  clear h2 hb2 HI1 HB1
  generalize plainB = B at *
  go_wp2_with fail
  refine (decode_any B (by omega) _).mono ?_
  intro e w3 h3
  obtain ⟨t3, rfl, hI3, hb3⟩ := decEnd_eq h3 HImg.out HDec.out
  have HB3 := Lib.hid (HB2.out.trans (hb3.mono HB2.out.size))
  have HI3 := Lib.hid hI3
  have HX3 := Lib.hid (Box.new w3 #[.slice t3.A1 plainI.names.length t3.c1, .slice t3.A2 plainI.mods.length t3.c2, .slice t3.A3 plainI.order.length t3.c3] 28 (by decide))
  have HA3 := Lib.hid (alloc_below w3 (.cells #[.slice t3.A1 plainI.names.length t3.c1, .slice t3.A2 plainI.mods.length t3.c2, .slice t3.A3 plainI.order.length t3.c3] 28))
  clear h3 hI3 hb3 HB2
  unfold imgV
  go_upto_region 3 with (fail)
  have HB4 := Lib.hid (HB3.out.trans (HA3.out.mono HB3.out.size))
  have HI4 := Lib.hid (HI3.out.later HA3.out (Nat.le_refl _))
  clear HB3 HI3 HA3
  generalize w3.alloc (.cells #[.slice t3.A1 plainI.names.length t3.c1, .slice t3.A2 plainI.mods.length t3.c2, .slice t3.A3 plainI.order.length t3.c3] 28) = w4 at *
  generalize w3.heap.size = b3 at *
  go_wp2_with fail
  refine (encode_any nullS nullI _ (nullIn _)).mono ?_
  intro e w5 h5
  obtain ⟨rfl, hb5⟩ := encEnd_eq h5 nullI_enc (show errArg (imgB nullI) = 2 by rw [nullI_no]; rfl)
  have HB5 := Lib.hid (HB4.out.trans (hb5.mono HB4.out.size))
  have HI5 := Lib.hid (HI4.out.later hb5 (Nat.le_refl _))
  have HX5 := Lib.hid (HX3.out.grow hb5)
  clear h5 hb5 HB4 HI4 HX3
  go_wp2_with fail
  refine (decode_any [83, 69, 80, 73] (by simp) _).mono ?_
  intro e w6 h6
  obtain ⟨t6, rfl, hI6, hb6⟩ := decEnd_eq h6 rfl plainB_short
  have HB6 := Lib.hid (HB5.out.trans (hb6.mono HB5.out.size))
  have HI6 := Lib.hid (HI5.out.later hb6 (Nat.le_refl _))
  have HX6 := Lib.hid (HX5.out.grow hb6)
  clear h6 hb6 hI6 HB5 HI5 HX5
  generalize decodeI [83, 69, 80, 73] = j6 at *
  unfold imgV
  go_upto_region 5 with (fail)
  have HA6 := Lib.hid (alloc_below w6 (.cells #[.slice t6.A1 j6.names.length t6.c1, .slice t6.A2 j6.mods.length t6.c2, .slice t6.A3 j6.order.length t6.c3] 28))
  have HB7 := Lib.hid (HB6.out.trans (HA6.out.mono HB6.out.size))
  have HI7 := Lib.hid (HI6.out.later HA6.out (Nat.le_refl _))
  have HX7 := Lib.hid (HX6.out.grow HA6.out)
  clear HA6 HB6 HI6 HX6
  generalize w6.alloc (.cells #[.slice t6.A1 j6.names.length t6.c1, .slice t6.A2 j6.mods.length t6.c2, .slice t6.A3 j6.order.length t6.c3] 28) = w7 at *
  have a1 := addS B [120] (by simp; omega)
  go_wp2_with fail
  refine (decode_any (B ++ [120]) (by simp; omega) _).mono ?_
  intro e w8 h8
  obtain ⟨t8, rfl, hI8, hb8⟩ := decEnd_eq h8 rfl HKey.out
  have HB8 := Lib.hid (HB7.out.trans (hb8.mono HB7.out.size))
  have HI8 := Lib.hid (HI7.out.later hb8 (Nat.le_refl _))
  have HX8 := Lib.hid (HX7.out.grow hb8)
  clear h8 hb8 hI8 HB7 HI7 HX7 a1
  generalize decodeI (B ++ [120]) = j8 at *
  unfold imgV
  go_upto_region 6 with (fail)
  have HA8 := Lib.hid (alloc_below w8 (.cells #[.slice t8.A1 j8.names.length t8.c1, .slice t8.A2 j8.mods.length t8.c2, .slice t8.A3 j8.order.length t8.c3] 28))
  have HB9 := Lib.hid (HB8.out.trans (HA8.out.mono HB8.out.size))
  have HI9 := Lib.hid (HI8.out.later HA8.out (Nat.le_refl _))
  have HX9 := Lib.hid (HX8.out.grow HA8.out)
  clear HA8 HB8 HI8 HX8
  generalize w8.alloc (.cells #[.slice t8.A1 j8.names.length t8.c1, .slice t8.A2 j8.mods.length t8.c2, .slice t8.A3 j8.order.length t8.c3] 28) = w9 at *
  go_wp2_with fail
  refine (plain_any _).mono ?_
  rintro e wa ⟨sa, rfl, hIa, hba⟩
  have HBa := Lib.hid (HB9.out.trans (hba.mono HB9.out.size))
  have HIa := Lib.hid (HI9.out.later hba (Nat.le_refl _))
  have HXa := Lib.hid (HX9.out.grow hba)
  have HPa := Lib.hid hIa
  clear hIa hba HB9 HI9 HX9
  go_wp2_with fail
  refine (sizes_any sa plainI _ HPa.out).mono ?_
  rw [plainB_sizes.1, plainB_sizes.2]
  rintro e wb ⟨rfl, hbb⟩
  have HBb := Lib.hid (HBa.out.trans (hbb.mono HBa.out.size))
  have HIb := Lib.hid (HIa.out.later hbb (Nat.le_refl _))
  have HXb := Lib.hid (HXa.out.grow hbb)
  clear hbb HBa HIa HXa HPa
  go_upto_region 7 with (fail)
  have HBd := Lib.hid (HBb.out.trans ((drew_below wb).mono HBb.out.size))
  have HId := Lib.hid (HIb.out.later (drew_below wb) (Nat.le_refl _))
  have HXd := Lib.hid (HXb.out.grow (drew_below wb))
  clear HBb HIb HXb
  have x1 : ByteArray.extract ⟨B.toArray⟩ 0 4 = ⟨#[83, 69, 80, 73]⟩ := by rw [ext_take, HHead.out]
  have x2 : ByteArray.extract ⟨B.toArray⟩ 12 15 = ⟨#[1, 1, 77]⟩ := by rw [ext_at, show 15 = 12 + 3 from rfl, List.drop_take, Nat.add_sub_cancel_left, HMid.out]
  -- REGION
  have c0 : wb.drew.cell? ⟨b3, 0, none⟩ = some (.slice t3.A1 plainI.names.length t3.c1) := (HXd.out.cell 0).trans rfl
  have c1 : wb.drew.cell? ⟨b3, 1, none⟩ = some (.slice t3.A2 plainI.mods.length t3.c2) := (HXd.out.cell 1).trans rfl
  have c2 : wb.drew.cell? ⟨b3, 2, none⟩ = some (.slice t3.A3 plainI.order.length t3.c3) := (HXd.out.cell 2).trans rfl
  refine wp_region_fork 22 (Array.replicate 22 true ++ Array.replicate 30 false) (by kernel_rfl) (by kernel_rfl) rfl ?_
  generalize wb.drew = wd at *
  simp only [List.take_succ_cons, List.take_zero]
  repeat still_step
  refine wpStill_nil ?_
  refine ⟨?_, ?_⟩
  · go_wp2_with fail
    refine (plain_any wd).mono ?_
    rintro e wq ⟨sq, rfl, hIq, hbq⟩
    have HBq := Lib.hid (HBd.out.trans (hbq.mono HBd.out.size))
    have HIq := Lib.hid hIq
    have HIr := Lib.hid (HId.out.later hbq (Nat.le_refl _))
    have HXq := Lib.hid (HXd.out.grow hbq)
    clear hIq hbq c0 c1 c2
    have c0 : wq.cell? ⟨b3, 0, none⟩ = some (.slice t3.A1 plainI.names.length t3.c1) := (HXq.out.cell 0).trans rfl
    have c1 : wq.cell? ⟨b3, 1, none⟩ = some (.slice t3.A2 plainI.mods.length t3.c2) := (HXq.out.cell 1).trans rfl
    have c2 : wq.cell? ⟨b3, 2, none⟩ = some (.slice t3.A3 plainI.order.length t3.c3) := (HXq.out.cell 2).trans rfl
    go_wp2_with fail
    refine (imgSame_any t3 sq plainI plainI wq HIr.out HIq.out).mono ?_
    rw [show decide (plainI = plainI) = true by simp]
    rintro e ws ⟨rfl, hbs⟩
    have HBs := Lib.hid (HBq.out.trans (hbs.mono HBq.out.size))
    clear hbs c0 c1 c2 HBq HIq HIr HXq
    go_wp2_with fail
    refine (plain_any ws).mono ?_
    rintro e wt ⟨st, rfl, hIt, hbt⟩
    have HBt := Lib.hid (HBs.out.trans (hbt.mono HBs.out.size))
    have HIt := Lib.hid hIt
    clear hIt hbt HBs
    go_wp2_with fail
    refine (imgCheck_any st plainI wt HIt.out).mono ?_
    rw [show errArg (imgB plainI) = 0 by rw [plainB_ok]; rfl]
    rintro e wv ⟨rfl, hbv⟩
    have HBv := Lib.hid (HBt.out.trans (hbv.mono HBt.out.size))
    clear hbv HBt HIt
    go_wp2_with fail
    go_ret
    exact ⟨rfl, HBv.out⟩
  · go_wp2_with fail
    refine (plain_any wd).mono ?_
    rintro e wq ⟨sq, rfl, hIq, hbq⟩
    have HBq := Lib.hid (HBd.out.trans (hbq.mono HBd.out.size))
    have HIq := Lib.hid hIq
    have HIr := Lib.hid (HId.out.later hbq (Nat.le_refl _))
    have HXq := Lib.hid (HXd.out.grow hbq)
    clear hIq hbq c0 c1 c2
    have c0 : wq.cell? ⟨b3, 0, none⟩ = some (.slice t3.A1 plainI.names.length t3.c1) := (HXq.out.cell 0).trans rfl
    have c1 : wq.cell? ⟨b3, 1, none⟩ = some (.slice t3.A2 plainI.mods.length t3.c2) := (HXq.out.cell 1).trans rfl
    have c2 : wq.cell? ⟨b3, 2, none⟩ = some (.slice t3.A3 plainI.order.length t3.c3) := (HXq.out.cell 2).trans rfl
    go_wp2_with fail
    refine (imgSame_any t3 sq plainI plainI wq HIr.out HIq.out).mono ?_
    rw [show decide (plainI = plainI) = true by simp]
    rintro e ws ⟨rfl, hbs⟩
    have HBs := Lib.hid (HBq.out.trans (hbs.mono HBq.out.size))
    clear hbs c0 c1 c2 HBq HIq HIr HXq
    go_wp2_with fail
    refine (plain_any ws).mono ?_
    rintro e wt ⟨st, rfl, hIt, hbt⟩
    have HBt := Lib.hid (HBs.out.trans (hbt.mono HBs.out.size))
    have HIt := Lib.hid hIt
    clear hIt hbt HBs
    go_wp2_with fail
    refine (imgCheck_any st plainI wt HIt.out).mono ?_
    rw [show errArg (imgB plainI) = 0 by rw [plainB_ok]; rfl]
    rintro e wv ⟨rfl, hbv⟩
    have HBv := Lib.hid (HBt.out.trans (hbv.mono HBt.out.size))
    clear hbv HBt HIt
    go_wp2_with fail
    go_ret
    exact ⟨rfl, HBv.out⟩
end Go.Proofs.Ytckbfocbainlpaa
