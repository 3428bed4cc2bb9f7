/- separatumlaw24. separatumlaw24. Condition: what lies in memory can lie there; what each theorem says. -/
import Derived.Test.YtabenhpjgjjgnaaGreatDoorCj
import Derived.Test.YtabenhpjgjjgnaaGreatDoorCk
import Derived.Test.YtabenhpjgjjgnaaGreatDoorCi
import Derived.Test.YtabenhpjgjjgnaaGreatDoorCf
import Derived.Test.YtabenhpjgjjgnaaGreatDoorCd
/- separatumlaw24. -/
namespace Go.Proofs.YtabenhpjgjjgnaaGreatDoor
open Go.RowKit
set_option maxRecDepth 100000
def plainM : ModL := ⟨[], [⟨0, 0, 0, 0, 1, false⟩], [], 0, []⟩
def plainI : ImgL := ⟨[[77]], [plainM], [0]⟩
def PlainEnd (w : World) (e : Ending) (w' : World) : Prop := ∃ s, e = .returned (imgV s plainI) ∧ ImgIn w' s plainI ∧ Below w.heap.size w w'
theorem plain_in {W : World} {b : Nat} (h1 : W.heap[b]? = some (.cells #[.string ⟨#[77]⟩] 9 (0, 0))) (h2 : W.heap[b + 1]? = some (.cells #[.int .i64 0, .int .i64 0, .int .i64 0, .int .i64 0, .int .i64 1, .bool false] 113 (0, 0)))
 (h3 : W.heap[b + 1 + 1]? = some (.cells #[.string ⟨#[]⟩, .slice (some ⟨b + 1, 0, none⟩) 1 1, .slice none 0 0, .int .i64 0, .slice none 0 0] 68 (0, 0))) (h4 : W.heap[b + 1 + 1 + 1]? = some (.cells #[.int .i64 0] 3 (0, 0))) :
 ImgIn W ⟨some ⟨b, 0, none⟩, 1, some ⟨b + 1 + 1, 0, none⟩, 1, some ⟨b + 1 + 1 + 1, 0, none⟩, 1⟩ plainI := by
 have cell : ∀ {k : Nat} {cs : Array Value} {T : TypeId} {i : Nat} {v : Value}, W.heap[k]? = some (.cells cs T (0, 0)) → cs[i]? = some v → W.cell? ⟨k, i, none⟩ = some v := fun h hv => by
  unfold World.cell?; simp [h, hv]
 refine ⟨.inr ⟨b, 0, rfl, lt_of_get h1, fun j hj => ?_⟩, .inr ⟨b + 1 + 1, 0, rfl, lt_of_get h3, fun j hj => ?_⟩, .inr ⟨b + 1 + 1 + 1, 0, rfl, lt_of_get h4, fun j hj => ?_⟩, by decide, by decide, by decide⟩
 ·obtain rfl : j = 0 := by have : j < 1 := hj; omega
  exact ⟨cell h1 rfl, by decide⟩
 ·obtain rfl : j = 0 := by have : j < 1 := hj; omega
  refine ⟨⟨some ⟨b + 1, 0, none⟩, 1, none, 0, none, 0⟩, ⟨.inr ⟨b + 1, 0, rfl, lt_of_get h2, fun j hj => ?_⟩, .inl rfl, .inl rfl, by decide, by decide, by decide, by decide⟩, cell h3 rfl, cell h3 rfl, cell h3 rfl, cell h3 rfl, cell h3 rfl⟩
  obtain rfl : j = 0 := by have : j < 1 := hj; omega
  exact ⟨cell h2 rfl, cell h2 rfl, cell h2 rfl, cell h2 rfl, cell h2 rfl, cell h2 rfl⟩
 ·obtain rfl : j = 0 := by have : j < 1 := hj; omega
  exact cell h4 rfl
theorem five_heap (w : World) (a b c d e : Obj) : (((((w.alloc a).alloc b).alloc c).alloc d).alloc e).heap[w.heap.size + 1]? = some b ∧ (((((w.alloc a).alloc b).alloc c).alloc d).alloc e).heap[w.heap.size + 1 + 1]? = some c ∧ (((((w.alloc a).alloc b).alloc c).alloc d).alloc e).heap[w.heap.size + 1 + 1 + 1]? = some d ∧ (((((w.alloc a).alloc b).alloc c).alloc d).alloc e).heap[w.heap.size + 1 + 1 + 1 + 1]? = some e ∧ Below w.heap.size w (((((w.alloc a).alloc b).alloc c).alloc d).alloc e) := by
 have hb := heap_alloc_new (w.alloc a) b
 have hc := heap_alloc_new ((w.alloc a).alloc b) c
 have hd := heap_alloc_new (((w.alloc a).alloc b).alloc c) d
 have he := heap_alloc_new ((((w.alloc a).alloc b).alloc c).alloc d) e
 simp only [World.size_alloc] at hb hc hd he
 refine ⟨?_, ?_, ?_, he, ?_⟩
 ·exact (Below.heap_alloc _ e _ (by simp only [World.size_alloc]; omega)).trans ((Below.heap_alloc _ d _ (by simp only [World.size_alloc]; omega)).trans ((Below.heap_alloc _ c _ (by simp only [World.size_alloc]; omega)).trans hb))
 ·exact (Below.heap_alloc _ e _ (by simp only [World.size_alloc]; omega)).trans ((Below.heap_alloc _ d _ (by simp only [World.size_alloc]; omega)).trans hc)
 ·exact (Below.heap_alloc _ e _ (by simp only [World.size_alloc]; omega)).trans hd
 ·exact (((((Below.refl _ _).alloc (Nat.le_refl _) _).alloc (by simp only [World.size_alloc]; omega) _).alloc (by simp only [World.size_alloc]; omega) _).alloc (by simp only [World.size_alloc]; omega) _).alloc (by simp only [World.size_alloc]; omega) _
theorem plain24_any (w : World) : Calls Tryz.prog 43 #[] w (PlainEnd w) := by
 go_enter Tryz.func43, Tryz.ntmps43
 go_wp2_with fail
 refine bodyPost_ret (v := .agg #[.slice (some ⟨w.heap.size + 1, 0, none⟩) 1 1, .slice (some ⟨w.heap.size + 1 + 1 + 1, 0, none⟩) 1 1, .slice (some ⟨w.heap.size + 1 + 1 + 1 + 1, 0, none⟩) 1 1]) (by simp [results, Tryz.results43, go_sem]) rfl ?_
 obtain ⟨h1, h2, h3, h4, h5⟩ := five_heap w (.cells #[.slice (some ⟨w.heap.size + 1, 0, none⟩) 1 1, .slice (some ⟨w.heap.size + 1 + 1 + 1, 0, none⟩) 1 1, .slice (some ⟨w.heap.size + 1 + 1 + 1 + 1, 0, none⟩) 1 1] 55) (.cells #[.string ⟨#[77]⟩] 9) (.cells #[.int .i64 0, .int .i64 0, .int .i64 0, .int .i64 0, .int .i64 1, .bool false] 113) (.cells #[.string ⟨#[]⟩, .slice (some ⟨w.heap.size + 1 + 1, 0, none⟩) 1 1, .slice none 0 0, .int .i64 0, .slice none 0 0] 68) (.cells #[.int .i64 0] 3)
 exact ⟨_, rfl, plain_in h1 h2 h3 h4, h5⟩
def plainB : List UInt8 := encodeL plainI
theorem plainB_ok : imgB plainI = true := by kernel_rfl
theorem plainB_len : plainB.length = 34 := by kernel_rfl
theorem plainB_head : plainB.take 4 = [83, 69, 80, 73] := by kernel_rfl
theorem plainB_mid : (plainB.drop 12).take 3 = [1, 1, 77] := by kernel_rfl
theorem plainB_dec : decodeE plainB = 0 := by kernel_rfl
theorem plainB_key : decodeE (plainB ++ [120]) = 210 := by kernel_rfl
theorem plainB_short : decodeE [83, 69, 80, 73] = 7 := by kernel_rfl
theorem plainB_img : decodeI plainB = plainI := by kernel_rfl
theorem plainB_sizes : codeTo plainI.mods plainI.mods.length = 0 ∧ dataTo plainI.mods plainI.mods.length = 0 := ⟨by kernel_rfl, by kernel_rfl⟩
theorem nullI_no : imgB nullI = false := by kernel_rfl
theorem nullI_enc : encodeL nullI = [] := by kernel_rfl
theorem encEnd_eq {w w' : World} {ok : Bool} {l : List UInt8} {e : Ending} (h : PackEnd w ok l e w') {m : List UInt8} {n : Int} (h1 : l = m) (h2 : errArg ok = n) : e = .returned (.tuple #[.string ⟨m.toArray⟩, .int .i64 n]) ∧ Below w.heap.size w w' := by
 subst h1 h2; exact h
theorem decEnd_eq {w w' : World} {i : ImgL} {er : Int} {e : Ending} (h : DecEnd w i er e w') {j : ImgL} {n : Int} (h1 : i = j) (h2 : er = n) : DecEnd w j n e w' := by
 subst h1 h2; exact h
set_option maxHeartbeats 4000000 in
theorem alive_any (w : World) : Calls Tryz.prog 14 #[] w (BoolEnd w true) := by
 go_enter Tryz.func14, Tryz.ntmps14
 go_wp2_with fail
 refine (plain24_any _).mono ?_
 rintro e w1 ⟨s1, rfl, hI1, hb1⟩
 have HI1 := Lib.hid hI1
 have HB1 := Lib.hid hb1
 clear hI1 hb1
 go_wp2_with fail
 refine (encode_any s1 plainI _ HI1.out).mono ?_
 intro e w2 h2
 obtain ⟨rfl, hb2⟩ := encEnd_eq h2 (show encodeL plainI = plainB from rfl) (show errArg (imgB plainI) = 0 by rw [plainB_ok]; rfl)
 have HB2 := Lib.hid (HB1.out.trans (hb2.mono HB1.out.size))
 have hL := plainB_len
 have HDec := Lib.hid plainB_dec
 have HImg := Lib.hid plainB_img
 have HKey := Lib.hid plainB_key
 have HHead := Lib.hid plainB_head
 have HMid := Lib.hid plainB_mid
 clear h2 hb2 HI1 HB1
 generalize plainB = B at *
 go_wp2_with fail
 refine (decode_any B (by omega) _).mono ?_
 intro e w3 h3
 obtain ⟨t3, rfl, hI3, hb3⟩ := decEnd_eq h3 HImg.out HDec.out
 have HB3 := Lib.hid (HB2.out.trans (hb3.mono HB2.out.size))
 have HI3 := Lib.hid hI3
 have HX3 := Lib.hid (Box.new w3 #[.slice t3.A1 plainI.names.length t3.c1, .slice t3.A2 plainI.mods.length t3.c2, .slice t3.A3 plainI.order.length t3.c3] 55 (by decide))
 have HA3 := Lib.hid (alloc_below w3 (.cells #[.slice t3.A1 plainI.names.length t3.c1, .slice t3.A2 plainI.mods.length t3.c2, .slice t3.A3 plainI.order.length t3.c3] 55))
 clear h3 hI3 hb3 HB2
 unfold imgV
 go_upto_region 3 with (fail)
 have HB4 := Lib.hid (HB3.out.trans (HA3.out.mono HB3.out.size))
 have HI4 := Lib.hid (HI3.out.later HA3.out (Nat.le_refl _))
 clear HB3 HI3 HA3
 generalize w3.alloc (.cells #[.slice t3.A1 plainI.names.length t3.c1, .slice t3.A2 plainI.mods.length t3.c2, .slice t3.A3 plainI.order.length t3.c3] 55) = w4 at *
 generalize w3.heap.size = b3 at *
 go_wp2_with fail
 refine (encode_any nullS nullI _ (nullIn _)).mono ?_
 intro e w5 h5
 obtain ⟨rfl, hb5⟩ := encEnd_eq h5 nullI_enc (show errArg (imgB nullI) = 2 by rw [nullI_no]; rfl)
 have HB5 := Lib.hid (HB4.out.trans (hb5.mono HB4.out.size))
 have HI5 := Lib.hid (HI4.out.later hb5 (Nat.le_refl _))
 have HX5 := Lib.hid (HX3.out.grow hb5)
 clear h5 hb5 HB4 HI4 HX3
 go_wp2_with fail
 refine (decode_any [83, 69, 80, 73] (by simp) _).mono ?_
 intro e w6 h6
 obtain ⟨t6, rfl, hI6, hb6⟩ := decEnd_eq h6 rfl plainB_short
 have HB6 := Lib.hid (HB5.out.trans (hb6.mono HB5.out.size))
 have HI6 := Lib.hid (HI5.out.later hb6 (Nat.le_refl _))
 have HX6 := Lib.hid (HX5.out.grow hb6)
 clear h6 hb6 hI6 HB5 HI5 HX5
 generalize decodeI [83, 69, 80, 73] = j6 at *
 unfold imgV
 go_upto_region 5 with (fail)
 have HA6 := Lib.hid (alloc_below w6 (.cells #[.slice t6.A1 j6.names.length t6.c1, .slice t6.A2 j6.mods.length t6.c2, .slice t6.A3 j6.order.length t6.c3] 55))
 have HB7 := Lib.hid (HB6.out.trans (HA6.out.mono HB6.out.size))
 have HI7 := Lib.hid (HI6.out.later HA6.out (Nat.le_refl _))
 have HX7 := Lib.hid (HX6.out.grow HA6.out)
 clear HA6 HB6 HI6 HX6
 generalize w6.alloc (.cells #[.slice t6.A1 j6.names.length t6.c1, .slice t6.A2 j6.mods.length t6.c2, .slice t6.A3 j6.order.length t6.c3] 55) = w7 at *
 have a1 := addS B [120] (by simp; omega)
 go_wp2_with fail
 refine (decode_any (B ++ [120]) (by simp; omega) _).mono ?_
 intro e w8 h8
 obtain ⟨t8, rfl, hI8, hb8⟩ := decEnd_eq h8 rfl HKey.out
 have HB8 := Lib.hid (HB7.out.trans (hb8.mono HB7.out.size))
 have HI8 := Lib.hid (HI7.out.later hb8 (Nat.le_refl _))
 have HX8 := Lib.hid (HX7.out.grow hb8)
 clear h8 hb8 hI8 HB7 HI7 HX7 a1
 generalize decodeI (B ++ [120]) = j8 at *
 unfold imgV
 go_upto_region 6 with (fail)
 have HA8 := Lib.hid (alloc_below w8 (.cells #[.slice t8.A1 j8.names.length t8.c1, .slice t8.A2 j8.mods.length t8.c2, .slice t8.A3 j8.order.length t8.c3] 55))
 have HB9 := Lib.hid (HB8.out.trans (HA8.out.mono HB8.out.size))
 have HI9 := Lib.hid (HI8.out.later HA8.out (Nat.le_refl _))
 have HX9 := Lib.hid (HX8.out.grow HA8.out)
 clear HA8 HB8 HI8 HX8
 generalize w8.alloc (.cells #[.slice t8.A1 j8.names.length t8.c1, .slice t8.A2 j8.mods.length t8.c2, .slice t8.A3 j8.order.length t8.c3] 55) = w9 at *
 go_wp2_with fail
 refine (plain24_any _).mono ?_
 rintro e wa ⟨sa, rfl, hIa, hba⟩
 have HBa := Lib.hid (HB9.out.trans (hba.mono HB9.out.size))
 have HIa := Lib.hid (HI9.out.later hba (Nat.le_refl _))
 have HXa := Lib.hid (HX9.out.grow hba)
 have HPa := Lib.hid hIa
 clear hIa hba HB9 HI9 HX9
 go_wp2_with fail
 refine (sizes_any sa plainI _ HPa.out).mono ?_
 rw [plainB_sizes.1, plainB_sizes.2]
 rintro e wb ⟨rfl, hbb⟩
 have HBb := Lib.hid (HBa.out.trans (hbb.mono HBa.out.size))
 have HIb := Lib.hid (HIa.out.later hbb (Nat.le_refl _))
 have HXb := Lib.hid (HXa.out.grow hbb)
 clear hbb HBa HIa HXa HPa
 go_upto_region 7 with (fail)
 have HBd := Lib.hid (HBb.out.trans ((drew_below wb).mono HBb.out.size))
 have HId := Lib.hid (HIb.out.later (drew_below wb) (Nat.le_refl _))
 have HXd := Lib.hid (HXb.out.grow (drew_below wb))
 clear HBb HIb HXb
 have x1 : ByteArray.extract ⟨B.toArray⟩ 0 4 = ⟨#[83, 69, 80, 73]⟩ := by rw [ext_take, HHead.out]
 have x2 : ByteArray.extract ⟨B.toArray⟩ 12 15 = ⟨#[1, 1, 77]⟩ := by rw [ext_at, show 15 = 12 + 3 from rfl, List.drop_take, Nat.add_sub_cancel_left, HMid.out]
 have c0 : wb.drew.cell? ⟨b3, 0, none⟩ = some (.slice t3.A1 plainI.names.length t3.c1) := (HXd.out.cell 0).trans rfl
 have c1 : wb.drew.cell? ⟨b3, 1, none⟩ = some (.slice t3.A2 plainI.mods.length t3.c2) := (HXd.out.cell 1).trans rfl
 have c2 : wb.drew.cell? ⟨b3, 2, none⟩ = some (.slice t3.A3 plainI.order.length t3.c3) := (HXd.out.cell 2).trans rfl
 refine wp_region_fork 22 (Array.replicate 22 true ++ Array.replicate 30 false) (by kernel_rfl) (by kernel_rfl) rfl ?_
 generalize wb.drew = wd at *
 simp only [List.take_succ_cons, List.take_zero]
 repeat still_step
 refine wpStill_nil ?_
 refine ⟨?_, ?_⟩
 ·go_wp2_with fail
  refine (plain24_any wd).mono ?_
  rintro e wq ⟨sq, rfl, hIq, hbq⟩
  have HBq := Lib.hid (HBd.out.trans (hbq.mono HBd.out.size))
  have HIq := Lib.hid hIq
  have HIr := Lib.hid (HId.out.later hbq (Nat.le_refl _))
  have HXq := Lib.hid (HXd.out.grow hbq)
  clear hIq hbq c0 c1 c2
  have c0 : wq.cell? ⟨b3, 0, none⟩ = some (.slice t3.A1 plainI.names.length t3.c1) := (HXq.out.cell 0).trans rfl
  have c1 : wq.cell? ⟨b3, 1, none⟩ = some (.slice t3.A2 plainI.mods.length t3.c2) := (HXq.out.cell 1).trans rfl
  have c2 : wq.cell? ⟨b3, 2, none⟩ = some (.slice t3.A3 plainI.order.length t3.c3) := (HXq.out.cell 2).trans rfl
  go_wp2_with fail
  refine (imgSame_any t3 sq plainI plainI wq HIr.out HIq.out).mono ?_
  rw [show decide (plainI = plainI) = true by simp]
  rintro e ws ⟨rfl, hbs⟩
  have HBs := Lib.hid (HBq.out.trans (hbs.mono HBq.out.size))
  clear hbs c0 c1 c2 HBq HIq HIr HXq
  go_wp2_with fail
  refine (plain24_any ws).mono ?_
  rintro e wt ⟨st, rfl, hIt, hbt⟩
  have HBt := Lib.hid (HBs.out.trans (hbt.mono HBs.out.size))
  have HIt := Lib.hid hIt
  clear hIt hbt HBs
  go_wp2_with fail
  refine (imgCheck_any st plainI wt HIt.out).mono ?_
  rw [show errArg (imgB plainI) = 0 by rw [plainB_ok]; rfl]
  rintro e wv ⟨rfl, hbv⟩
  have HBv := Lib.hid (HBt.out.trans (hbv.mono HBt.out.size))
  clear hbv HBt HIt
  go_wp2_with fail
  go_ret
  exact ⟨rfl, HBv.out⟩
 ·go_wp2_with fail
  refine (plain24_any wd).mono ?_
  rintro e wq ⟨sq, rfl, hIq, hbq⟩
  have HBq := Lib.hid (HBd.out.trans (hbq.mono HBd.out.size))
  have HIq := Lib.hid hIq
  have HIr := Lib.hid (HId.out.later hbq (Nat.le_refl _))
  have HXq := Lib.hid (HXd.out.grow hbq)
  clear hIq hbq c0 c1 c2
  have c0 : wq.cell? ⟨b3, 0, none⟩ = some (.slice t3.A1 plainI.names.length t3.c1) := (HXq.out.cell 0).trans rfl
  have c1 : wq.cell? ⟨b3, 1, none⟩ = some (.slice t3.A2 plainI.mods.length t3.c2) := (HXq.out.cell 1).trans rfl
  have c2 : wq.cell? ⟨b3, 2, none⟩ = some (.slice t3.A3 plainI.order.length t3.c3) := (HXq.out.cell 2).trans rfl
  go_wp2_with fail
  refine (imgSame_any t3 sq plainI plainI wq HIr.out HIq.out).mono ?_
  rw [show decide (plainI = plainI) = true by simp]
  rintro e ws ⟨rfl, hbs⟩
  have HBs := Lib.hid (HBq.out.trans (hbs.mono HBq.out.size))
  clear hbs c0 c1 c2 HBq HIq HIr HXq
  go_wp2_with fail
  refine (plain24_any ws).mono ?_
  rintro e wt ⟨st, rfl, hIt, hbt⟩
  have HBt := Lib.hid (HBs.out.trans (hbt.mono HBs.out.size))
  have HIt := Lib.hid hIt
  clear hIt hbt HBs
  go_wp2_with fail
  refine (imgCheck_any st plainI wt HIt.out).mono ?_
  rw [show errArg (imgB plainI) = 0 by rw [plainB_ok]; rfl]
  rintro e wv ⟨rfl, hbv⟩
  have HBv := Lib.hid (HBt.out.trans (hbv.mono HBt.out.size))
  clear hbv HBt HIt
  go_wp2_with fail
  go_ret
  exact ⟨rfl, HBv.out⟩
end Go.Proofs.YtabenhpjgjjgnaaGreatDoor
/- separatumlaw24. -/
namespace Go.Proofs.YtabenhpjgjjgnaaGreatDoor
open Go.RowKit
set_option maxRecDepth 100000
def OwnG (w : World) (base : Nat) (v : Value) (l : List UInt8) : Prop := ∃ g cap cur fz, v = .slice (some ⟨g, 0, none⟩) l.length cap ∧ base ≤ g ∧ w.heap[g]? = some (.cells cur 5 fz) ∧ l.length ≤ cap ∧ cap ≤ maxLen ∧ cur.size = cap ∧ cur.toList.take l.length = (byteVals l).toList ∧ ∀ i, i < cap → ¬ (fz.1 ≤ i ∧ i < fz.2)
theorem OwnG.slice {w : World} {base : Nat} {v : Value} {l : List UInt8} (h : OwnG w base v l) : ∃ A c, v = .slice A l.length c := by
 obtain ⟨g, cap, cur, fz, rfl, _⟩ := h; exact ⟨_, _, rfl⟩
theorem OwnG.lt {w : World} {base : Nat} {v : Value} {l : List UInt8} (h : OwnG w base v l) : ∀ k, v.ownBlock = some k → base ≤ k ∧ k < w.heap.size := by
 obtain ⟨g, cap, cur, fz, rfl, hb, hg, _⟩ := h
 intro k hk
 have : g = k := Option.some.inj hk
 subst this
 exact ⟨hb, lt_of_get hg⟩
theorem OwnG.grow {w w' : World} {base : Nat} {v : Value} {l : List UInt8} (h : OwnG w base v l) (hb : Below w.heap.size w w') : OwnG w' base v l := by
 obtain ⟨g, cap, cur, fz, hv, hB, hg, r⟩ := h
 exact ⟨g, cap, cur, fz, hv, hB, (hb.block g (lt_of_get hg)).trans hg, r⟩
theorem OwnG.conv {w : World} {base : Nat} {v : Value} {l : List UInt8} (h : OwnG w base v l) : (convert 61 9 v).run Tryz.prog w = .ok (.string ⟨l.toArray⟩) w := by
 obtain ⟨g, cap, cur, fz, rfl, hB, hg, h1, h2, h3, h4, h5⟩ := h
 exact conv_at (o := 0) hg (by rw [List.drop_zero]; exact h4) l.length rfl
theorem ownG_conv (w : World) (s : List UInt8) (hs : s.length ≤ 140737488355328) : OwnG (Lib.bytesWorld w 5 ⟨s.toArray⟩) w.heap.size (.slice (some ⟨w.heap.size, 0, none⟩) s.length (grownCap w s.length 0 5)) s := by
 have hge := grownCap_ge w s.length 0 5
 have hsz : (Lib.bytesCells w 5 ⟨s.toArray⟩).size = grownCap w s.length 0 5 := by
  simp [Lib.bytesCells, ByteArray.size]; omega
 refine ⟨w.heap.size, _, _, _, rfl, Nat.le_refl _, Lib.bytesWorld_at_new w 5 ⟨s.toArray⟩, hge, grownCap_le_maxLen w s.length 0 5 (by unfold maxLen; omega), hsz, ?_, fun i hi h => ?_⟩
 ·simp [Lib.bytesCells, byteVals]
 ·simp only at h; omega
theorem bytes_below (w : World) (s : ByteArray) : Below w.heap.size w (Lib.bytesWorld w 5 s) := ⟨rfl, rfl, rfl, by rw [Lib.bytesWorld_size]; omega, fun k hk => Lib.bytesWorld_at_old w _ _ k hk⟩
theorem run_appG (w : World) (ty : TypeId) (base : Nat) (v : Value) (l : List UInt8) (hown : OwnG w base v l) {tx : TypeId} (x : Value) (m : List UInt8) (hs : Src Tryz.prog 1 tx x m.length (byteVals m).toList w)
 (hbytes : l.length + m.length ≤ 140737488355328) (hbase : base ≤ w.heap.size) :
 ∃ v' w', (Builtin.append_ #[61, tx] ty #[v, x]).run Tryz.prog w = .ok v' w' ∧ OwnG w' base v' (l ++ m) ∧ w.grownBy w' v.ownBlock := by
 obtain ⟨ht, ⟨i, z, hi, hz, hs1, hb1, hzs⟩, hsz⟩ := etBytes
 have h63 : l.length + m.length ≤ maxLen := by unfold maxLen; omega
 obtain ⟨g, cap, cur, fz, rfl, hbg, hg, hnc, hcm, hcs, htake, hfz⟩ := hown
 have hlen : (byteVals (l ++ m)).toList.length = l.length + m.length := by rw [byteVals_length, List.length_append]
 by_cases hroom : l.length + m.length ≤ cap
 ·have hr := run_append_room_src (P := Tryz.prog) w 61 tx ty 5 i ht hi g 0 l.length cap x m.length (byteVals m).toList (by rw [hs1]; exact hs) hroom
   (fun j hj => by
    rw [byteVals_length] at hj
    rw [cell_of_row w g _ cur 5 fz hg, Array.getElem?_eq_getElem (by rw [hs1]; omega)]; rfl)
   (fun j hj => by
    rw [byteVals_length] at hj
    have := hfz (0 + l.length * i.size + j) (by rw [hs1]; omega)
    unfold World.frozen?; rw [hg]
    simp only [Bool.and_eq_false_iff, decide_eq_false_iff_not]
    by_cases hq : fz.1 ≤ 0 + l.length * i.size + j
    ·right; intro h; exact this ⟨hq, h⟩
    ·left; exact hq)
  simp only [Nat.zero_add] at hr
  rw [hs1, Nat.mul_one] at hr
  obtain ⟨cur', h1, h2, h3⟩ := setCells_block g (byteVals m).toList l.length w cur hg (by rw [byteVals_length]; omega)
  have hk := setCells_kept g (byteVals m).toList l.length w
  refine ⟨_, _, hr, ⟨g, cap, cur', fz, by rw [List.length_append], hbg, h1, by rw [List.length_append]; exact hroom, hcm, by omega, ?_, hfz⟩, ⟨hk.1, hk.2.1, hk.2.2.1, by rw [hk.2.2.2.1]; exact Nat.le_refl _, fun k _ hne => hk.2.2.2.2 k (fun e => hne (by simp [Value.ownBlock, e]))⟩⟩
  rw [List.length_append, byteVals_append, ← htake, ← h3, byteVals_length]
 ·have holds : ∀ j u, (byteVals l).toList[j]? = some u → w.cell? ((⟨g, 0, none⟩ : Addr).add j) = some u := fun j u hu => by
   have hadd : (⟨g, 0, none⟩ : Addr).add j = ⟨g, j, none⟩ := by unfold Addr.add; split <;> simp_all
   rw [hadd, cell_of_row w g j cur 5 fz hg]
   rw [← htake, List.getElem?_take] at hu
   split at hu
   ·simpa using hu
   ·cases hu
  have hr := run_append_grow_src (P := Tryz.prog) w 61 tx ty 5 i z ht hi hz (some ⟨g, 0, none⟩) l.length cap (byteVals l).toList (run_firstCells_some w.drew i.size l.length ⟨g, 0, none⟩ l.length cap (byteVals l).toList (by rw [byteVals_length, hs1, Nat.mul_one]) (by simpa using holds)) x m.length (byteVals m).toList (by rw [hs1]; exact hs) (by omega) (by omega) (growslice_fits (by omega) (by rw [hb1]; omega))
  have hge := grownCap_ge w (l.length + m.length) cap 5
  refine ⟨_, _, hr, ⟨w.heap.size, _, _, (0, 0), by rw [List.length_append], hbase, heap_alloc_new w.drew _, by rw [List.length_append]; exact hge, grownCap_le_maxLen w (l.length + m.length) cap 5 h63, ?_, ?_, fun j _ h => by simp at h⟩, ⟨rfl, rfl, rfl, by simp, fun k hk _ => Below.heap_alloc w.drew _ k hk⟩⟩
  ·simp only [Array.size_append, List.size_toArray, size_zeroCells, hzs, List.length_append, byteVals_length, Nat.mul_one]
   omega
  ·simp only [Array.toList_append]
   rw [← byteVals_append, ← byteVals_length (l ++ m)]
   exact List.take_left
theorem wpList_appG {ops : Array Oper} {rest : List Oper} {o : Oper} {a : Act} {w : World} {Q : Exit → Act → World → Prop} {tx : TypeId} (hgd : o.guard = none) (s xo : Operand) (ho : o.op = .call { callee := .builtin .append, args := #[s, xo], argTypes := #[61, tx] })
 (base : Nat) (v : Value) (l : List UInt8) (hsv : a.eval s = v) (hown : OwnG w base v l) (x : Value) (m : List UInt8) (hxv : a.eval xo = x) (hs : Src Tryz.prog 1 tx x m.length (byteVals m).toList w)
 (hbytes : l.length + m.length ≤ 140737488355328) (hbase : base ≤ w.heap.size)
 (h : ∀ v' w', OwnG w' base v' (l ++ m) → w.grownBy w' v.ownBlock → wpList Tryz.prog ops Q rest (a.put o.dst v') w') : wpList Tryz.prog ops Q (o :: rest) a w :=
 wpList_plain hgd fun _ hK => by
  obtain ⟨v', w', hr, hA, hg⟩ := run_appG w o.type base v l hown x m hs hbytes hbase
  unfold Oper.wp execOp
  simp only [ho, resolve, invoke, builtin, Sem.run_bind, Sem.run_pure, Result.andThen_ok, List.map_toArray, List.map_cons, List.map_nil, hsv, hxv, hr]
  exact hK _ _ (h v' w' hA hg)
def rightL (s : List UInt8) : List UInt8 := if s.length < 12 then s else s.take 4 ++ (eightL (keyN (s.drop 12)) ++ s.drop 12)
theorem rightL_short {s : List UInt8} (h : s.length < 12) : rightL s = s := by unfold rightL; rw [if_pos h]
theorem rightL_long {s : List UInt8} (h : ¬ s.length < 12) : rightL s = s.take 4 ++ (eightL (keyN (s.drop 12)) ++ s.drop 12) := by unfold rightL; rw [if_neg h]
theorem eightTake_succ (n k : Nat) (hk : k < 8) : (eightL n).take (k + 1) = (eightL n).take k ++ [UInt8.ofNat (n / 2 ^ (56 - 8 * k) % 256)] := by
 have hl : k < (eightL n).length := by unfold eightL; rw [beN_length]; exact hk
 rw [List.take_succ_eq_append_getElem hl]
 have := beN_get n 8 k hk
 rw [List.getD_eq_getElem?_getD, List.getElem?_eq_getElem (by unfold eightL at hl; exact hl), Option.getD_some] at this
 unfold eightL
 rw [this]
 congr 5
 rw [show (256 : Nat) = 2 ^ 8 from rfl, ← Nat.pow_mul]
 congr 1
 omega
def StrEnd (w : World) (l : List UInt8) (e : Ending) (w' : World) : Prop := e = .returned (.string ⟨l.toArray⟩) ∧ Below w.heap.size w w'
set_option maxHeartbeats 2000000 in
theorem right_any (s : List UInt8) (hs : s.length ≤ 140737488355000) (w : World) : Calls Tryz.prog 16 #[.string ⟨s.toArray⟩] w (StrEnd w (rightL s)) := by
 by_cases h : s.length < 12
 ·have HE := Lib.hid (rightL_short h)
  go_enter Tryz.func16, Tryz.ntmps16
  go_wp2_with fail
  go_ret
  rw [HE.out]
  exact ⟨rfl, Below.refl _ _⟩
 have HE := Lib.hid (rightL_long h)
 have hI : (12 : Int) ≤ (s.length : Int) := by omega
 have hI4 : (4 : Int) ≤ (s.length : Int) := by omega
 have hnI : ¬ (s.length : Int) < 12 := by omega
 have x3 := ext_drop s 12
 have x4 := ext_take s 4
 have hl12 : (s.drop 12).length ≤ 140737488355328 := by rw [List.length_drop]; omega
 have hkl := keyN_lt (s.drop 12)
 have h4 : (s.take 4).length = 4 := by rw [List.length_take]; omega
 have hcv := Lib.run_convert_string_bytes (P := Tryz.prog) w 9 61 5 ⟨(s.take 4).toArray⟩ Tryz.underlying9 Tryz.underlying61 Tryz.underlying5
 have HO := Lib.hid (show OwnG (Lib.bytesWorld w 5 ⟨(s.take 4).toArray⟩) w.heap.size (.slice (some ⟨w.heap.size, 0, none⟩) 4 (grownCap w 4 0 5)) (s.take 4) by have := ownG_conv w (s.take 4) (by omega); rw [h4] at this; exact this)
 have HB := Lib.hid (bytes_below w ⟨(s.take 4).toArray⟩)
 have hsz : (⟨(s.take 4).toArray⟩ : ByteArray).size = (s.take 4).length := by simp [ByteArray.size]
 clear h
 generalize Lib.bytesWorld w 5 ⟨(s.take 4).toArray⟩ = w0 at *
 go_enter Tryz.func16, Tryz.ntmps16
 go_wp2_with fail
 refine (keyOf_any (s.drop 12) hl12 _).mono ?_
 rintro e w' ⟨rfl, rfl⟩
 generalize keyN (s.drop 12) = n at *
 have hn : n ≤ 18446744073709551615 := by unfold two64 at hkl; omega
 clear hkl
 go_wp2_with fail
 clear hcv x4
 have HB4 := Lib.hid h4
 generalize s.take 4 = b4 at *
 clear h4
 go_loopg [4, 5] 8 (fun g v i wr => ∃ k : Nat, k + g = 8 ∧ i = .int .i64 k ∧ OwnG wr w.heap.size v (b4 ++ (eightL n).take k) ∧ Below w.heap.size w wr)
 case atStart => exact ⟨0, by omega, rfl, by simpa using HO.out, HB.out⟩
 case round =>
  obtain ⟨k, hk, rfl, hown, hb⟩ := hrel
  have HOw := Lib.hid hown
  have HBw := Lib.hid hb
  obtain ⟨A, cc, hv⟩ := hown.slice
  subst hv
  clear hown
  by_cases hlt : k < 8
  ·have hkI : (k : Int) < 8 := by omega
   have HS := Lib.hid (eightTake_succ n k hlt)
   have HU := Lib.hid (show ((UInt8.ofNat (n / 2 ^ (56 - 8 * k) % 256)).toNat : Int) = (n : Int) / 2 ^ (56 - 8 * k) % 256 by
    rw [show (UInt8.ofNat (n / 2 ^ (56 - 8 * k) % 256)).toNat = n / 2 ^ (56 - 8 * k) % 256 % 256 from UInt8.toNat_ofNat, Nat.mod_mod]
    simp)
   have hll : (b4 ++ (eightL n).take k).length ≤ 12 := by rw [List.length_append, List.length_take, HB4.out]; omega
   have HBy := Lib.hid (show byteVals [UInt8.ofNat (n / 2 ^ (56 - 8 * k) % 256)] = #[.int .u8 ((n : Int) / 2 ^ (56 - 8 * k) % 256)] by simp only [byteVals, List.map_cons, List.map_nil]; rw [HU.out])
   have hwz : w.heap.size ≤ wr.heap.size := hb.size
   clear hb
   go_wp2_with (at_builtin; go_loud (refine wpList_appG rfl _ _ rfl w.heap.size _ (b4 ++ (eightL n).take k) rfl (HOw.out.grow (alloc_below _ _)) _ [UInt8.ofNat (n / 2 ^ (56 - 8 * k) % 256)] rfl (by rw [HBy.out]; exact src_new etBytes wr _ _ 1 1 rfl (by simp [Value.oneCell'])) (by simp only [List.length_cons, List.length_nil]; omega) (by simp; omega) ?_); intro v9 w9 hA9 hg9)
   go_roundg (gk - 1)
   case measure => omega
   case rel =>
    refine ⟨k + 1, by omega, by go_num, by rw [HS.out, ← List.append_assoc]; exact hA9, ?_⟩
    exact (HBw.out.alloc (by simpa using hwz) _).grown hg9 (by simp; omega) (fun j hj => (HOw.out.lt j hj).1)
  ·obtain rfl : k = 8 := by omega
   have HT := Lib.hid (show (eightL n).take 8 = eightL n from List.take_of_length_le (Nat.le_of_eq (beN_length n 8)))
   rw [HT.out] at HOw ⊢
   have h8 : (eightL n).length = 8 := beN_length _ _
   have hcv := fun x => (HOw.out.grow (growN_below wr x)).conv
   have a1 := addS (b4 ++ eightL n) (s.drop 12) (by rw [List.length_append, HB4.out, h8]; omega)
   clear h8
   go_wp2_with fail
   generalize (b4 ++ eightL n).length = L at hcv ⊢
   clear x3
   have x3 := ext_drop s 12
   refine wp_region_grow (by kernel_rfl) (by kernel_rfl) ?_
   repeat (first | go_big_quiet_step (fail))
   refine wpQuiet_nil ?_
   rintro _ ⟨gx, rfl⟩
   go_wp2_with fail
   go_ret
   rw [HE.out, ← List.append_assoc]
   exact ⟨rfl, HBw.out.trans ((growN_below wr gx).mono HBw.out.size)⟩
end Go.Proofs.YtabenhpjgjjgnaaGreatDoor
