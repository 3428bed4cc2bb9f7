/- The document's Encode and Size; code.Same. Conditions: what lies in memory can lie there. -/
import Derived.Test.YtgcmenjpcgdikaaDoorRd
import Derived.Test.YtgcmenjpcgdikaaDoorDa
import Derived.Test.YtgcmenjpcgdikaaDoorShelf
namespace Go.Proofs.YtgcmenjpcgdikaaDoor
open Go.RowKit
set_option maxRecDepth 100000

set_option maxHeartbeats 1000000 in
theorem refEncode_any (L : Option Addr) (l : List InsL) (cap : Nat) (hl : l.length ≤ 1073741824) (w : World) (hL : Inss w L l) :
    Calls Tryd.prog 21 #[.slice L l.length cap] w (OneEnd w (encodeL l)) := by
  go_enter Tryd.func21, Tryd.ntmps21
  go_wp2_with fail
  go_loopg [4, 5] (l.length) (fun g v i wr => ∃ k : Nat, k + g = l.length ∧ i = .int .i64 k ∧ errOf (l.take k) = 0 ∧ wr.ownsRow w.heap.size 5 1 v (bytesOf (l.take k)).length (byteVals (bytesOf (l.take k))).toList ∧ Below w.heap.size w wr)
  case atStart => exact ⟨0, by omega, rfl, rfl, World.ownsRow_nil .., Below.refl _ _⟩
  case round =>
    obtain ⟨k, hk, rfl, herr, hown, hb⟩ := hrel
    have HE := Lib.hid herr
    have HO := Lib.hid hown
    clear herr hown
    by_cases hlt : k < l.length
    · obtain ⟨b, off, rfl, hbw, hI⟩ := hL.at_ hlt
      obtain ⟨A, cap2, c0, c1, hA, hn, hlen⟩ := hI.later hb (Nat.le_refl _) hbw
      clear hI
      have hbr : b < wr.heap.size := by have := hb.size; omega
      have HN1 := Lib.hid (errOf_at l k hlt HE.out)
      have HN2 := Lib.hid (errOf_next l k hlt HE.out)
      have HN3 := Lib.hid (bytesOf_snoc l k hlt)
      generalize l.getD k (0, []) = i at *
      obtain ⟨n, args⟩ := i
      simp only at c0 c1 hA hn hlen
      have hkI : (k : Int) < (l.length : Int) := by omega
      have hAr := Lib.hid hA
      clear hA hL
      have hos := oneL_short n args
      have hbs := bytesOf_short (l.take k)
      have htk : (l.take k).length ≤ k := List.length_take_le _ _
      go_wp2_with fail
      refine (refOne_any n hn A args cap2 hlen _ hAr.out).mono ?_
      rintro e w5 ⟨v5, rfl, hown5, hb5⟩
      have HO5 := Lib.hid hown5
      have hb6 := hb.trans (hb5.mono hb.size)
      have HOB := Lib.hid (own_later HO.out hb5)
      have hws : w.heap.size ≤ w5.heap.size := hb6.size
      clear HO hb5 hAr c0 c1 hown5
      generalize oneL n args = r at *
      obtain ⟨rb, re⟩ := r
      simp only at hos HN1 HN2 HN3 HO5 ⊢
      by_cases hre : re = 0
      · have e1 : (re != 0) = false := by simp [hre]
        have HN2 := Lib.hid (HN2.out hre)
        clear HN1 hre
        go_wp2_with (at_builtin; refine wpList_app etBytes rfl _ _ rfl w.heap.size _ _ _ rfl HOB.out _ rb.length _ rfl (src_own etBytes HO5.out (byteVals_one _)) (by omega) (by unfold maxLen; omega) hws ?_; intro v9 w9 hA9)
        have H9 := Lib.hid (hA9.below hb6 hws HOB.out (Nat.le_refl _))
        have O9 := Lib.hid hA9.own
        clear hA9
        go_wp2_with fail
        go_roundg (gk - 1)
        case measure => omega
        case rel =>
          refine ⟨k + 1, by omega, by go_num, HN2.out, ?_, H9.out⟩
          rw [HN3.out, byteVals_append, List.length_append]
          exact O9.out
      · have e1 : (re != 0) = true := by simp [hre]
        have HN1 := Lib.hid (HN1.out hre)
        have HRE := Lib.hid hre
        clear HN2 HN3 hre
        go_wp2_with fail
        go_ret2
        refine ⟨?_, hb6⟩
        unfold encodeL
        rw [HN1.out, if_pos HRE.out]
        rfl
    · obtain rfl : k = l.length := by omega
      have hbs := bytesOf_short l
      have HT := Lib.hid (show l.take l.length = l by simp)
      rw [HT.out] at HE HO
      obtain ⟨A, c, rfl⟩ := own_slice' HO.out
      have hconv := conv_own HO.out
      by_cases hlong : 65535 < (bytesOf l).length
      · have HL := Lib.hid hlong
        go_wp2_with fail
        go_ret2
        refine ⟨?_, hb⟩
        unfold encodeL
        rw [HE.out, if_neg (by simp), if_pos HL.out]
        rfl
      · have HL := Lib.hid hlong
        go_wp2_with fail
        go_ret2
        refine ⟨?_, hb⟩
        unfold encodeL
        rw [HE.out, if_neg (by simp), if_neg HL.out]
        rfl

set_option maxHeartbeats 400000 in
theorem refSize_any (n : Nat) (hn : n < 256) (A : Option Addr) (args : List Int) (cap : Nat) (hl : args.length ≤ 17592186044416) (w : World) (hA : Ints w A args) :
    Calls Tryd.prog 23 #[.agg #[.int .u8 n, .slice A args.length cap]] w fun e w' => e = .returned (.int .i64 ((oneL n args).1.length : Int)) ∧ Below w.heap.size w w' := by
  have HA := Lib.hid (hA.later ((Below.refl w.heap.size w).alloc (Nat.le_refl _) (.cells #[.int .u8 n, .slice A args.length cap] 25)) (Nat.le_refl _))
  clear hA
  go_enter Tryd.func23, Tryd.ntmps23
  go_wp2_with fail
  refine (refOne_any n hn A args cap hl _ HA.out).mono ?_
  rintro e w5 ⟨v5, rfl, hown5, hb5⟩
  obtain ⟨A5, c5, rfl⟩ := own_slice' hown5
  obtain ⟨hb6, _⟩ := box_below hb5
  clear hown5 hb5
  go_wp2_with fail
  go_ret
  exact ⟨rfl, hb6⟩

/-- slices.Equal at two rows of ints. -/
theorem equalInts (A B : Option Addr) (a b : List Int) (ca cb : Nat) (ha : a.length ≤ 17592186044416) (hb : b.length ≤ 17592186044416) (w : World) (hA : Ints w A a) (hB : Ints w B b) :
    Calls Tryd.prog 38 #[.slice A a.length ca, .slice B b.length cb] w fun e w' => e = .returned (.bool (decide (a = b))) ∧ ∃ q, w' = w.drewN q := by
  by_cases hl : a.length = b.length
  · by_cases h0 : a.length = 0
    · have e1 : a = [] := List.eq_nil_of_length_eq_zero h0
      have e2 : b = [] := List.eq_nil_of_length_eq_zero (by omega)
      subst e1 e2
      refine (Tryd.slices_Equal_int_empty A B ca 0 cb w (by omega)).mono ?_
      rintro e w' ⟨rfl, rfl⟩
      exact ⟨by simp, 0, rfl⟩
    · rcases hA with rfl | ⟨b1, o1, rfl, _, c1⟩
      · simp at h0
      rcases hB with rfl | ⟨b2, o2, rfl, _, c2⟩
      · exact absurd hl h0
      refine (Tryd.slices_Equal_int b1 o1 a.length ca b2 o2 b.length cb a b w (Nat.le_refl _) (Nat.le_refl _) (by omega) (by omega) c1 c2).mono ?_
      rintro e w' ⟨rfl, hq⟩
      refine ⟨?_, hq⟩
      simp only [List.take_length]
      exact ret1 (vbool (by rw [Bool.eq_iff_iff]; simp))
  · refine (Tryd.slices_Equal_int_lens A B a.length ca b.length cb w hl).mono ?_
    rintro e w' ⟨rfl, rfl⟩
    exact ⟨ret1 (vbool (decide_eq_false fun h => hl (by rw [h])).symm), 0, rfl⟩

set_option maxHeartbeats 400000 in
theorem codeSame_any (n m : Nat) (A B : Option Addr) (a b : List Int) (ca cb : Nat) (ha : a.length ≤ 17592186044416) (hb : b.length ≤ 17592186044416) (w : World) (hA : Ints w A a) (hB : Ints w B b) :
    Calls Tryd.prog 24 #[.agg #[.int .u8 n, .slice A a.length ca], .agg #[.int .u8 m, .slice B b.length cb]] w fun e w' =>
      e = .returned (.bool (decide ((n, a) = (m, b)))) ∧ Below w.heap.size w w' := by
  have hbel : Below w.heap.size w ((w.alloc (.cells #[.int .u8 n, .slice A a.length ca] 25)).alloc (.cells #[.int .u8 m, .slice B b.length cb] 25)) :=
    ((Below.refl _ _).alloc (Nat.le_refl _) _).alloc (by simp) _
  have hA' := Lib.hid (hA.later hbel (Nat.le_refl _))
  have hB' := Lib.hid (hB.later hbel (Nat.le_refl _))
  have HB := Lib.hid hbel
  clear hA hB hbel
  by_cases h1 : n = m
  · have g1 : ((n : Int) == (m : Int)) = true := by simp [h1]
    have H1 := Lib.hid h1
    clear h1
    go_enter Tryd.func24, Tryd.ntmps24
    go_wp2_with fail
    refine (equalInts A B a b ca cb ha hb _ hA'.out hB'.out).mono ?_
    rintro e w5 ⟨rfl, q, rfl⟩
    go_wp2_with fail
    go_ret
    exact ⟨ret1 (vbool (by rw [H1.out, Bool.eq_iff_iff]; simp)), below_drawn HB.out _⟩
  · have g1 : ((n : Int) == (m : Int)) = false := by simp; omega
    have H1 := Lib.hid h1
    clear h1
    go_enter Tryd.func24, Tryd.ntmps24
    go_wp2_with fail
    go_ret
    exact ⟨ret1 (vbool (decide_eq_false fun h => H1.out (by injection h)).symm), HB.out⟩

set_option maxHeartbeats 1000000 in
theorem refName_any (n : Nat) (hn : n < 256) (w : World) :
    Calls Tryd.prog 25 #[.int .u8 n] w fun e w' => e = .returned (.string ⟨(nameL n).toArray⟩) ∧ Below w.heap.size w w' := by
  have HB := Lib.hid (namesW_below w)
  have HT := Lib.hid (show thereB n = decide (1 ≤ n ∧ n ≤ 31 ∨ 40 ≤ n ∧ n ≤ 81) by unfold thereB; rw [Bool.eq_iff_iff]; simp)
  by_cases h1 : 1 ≤ n ∧ n ≤ 31
  · have hL := Lib.hid (show nameL n = opsNames.getD (n - 1) [] by unfold nameL; exact if_pos h1)
    have hT := Lib.hid (show thereB n = true by rw [HT.out]; simp [h1])
    obtain ⟨h1, h2⟩ := h1
    have HC := Lib.hid (cell_ops w (n - 1) (by omega))
    go_enter Tryd.func25, Tryd.ntmps25
    go_wp2_with fail
    refine (refThere n _).mono ?_
    rintro e w' ⟨rfl, hw⟩
    have hc : w'.cell? ⟨w.heap.size, n - 1, none⟩ = some (.string ⟨(opsNames.getD (n - 1) []).toArray⟩) := by rw [← hw]; exact HC.out
    have hb : Below w.heap.size w w' := by rw [← hw]; exact HB.out
    have HW := Lib.hid hb
    clear hw HC HB hb
    rw [hT.out]
    go_wp2_with fail
    go_ret
    exact ⟨by rw [hL.out]; simp, HW.out⟩
  · by_cases h2 : 40 ≤ n ∧ n ≤ 81
    · have hL := Lib.hid (show nameL n = insNames.getD (n - 40) [] by unfold nameL; rw [if_neg h1]; exact if_pos h2)
      have hT := Lib.hid (show thereB n = true by rw [HT.out]; simp [h2])
      obtain ⟨h2, h3⟩ := h2
      have h1' : 31 < n := by omega
      clear h1
      have HC := Lib.hid (cell_ins w (n - 40) (by omega))
      go_enter Tryd.func25, Tryd.ntmps25
      go_wp2_with fail
      refine (refThere n _).mono ?_
      rintro e w' ⟨rfl, hw⟩
      have hc : w'.cell? ⟨w.heap.size + 1, n - 40, none⟩ = some (.string ⟨(insNames.getD (n - 40) []).toArray⟩) := by rw [← hw]; exact HC.out
      have hb : Below w.heap.size w w' := by rw [← hw]; exact HB.out
      have HW := Lib.hid hb
      clear hw HC HB hb
      rw [hT.out]
      go_wp2_with fail
      go_ret
      exact ⟨by rw [hL.out]; simp, HW.out⟩
    · have hL := Lib.hid (show nameL n = [] by unfold nameL; rw [if_neg h1, if_neg h2])
      have hT := Lib.hid (show thereB n = false by rw [HT.out]; simp; omega)
      go_enter Tryd.func25, Tryd.ntmps25
      go_wp2_with fail
      refine (refThere n _).mono ?_
      rintro e w' ⟨rfl, hw⟩
      have hb : Below w.heap.size w w' := by rw [← hw]; exact HB.out
      have HW := Lib.hid hb
      clear hw HB hb
      rw [hT.out]
      go_wp2_with fail
      go_ret
      exact ⟨by rw [hL.out]; rfl, HW.out⟩
end Go.Proofs.YtgcmenjpcgdikaaDoor
