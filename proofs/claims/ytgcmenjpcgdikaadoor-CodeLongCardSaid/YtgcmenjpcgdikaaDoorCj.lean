/- code.one at whatever instruction; code.Encode. -/
import Derived.Test.YtgcmenjpcgdikaaDoorCi
import Derived.Test.YtgcmenjpcgdikaaDoorPm
namespace Go.Proofs.YtgcmenjpcgdikaaDoor
open Go.RowKit
set_option maxRecDepth 100000

theorem one_any (n : Nat) (hn : n < 256) (A : Option Addr) (args : List Int) (cap : Nat) (hl : args.length ≤ 17592186044416) (w : World) (ht : Tab w) (hA : Ints w A args) :
    Calls Tryd.prog 32 #[.agg #[.int .u8 n, .slice A args.length cap]] w (OneEnd w (oneL n args)) := by
  by_cases hT : thereB n = true
  · by_cases hR : rowsOk n args.length = true
    · by_cases hr : rowsOf n args.length < 256
      · exact one_fill n hn hT A args cap (by omega) hR hr w ht hA
      · exact one_over n hn hT A args cap hl hR (by omega) w ht hA
    · refine (one_few n hn hT A args.length cap (by omega) (by simpa using hR) w ht).mono ?_
      rintro e w' ⟨rfl, hb⟩
      exact ⟨by unfold oneL; simp [hT, hR], hb⟩
  · refine (one_none n hn (by simpa using hT) A args.length cap (by omega) w ht).mono ?_
    rintro e w' ⟨rfl, hb⟩
    exact ⟨by unfold oneL; simp [hT], hb⟩

/-- An instruction's two cells. -/
def InsAt (w : World) (b o : Nat) (i : InsL) : Prop :=
  ∃ A cap, w.cell? ⟨b, o, none⟩ = some (.int .u8 i.1) ∧ w.cell? ⟨b, o + 1, none⟩ = some (.slice A i.2.length cap) ∧ Ints w A i.2 ∧ i.1 < 256 ∧ i.2.length ≤ 17592186044416
/-- A slice's address under which so many instructions lie. -/
def Inss (w : World) (L : Option Addr) (l : List InsL) : Prop :=
  l = [] ∨ ∃ b off, L = some ⟨b, off, none⟩ ∧ b < w.heap.size ∧ ∀ j, j < l.length → InsAt w b (off + j * 2) (l.getD j (0, []))
theorem InsAt.later {w w' : World} {b o : Nat} {i : InsL} {B : Nat} (h : InsAt w b o i) (hb : Below B w w') (hB : w.heap.size ≤ B) (hlt : b < w.heap.size) : InsAt w' b o i := by
  obtain ⟨A, cap, h1, h2, h3, h4, h5⟩ := h
  exact ⟨A, cap, (hb.cell (p := ⟨b, o, none⟩) (Nat.lt_of_lt_of_le hlt hB)).trans h1, (hb.cell (p := ⟨b, o + 1, none⟩) (Nat.lt_of_lt_of_le hlt hB)).trans h2, h3.later hb hB, h4, h5⟩
theorem Inss.later {w w' : World} {L : Option Addr} {l : List InsL} {B : Nat} (h : Inss w L l) (hb : Below B w w') (hB : w.heap.size ≤ B) : Inss w' L l := by
  rcases h with h | ⟨b, off, e, hlt, hc⟩
  · exact .inl h
  · exact .inr ⟨b, off, e, Nat.lt_of_lt_of_le hlt hb.size, fun j hj => (hc j hj).later hb hB hlt⟩
theorem Inss.at_ {w : World} {L : Option Addr} {l : List InsL} (h : Inss w L l) {j : Nat} (hj : j < l.length) :
    ∃ b off, L = some ⟨b, off, none⟩ ∧ b < w.heap.size ∧ InsAt w b (off + j * 2) (l.getD j (0, [])) := by
  rcases h with h | ⟨b, off, e, hlt, hc⟩
  · subst h; simp at hj
  · exact ⟨b, off, e, hlt, hc j hj⟩

theorem own_later {w w' : World} {B : Nat} {e : TypeId} {size : Nat} {v : Value} {n : Nat} {xs : List Value} (h : w.ownsRow B e size v n xs) (hb : Below w.heap.size w w') : w'.ownsRow B e size v n xs := by
  refine ⟨h.1, ?_⟩
  rcases h.2 with hn | ⟨g, cap, cur, rfl, hB, hgg, rest⟩
  · exact .inl hn
  · exact .inr ⟨g, cap, cur, rfl, hB, (hb.block g (lt_of_get hgg)).trans hgg, rest⟩
theorem builderAt_later {T e : TypeId} {B b : Nat} {p : Value} {bs : List Value} {w w' : World} (h : Lib.BuilderAt T e B b p bs w) (hb : Below w.heap.size w w') : Lib.BuilderAt T e B b p bs w' := by
  obtain ⟨h1, v, h2, h3, h4⟩ := h
  exact ⟨h1, v, (hb.block b (lt_of_get h2)).trans h2, own_later h3 hb, h4⟩
theorem builder_later {T e : TypeId} {B b : Nat} {bs : List Value} {w w' : World} (h : Lib.IsBuilder T e B b bs w) (hb : Below w.heap.size w w') : Lib.IsBuilder T e B b bs w' := by
  rcases h with h | h
  · exact .inl (builderAt_later h hb)
  · exact .inr (builderAt_later h hb)

set_option maxHeartbeats 600000 in
theorem encode_any (L : Option Addr) (l : List InsL) (cap : Nat) (hl : l.length ≤ 1073741824) (w : World) (ht : Tab w) (hL : Inss w L l) :
    Calls Tryd.prog 17 #[.slice L l.length cap] w (OneEnd w (encodeL l)) := by
  have hfresh := Lib.hid (Lib.fresh_isBuilder 67 5 w)
  go_enter Tryd.func17, Tryd.ntmps17
  go_wp2_with fail
  go_loopg [11] (l.length) (fun g i wr => ∃ k : Nat, k + g = l.length ∧ i = .int .i64 k ∧ errOf (l.take k) = 0 ∧ Lib.IsBuilder 67 5 w.heap.size w.heap.size (Lib.byteCells (bytesOf (l.take k))) wr ∧ Below w.heap.size w wr)
  case atStart => exact ⟨0, by omega, rfl, rfl, hfresh.out, (Below.refl _ _).alloc (Nat.le_refl _) _⟩
  case round =>
    clear hfresh
    obtain ⟨k, hk, rfl, herr, hB, hb⟩ := hrel
    have HE := Lib.hid herr
    have HB := Lib.hid hB
    clear herr hB
    by_cases hlt : k < l.length
    · obtain ⟨b, off, rfl, hbw, hI⟩ := hL.at_ hlt
      obtain ⟨A, cap2, c0, c1, hA, hn, hlen⟩ := hI.later hb (Nat.le_refl _) hbw
      clear hI
      have hbr : b < wr.heap.size := by have := hb.size; omega
      have HN1 := Lib.hid (errOf_at l k hlt HE.out)
      have HN2 := Lib.hid (errOf_next l k hlt HE.out)
      have HN3 := Lib.hid (bytesOf_snoc l k hlt)
      generalize l.getD k (0, []) = i at *
      obtain ⟨n, args⟩ := i
      simp only at c0 c1 hA hn hlen
      have hkI : (k : Int) < (l.length : Int) := by omega
      have htr := Lib.hid (ht.later hb)
      have hAr := Lib.hid (hA.later ((Below.refl wr.heap.size wr).alloc (Nat.le_refl _) (.cells #[.int .u8 n, .slice A args.length cap2] 25)) (Nat.le_refl _))
      clear hA hL
      have hos := oneL_short n args
      have hbs := bytesOf_short (l.take k)
      have htk : (l.take k).length ≤ k := List.length_take_le _ _
      go_wp2_with fail
      refine (one_any n hn A args cap2 hlen _ (htr.out.alloc _) hAr.out).mono ?_
      rintro e w5 ⟨rfl, hb5⟩
      obtain ⟨hb5, hz5⟩ := box_below hb5
      have hb6 := hb.trans (hb5.mono (by have := hb.size; omega))
      have HB5 := Lib.hid (builder_later HB.out hb5)
      have hws : w.heap.size ≤ w5.heap.size := hb6.size
      clear HB hb5 htr hAr c0 c1
      generalize oneL n args = r at *
      obtain ⟨rb, re⟩ := r
      simp only at hos HN1 HN2 HN3 ⊢
      by_cases hre : re = 0
      · have e1 : (re != 0) = false := by simp [hre]
        have HN2 := Lib.hid (HN2.out hre)
        clear HN1 hre
        go_wp2_with fail
        refine (writeString w.heap.size w.heap.size _ ⟨rb.toArray⟩ _ HB5.out (by simp [Lib.byteCells_length, ByteArray.size]; omega) hws).mono ?_
        rintro e w6 ⟨rfl, hB6, hb7⟩
        have HB6 := Lib.hid hB6
        clear hB6 HB5
        go_wp2_with fail
        go_roundg (gk - 1)
        case measure => omega
        case rel =>
          refine ⟨k + 1, by omega, by go_num, HN2.out, ?_, hb6.trans hb7⟩
          rw [HN3.out]
          have e : Lib.byteCells (bytesOf (l.take k) ++ rb) = Lib.byteCells (bytesOf (l.take k)) ++ Lib.strCells ⟨rb.toArray⟩ := by simp [Lib.byteCells, Lib.strCells]
          rw [e]
          exact .inr HB6.out
      · have e1 : (re != 0) = true := by simp [hre]
        have HN1 := Lib.hid (HN1.out hre)
        have HRE := Lib.hid hre
        clear HN2 HN3 hre
        go_wp2_with fail
        go_ret2
        refine ⟨?_, hb6⟩
        unfold encodeL
        rw [HN1.out, if_pos HRE.out]
        rfl
    · obtain rfl : k = l.length := by omega
      have hbs := bytesOf_short l
      have HT := Lib.hid (show l.take l.length = l by simp)
      rw [HT.out] at HE HB
      go_wp2_with fail
      refine (Tryd.Builder_Len w.heap.size w.heap.size _ _ HB.out).mono ?_
      rintro e w5 ⟨rfl, rfl⟩
      rw [Lib.byteCells_length]
      by_cases hlong : 65535 < (bytesOf l).length
      · have HL := Lib.hid hlong
        go_wp2_with fail
        go_ret2
        refine ⟨?_, hb⟩
        unfold encodeL
        rw [HE.out, if_neg (by simp), if_pos HL.out]
        rfl
      · have HL := Lib.hid hlong
        go_wp2_with fail
        refine (Tryd.Builder_String_any w.heap.size w.heap.size _ _ HB.out hb.size).mono ?_
        rintro e w6 ⟨rfl, hb7⟩
        go_wp2_with fail
        go_ret2
        refine ⟨?_, hb.trans hb7⟩
        unfold encodeL
        rw [HE.out, if_neg (by simp), if_neg HL.out]
        rfl
end Go.Proofs.YtgcmenjpcgdikaaDoor
