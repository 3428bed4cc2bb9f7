/- Layer 16 in plain Lean: what is read is written as it was; no beginning of an instruction's bytes is one's. No program. -/
import Derived.Test.YtgcmenjpcgdikaaDoorPr
namespace Go.Proofs.YtgcmenjpcgdikaaDoor

theorem read1_bad (c : UInt8) (s : List UInt8) (t : RSt) (h : (read1 c s t).bad = false) : t.bad = false ∧ failsB c s t.nx t.bad = false := by
  unfold read1 at h
  split at h
  · simp at h
  · rename_i hf
    exact ⟨h, by simpa using hf⟩
theorem readRows_bad (s : List UInt8) (t : RSt) (h : (readRows s t).bad = false) : t.bad = false ∧ failsB 66 s t.nx t.bad = false := by
  unfold readRows at h
  split at h
  · simp at h
  · rename_i hf
    exact ⟨h, by simpa using hf⟩
theorem step_bad (op : Nat) (s : List UInt8) (k : Nat) (t : RSt) (h : (stepSt op s k t).bad = false) : t.bad = false := by
  unfold stepSt at h
  split at h
  · exact (read1_bad _ _ _ (readRows_bad _ _ h).1).1
  · exact (read1_bad _ _ _ h).1
theorem st_bad (op : Nat) (s : List UInt8) (nx0 k : Nat) : ∀ d, (stAt op s nx0 (k + d)).bad = false → (stAt op s nx0 k).bad = false
  | 0, h => h
  | d + 1, h => st_bad op s nx0 k d (step_bad op s (k + d) _ h)
theorem st_args (op : Nat) (s : List UInt8) (nx0 k : Nat) : ∃ x, (stAt op s nx0 (k + 1)).args = (stAt op s nx0 k).args ++ [x] ∧ x = (readX ((wholeL op (stAt op s nx0 k).rows).getD k 0) s (stAt op s nx0 k).nx (stAt op s nx0 k).bad).1 := by
  refine ⟨_, ?_, rfl⟩
  show (stepSt op s k _).args = _
  generalize stAt op s nx0 k = t
  obtain ⟨rows, nx, bad, args⟩ := t
  unfold stepSt
  split
  · rw [readRows_args, read1_eq]
  · rw [read1_eq]
theorem st_args_more (op : Nat) (s : List UInt8) (nx0 k : Nat) : ∀ d, ∃ t, (stAt op s nx0 (k + d)).args = (stAt op s nx0 k).args ++ t
  | 0 => ⟨[], by simp⟩
  | d + 1 => by
    obtain ⟨t, ht⟩ := st_args_more op s nx0 k d
    obtain ⟨x, hx, _⟩ := st_args op s nx0 (k + d)
    exact ⟨t ++ [x], by rw [show k + (d + 1) = k + d + 1 from rfl, hx, ht, List.append_assoc]⟩
theorem take_two (s : List UInt8) (a : Nat) (h : a + 2 ≤ s.length) : (s.drop a).take 2 = [s.getD a 0, s.getD (a + 1) 0] := by
  rw [List.getD_eq_getElem?_getD, List.getD_eq_getElem?_getD, List.getElem?_eq_getElem (by omega), List.getElem?_eq_getElem (by omega)]
  rw [List.drop_eq_getElem_cons (by omega), List.drop_eq_getElem_cons (by omega)]
  rfl
theorem take_one (s : List UInt8) (a : Nat) (h : a + 1 ≤ s.length) : (s.drop a).take 1 = [s.getD a 0] := by
  rw [List.getD_eq_getElem?_getD, List.getElem?_eq_getElem (by omega), List.drop_eq_getElem_cons (by omega)]
  rfl
theorem ofNat_self (b : UInt8) (v : Nat) (h : v = b.toNat) : UInt8.ofNat v = b := by rw [h]; exact UInt8.ofNat_toNat
/-- A number that is read is one of its kind, and is written as it was. -/
theorem enc_readN (c : UInt8) (hc : letter c) (s : List UInt8) (nx : Nat) (h : nx + sizeN c ≤ s.length) : encArg c (readN c s nx) = (s.drop nx).take (sizeN c) ∧ inK c (readN c s nx) = true := by
  have b0 := (s.getD nx 0).toNat_lt
  have b1 := (s.getD (nx + 1) 0).toNat_lt
  rcases hc with rfl | rfl | rfl
  · have hz : sizeN 66 = 1 := rfl
    rw [hz] at h ⊢
    rw [take_one s nx h]
    have hr : readN 66 s nx = ((s.getD nx 0).toNat : Int) := rfl
    rw [hr]
    constructor
    · show [UInt8.ofNat _] = _
      rw [ofNat_self (s.getD nx 0) _ (by omega)]
    · show (decide ((0 : Int) ≤ _) && decide (_ ≤ (255 : Int))) = true
      simp only [Bool.and_eq_true, decide_eq_true_eq]; omega
  · have hz : sizeN 87 = 2 := rfl
    rw [hz] at h ⊢
    rw [take_two s nx h]
    have hr : readN 87 s nx = ((s.getD nx 0).toNat : Int) * 256 + ((s.getD (nx + 1) 0).toNat : Int) := by
      show (if (65535 : Int) < _ then _ else _) = _
      rw [if_neg (by omega)]
    rw [hr]
    constructor
    · show [UInt8.ofNat _, UInt8.ofNat _] = _
      rw [ofNat_self (s.getD nx 0) _ (by omega), ofNat_self (s.getD (nx + 1) 0) _ (by omega)]
    · show (decide ((0 : Int) ≤ _) && decide (_ ≤ (65535 : Int))) = true
      simp only [Bool.and_eq_true, decide_eq_true_eq]; omega
  · have hz : sizeN 74 = 2 := rfl
    rw [hz] at h ⊢
    rw [take_two s nx h]
    have hr : readN 74 s nx = if (32767 : Int) < ((s.getD nx 0).toNat : Int) * 256 + ((s.getD (nx + 1) 0).toNat : Int) then ((s.getD nx 0).toNat : Int) * 256 + ((s.getD (nx + 1) 0).toNat : Int) - 65536 else ((s.getD nx 0).toNat : Int) * 256 + ((s.getD (nx + 1) 0).toNat : Int) := rfl
    rw [hr]
    constructor
    · show [UInt8.ofNat _, UInt8.ofNat _] = _
      rw [ofNat_self (s.getD nx 0) _ (by split <;> omega), ofNat_self (s.getD (nx + 1) 0) _ (by split <;> omega)]
    · show (decide ((-32768 : Int) ≤ _) && decide (_ ≤ (32767 : Int))) = true
      split <;> (simp only [Bool.and_eq_true, decide_eq_true_eq]; omega)
theorem drop_take_add (s : List UInt8) (a m k : Nat) : (s.drop a).take (m + k) = (s.drop a).take m ++ (s.drop (a + m)).take k := by
  rw [List.take_add, List.drop_drop]
/-- The bytes of a reading that succeeds, number by number. -/
theorem st_dec (s : List UInt8) (a : Nat) (ha : a < s.length) (n : Nat) (hn : (s.getD a 0).toNat = n) (args : List Int) (K : Nat) (hK : K = endAt n s (a + 1)) (hargs : args = (stAt n s (a + 1) K).args) (hbad : (stAt n s (a + 1) K).bad = false)
    (hrows : rowsOf n args.length = endRows n s (a + 1)) (hR : rowsOk n args.length = true) : ∀ k, k ≤ K →
    encTo n args k = (s.drop a).take ((stAt n s (a + 1) k).nx - a) ∧ okTo n args k = true
  | 0, _ => by
    refine ⟨?_, rfl⟩
    show [UInt8.ofNat n] = (s.drop a).take (a + 1 - a)
    rw [show a + 1 - a = 1 by omega, take_one s a (by omega), ofNat_self (s.getD a 0) n hn.symm]
  | k + 1, hk => by
    obtain ⟨ih1, ih2⟩ := st_dec s a ha n hn args K hK hargs hbad hrows hR k (by omega)
    have hlenK : args.length = K := by rw [hargs, st_len]
    have hkl : k < (wholeL n (stAt n s (a + 1) k).rows).length := by
      rcases k with _ | k
      · show 0 < (wholeL n 0).length
        rw [whole_length]
        have h1 : 0 < endAt n s (a + 1) := by omega
        unfold endAt at h1
        rw [whole_length] at h1
        by_cases h60 : n = 60
        · subst h60; rw [form60]; simp
        · unfold endRows at h1; rw [if_neg h60] at h1; omega
      · rw [st_end]; unfold endAt at hK; omega
    have hkind := kind_whole n _ k hkl
    have hlet := kind_letters n args.length k hR (by omega)
    obtain ⟨x, hx, hxv⟩ := st_args n s (a + 1) k
    have hb1 : (stAt n s (a + 1) (k + 1)).bad = false := by
      obtain ⟨d, rfl⟩ : ∃ d, K = k + 1 + d := ⟨K - (k + 1), by omega⟩
      exact st_bad n s (a + 1) (k + 1) d hbad
    have hxa : args.getD k 0 = x := by
      obtain ⟨d, hd⟩ : ∃ d, K = k + 1 + d := ⟨K - (k + 1), by omega⟩
      obtain ⟨t, ht⟩ := st_args_more n s (a + 1) (k + 1) d
      rw [hargs, hd, ht, hx, List.getD_eq_getElem?_getD, List.append_assoc, List.getElem?_append_right (by rw [st_len]; omega), st_len]
      simp
    have hge := st_ge n s (a + 1) k
    have hstep : stAt n s (a + 1) (k + 1) = stepSt n s k (stAt n s (a + 1) k) := rfl
    have hnxk := st_nx n s (a + 1) (by omega) k
    have hrl := st_end n s (a + 1) k
    rw [hstep] at hb1 ⊢
    rw [hstep] at hrl
    generalize stAt n s (a + 1) k = t at *
    obtain ⟨rows, nx, bad, as⟩ := t
    simp only at *
    rw [hkind] at hxv
    unfold stepSt at hb1 hrl ⊢
    by_cases hc : n = 60 ∧ k = 0
    · rw [if_pos hc] at hb1 hrl ⊢
      simp only [hkind] at hb1 hrl ⊢
      have h2 := readRows_bad _ _ hb1
      have h3 := read1_bad _ _ _ h2.1
      simp only at h3
      have hrx : readX (kindL n k) s nx bad = (readN (kindL n k) s nx, nx + sizeN (kindL n k), bad) := by unfold readX; rw [if_neg (by simp [h3.2])]
      have hfit : nx + sizeN (kindL n k) ≤ s.length := by
        have := h3.2
        unfold failsB at this
        simp only [Bool.or_eq_false_iff, decide_eq_false_iff_not] at this
        omega
      rw [hrx] at hxv
      simp only at hxv
      rw [read1_eq, hrx] at h2 hrl ⊢
      simp only at h2 hrl ⊢
      have h4 := h2.2
      unfold failsB at h4
      simp only [Bool.or_eq_false_iff, decide_eq_false_iff_not] at h4
      have hz66 : sizeN 66 = 1 := rfl
      rw [hz66] at h4
      have hrx2 : readX 66 s (nx + sizeN (kindL n k)) bad = (((s.getD (nx + sizeN (kindL n k)) 0).toNat : Int), nx + sizeN (kindL n k) + 1, bad) := by unfold readX; rw [if_neg (by simp [h2.2])]; rfl
      rw [readRows_eq, hrx2] at hrl ⊢
      simp only [Int.toNat_natCast] at hrl ⊢
      obtain ⟨e1, e2⟩ := enc_readN (kindL n k) (kind_letter n k) s nx hfit
      have hrowb : rowsOf n args.length = (s.getD (nx + sizeN (kindL n k)) 0).toNat := by rw [hrows, ← hrl]
      refine ⟨?_, ?_⟩
      · rw [encTo_case n args k hc, hlet, hxa, hxv, e1, ih1, hrowb, ofNat_self (s.getD (nx + sizeN (kindL n k)) 0) _ rfl]
        rw [show nx + sizeN (kindL n k) + 1 - a = (nx - a) + (sizeN (kindL n k) + 1) by omega, drop_take_add, show a + (nx - a) = nx by omega, drop_take_add, take_one s _ (by omega), List.append_assoc]
      · rw [okTo_succ, ih2, hlet, hxa, hxv, e2]; rfl
    · rw [if_neg hc] at hb1 ⊢
      rw [hkind] at hb1 ⊢
      have h3 := read1_bad _ _ _ hb1
      simp only at h3
      have hrx : readX (kindL n k) s nx bad = (readN (kindL n k) s nx, nx + sizeN (kindL n k), bad) := by unfold readX; rw [if_neg (by simp [h3.2])]
      have hfit : nx + sizeN (kindL n k) ≤ s.length := by
        have := h3.2
        unfold failsB at this
        simp only [Bool.or_eq_false_iff, decide_eq_false_iff_not] at this
        omega
      rw [hrx] at hxv
      simp only at hxv
      rw [read1_eq, hrx]
      simp only
      obtain ⟨e1, e2⟩ := enc_readN (kindL n k) (kind_letter n k) s nx hfit
      refine ⟨?_, ?_⟩
      · rw [encTo_step n args k hc, hlet, hxa, hxv, e1, ih1]
        rw [show nx + sizeN (kindL n k) - a = (nx - a) + sizeN (kindL n k) by omega, drop_take_add, show a + (nx - a) = nx by omega]
      · rw [okTo_succ, ih2, hlet, hxa, hxv, e2]; rfl
/-- **An instruction that is read is written as it was.** -/
theorem enc_decode (s : List UInt8) (a : Nat) (ha : a < s.length) (h : (decodeL s a).2.2 = 0) :
    oneL (decodeL s a).1.1 (decodeL s a).1.2 = ((s.drop a).take ((decodeL s a).2.1.toNat - a), 0) := by
  unfold decodeL at h ⊢
  rw [if_neg (by omega)] at h ⊢
  rw [Int.toNat_natCast] at h ⊢
  by_cases hT : thereB (s.getD a 0).toNat = false
  · rw [if_pos hT] at h; simp at h
  · rw [if_neg hT] at h ⊢
    by_cases hb : (stAt (s.getD a 0).toNat s (a + 1) (endAt (s.getD a 0).toNat s (a + 1))).bad = true
    · rw [if_pos hb] at h; simp at h
    · rw [if_neg hb]
      simp only [Int.toNat_natCast]
      generalize hn : (s.getD a 0).toNat = n at *
      have hbad : (stAt n s (a + 1) (endAt n s (a + 1))).bad = false := by simpa using hb
      have hlen : (stAt n s (a + 1) (endAt n s (a + 1))).args.length = endAt n s (a + 1) := st_len _ _ _ _
      have hle : endAt n s (a + 1) = (formL n).length + 3 * endRows n s (a + 1) := by unfold endAt; rw [whole_length]
      have hrb : endRows n s (a + 1) ≤ 255 := by
        unfold endRows
        split
        · exact st_rows _ _ _ 1
        · omega
      have hrows : rowsOf n (stAt n s (a + 1) (endAt n s (a + 1))).args.length = endRows n s (a + 1) := by
        rw [hlen, hle]
        unfold rowsOf
        by_cases h60 : n = 60
        · rw [if_pos h60]
          have : (formL n).length = 2 := by rw [h60, form60]; rfl
          omega
        · rw [if_neg h60]; unfold endRows; rw [if_neg h60]
      have hR : rowsOk n (stAt n s (a + 1) (endAt n s (a + 1))).args.length = true := by
        rw [hlen, hle]
        unfold rowsOk
        by_cases h60 : n = 60
        · rw [if_pos h60]
          have : (formL n).length = 2 := by rw [h60, form60]; rfl
          simp only [decide_eq_true_eq]
          omega
        · rw [if_neg h60]
          have : endRows n s (a + 1) = 0 := by unfold endRows; rw [if_neg h60]
          simp [this]
      have hd := st_dec s a ha n hn _ (endAt n s (a + 1)) rfl rfl hbad hrows hR (endAt n s (a + 1)) (Nat.le_refl _)
      rw [one_good n _ (by simpa using hT) hR (by rw [hlen]; exact hd.2) (by rw [hrows]; omega), hlen, hd.1]
/-- **What is read is written as it was.** -/
theorem enc_all (s : List UInt8) : ∀ (f a : Nat), s.length < a + f → a ≤ s.length → (allGo s f a).2.2 = 0 → errOf (allGo s f a).1 = 0 ∧ bytesOf (allGo s f a).1 = s.drop a
  | 0, a, hf, ha, _ => by omega
  | f + 1, a, hf, ha, h => by
    rw [allGo_succ] at h ⊢
    by_cases hlt : a < s.length
    · rw [if_pos hlt] at h ⊢
      by_cases he : (decodeL s a).2.2 ≠ 0
      · rw [if_pos he] at h; exact absurd h he
      · rw [if_neg he] at h ⊢
        by_cases hr : (allGo s f (decodeL s a).2.1.toNat).2.2 ≠ 0
        · rw [if_pos hr] at h; exact absurd h hr
        · rw [if_neg hr]
          have he0 : (decodeL s a).2.2 = 0 := by simpa using he
          obtain ⟨b, hb, hab, hbs, _, _⟩ := decode_next s a hlt he0
          have ho := enc_decode s a hlt he0
          rw [hb, Int.toNat_natCast] at ho ⊢
          rw [hb, Int.toNat_natCast] at hr
          obtain ⟨i1, i2⟩ := enc_all s f b (by omega) hbs (by simpa using hr)
          refine ⟨?_, ?_⟩
          · simp only [errOf, ho]
            simpa using i1
          · rw [bytes_cons, ho, i2]
            simp only
            rw [show s.drop b = (s.drop a).drop (b - a) by rw [List.drop_drop]; congr 1; omega, List.take_append_drop]
    · rw [if_neg hlt]
      refine ⟨rfl, ?_⟩
      rw [List.drop_of_length_le (by omega)]
      rfl
theorem encode_all (s : List UInt8) (h : (allL s).2.2 = 0) : encodeL (allL s).1 = (s, 0) := by
  unfold allL at h ⊢
  by_cases hl : 65535 < s.length
  · rw [if_pos hl] at h; simp at h
  · rw [if_neg hl] at h ⊢
    obtain ⟨h1, h2⟩ := enc_all s (s.length + 1) 0 (by omega) (by omega) h
    unfold encodeL
    rw [if_neg (by simp [h1]), h2]
    simp only [List.drop_zero]
    rw [if_neg hl]
theorem all_ops (s : List UInt8) : ∀ (f a : Nat), ∀ i ∈ (allGo s f a).1, i.1 < 256
  | 0, a, i, hi => by simp [allGo] at hi
  | f + 1, a, i, hi => by
    rw [allGo_succ] at hi
    by_cases hlt : a < s.length
    · rw [if_pos hlt] at hi
      by_cases he : (decodeL s a).2.2 ≠ 0
      · rw [if_pos he] at hi; simp at hi
      · rw [if_neg he] at hi
        by_cases hr : (allGo s f (decodeL s a).2.1.toNat).2.2 ≠ 0
        · rw [if_pos hr] at hi; simp at hi
        · rw [if_neg hr] at hi
          obtain ⟨_, _, _, _, h4, _⟩ := decode_next s a hlt (by simpa using he)
          rcases List.mem_cons.1 hi with rfl | hi
          · exact h4
          · exact all_ops s f _ i hi
    · rw [if_neg hlt] at hi; simp at hi
theorem all_ops' (s : List UInt8) : ∀ i ∈ (allL s).1, i.1 < 256 := by
  unfold allL
  split
  · simp
  · exact all_ops s _ _
/-- **No beginning of an instruction's bytes is one's.** -/
theorem cut_none (n : Nat) (hn : n < 256) (args : List Int) (one : List UInt8) (h : encodeL [(n, args)] = (one, 0)) (k : Nat) (hk : k < one.length) : (allL (one.take k)).2.2 = 0 ↔ k = 0 := by
  have h1 : (oneL n args).2 = 0 ∧ (oneL n args).1 = one := by
    unfold encodeL at h
    by_cases he : errOf [(n, args)] ≠ 0
    · rw [if_pos he] at h; simp at h; exact absurd h.2 he
    · rw [if_neg he] at h
      have he0 : errOf [(n, args)] = 0 := by simpa using he
      refine ⟨(err_cons _ _ he0).1, ?_⟩
      split at h
      · simp at h
      · have : bytesOf [(n, args)] = one := by simpa using h
        rw [← this]; simp [bytesOf]
  constructor
  · intro h0
    rcases Nat.eq_zero_or_pos k with hz | hz
    · exact hz
    · exfalso
      have hlen : (one.take k).length = k := by rw [List.length_take]; omega
      have he := encode_all _ h0
      have hne : (allL (one.take k)).1 ≠ [] := by
        intro e
        rw [e] at he
        have h2 : ([] : List UInt8) = one.take k := by
          have := congrArg Prod.fst he
          simpa [encodeL, errOf, bytesOf] using this
        rw [← h2] at hlen
        simp at hlen
        omega
      obtain ⟨i, l, hil⟩ := List.exists_cons_of_ne_nil hne
      have hops := all_ops' (one.take k)
      rw [hil] at he hops
      have hee : errOf (i :: l) = 0 ∧ bytesOf (i :: l) = one.take k := by
        unfold encodeL at he
        by_cases c : errOf (i :: l) ≠ 0
        · rw [if_pos c] at he; simp at he; exact absurd he.2 c
        · rw [if_neg c] at he
          refine ⟨by simpa using c, ?_⟩
          split at he
          · simp at he
          · simpa using he
      obtain ⟨m, as⟩ := i
      have hm := (err_cons _ _ hee.1).1
      have hb := hee.2
      rw [bytes_cons] at hb
      simp only at hb hm
      have hsplit : one = (oneL m as).1 ++ (bytesOf l ++ one.drop k) := by
        rw [← List.append_assoc, hb, List.take_append_drop]
      have d1 := decode_enc n hn args h1.1 [] []
      have d2 := decode_enc m (hops (m, as) (List.mem_cons_self ..)) as hm [] (bytesOf l ++ one.drop k)
      rw [h1.2] at d1
      simp only [List.nil_append, List.append_nil, List.length_nil, Nat.zero_add] at d1 d2
      rw [← hsplit, d1] at d2
      simp only [Prod.mk.injEq] at d2
      have hl1 : one.length = (oneL m as).1.length := by
        have := d2.2.1
        omega
      have hl2 : (oneL m as).1.length ≤ k := by
        have := congrArg List.length hb
        rw [List.length_append, hlen] at this
        omega
      omega
  · rintro rfl
    simp [allL, allGo]
end Go.Proofs.YtgcmenjpcgdikaaDoor
