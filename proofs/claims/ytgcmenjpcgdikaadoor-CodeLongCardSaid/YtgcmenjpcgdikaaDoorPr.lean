/- Layer 16 in plain Lean: what was written is read. No program. -/
import Derived.Test.YtgcmenjpcgdikaaDoorPk
namespace Go.Proofs.YtgcmenjpcgdikaaDoor

theorem oneL_ok (n : Nat) (args : List Int) (h : (oneL n args).2 = 0) :
    thereB n = true ∧ rowsOk n args.length = true ∧ okTo n args args.length = true ∧ rowsOf n args.length < 256 ∧ (oneL n args).1 = encTo n args args.length := by
  unfold oneL at h ⊢
  by_cases h1 : thereB n = false
  · rw [if_pos h1] at h; simp at h
  · rw [if_neg h1] at h ⊢
    by_cases h2 : rowsOk n args.length = false
    · rw [if_pos h2] at h; simp at h
    · rw [if_neg h2] at h ⊢
      by_cases h3 : okTo n args args.length = false
      · rw [if_pos h3] at h; simp at h
      · rw [if_neg h3] at h ⊢
        by_cases h4 : 256 ≤ rowsOf n args.length
        · rw [if_pos h4] at h; simp at h
        · rw [if_neg h4]
          exact ⟨by simpa using h1, by simpa using h2, by simpa using h3, by omega, rfl⟩
theorem encTo_tail (n : Nat) (args : List Int) (k : Nat) : ∀ d, ∃ t, encTo n args (k + d) = encTo n args k ++ t
  | 0 => ⟨[], by simp⟩
  | d + 1 => by
    obtain ⟨t, ht⟩ := encTo_tail n args k d
    refine ⟨t ++ (encArg ((lettersOf n args.length).getD (k + d) 0) (args.getD (k + d) 0) ++ (if n = 60 ∧ k + d = 0 then [UInt8.ofNat (rowsOf n args.length)] else [])), ?_⟩
    rw [show k + (d + 1) = (k + d) + 1 from rfl]
    show encTo n args (k + d) ++ _ ++ _ = _
    rw [ht]
    simp [List.append_assoc]
theorem encArg_len (c : UInt8) (x : Int) : (encArg c x).length = sizeN c := by unfold encArg sizeN; split <;> rfl
theorem getD_app (a b : List UInt8) (j : Nat) : (a ++ b).getD (a.length + j) 0 = b.getD j 0 := by
  rw [List.getD_eq_getElem?_getD, List.getElem?_append_right (by omega), List.getD_eq_getElem?_getD]
  simp
theorem getD_left (a b : List UInt8) (j : Nat) (h : j < a.length) : (a ++ b).getD j 0 = a.getD j 0 := by
  rw [List.getD_eq_getElem?_getD, List.getElem?_append_left h, List.getD_eq_getElem?_getD]
theorem ofNat_toNat (v : Nat) (h : v < 256) : (UInt8.ofNat v).toNat = v := by
  simp [UInt8.toNat_ofNat']; omega
/-- What was written of a number is read as it. -/
theorem readN_enc (c : UInt8) (hc : letter c) (x : Int) (hx : inK c x = true) (p r : List UInt8) : readN c (p ++ (encArg c x ++ r)) p.length = x := by
  have h0 : ∀ j, j < (encArg c x).length → (p ++ (encArg c x ++ r)).getD (p.length + j) 0 = (encArg c x).getD j 0 := fun j hj => by rw [getD_app, getD_left _ _ _ hj]
  have hl := encArg_len c x
  unfold inK at hx
  simp only [Bool.and_eq_true, decide_eq_true_eq] at hx
  unfold readN
  rcases hc with rfl | rfl | rfl
  · rw [if_pos rfl]
    have := h0 0 (by rw [hl]; decide)
    rw [Nat.add_zero] at this
    rw [this]
    have hb : lowK 66 = 0 ∧ highK 66 = 255 := ⟨rfl, rfl⟩
    rw [hb.1, hb.2] at hx
    show ((UInt8.ofNat (x % 256).toNat).toNat : Int) = x
    rw [ofNat_toNat _ (by omega)]
    omega
  · rw [if_neg (by decide)]
    have e0 := h0 0 (by rw [hl]; decide)
    have e1 := h0 1 (by rw [hl]; decide)
    rw [Nat.add_zero] at e0
    rw [e0, e1]
    have hb : lowK 87 = 0 ∧ highK 87 = 65535 := ⟨rfl, rfl⟩
    rw [hb.1, hb.2] at hx
    rw [hb.2]
    have f0 : ((encArg 87 x).getD 0 0).toNat = (x / 256 % 256).toNat := by show (UInt8.ofNat _).toNat = _; rw [ofNat_toNat _ (by omega)]
    have f1 : ((encArg 87 x).getD 1 0).toNat = (x % 256).toNat := by show (UInt8.ofNat _).toNat = _; rw [ofNat_toNat _ (by omega)]
    rw [f0, f1]
    split <;> omega
  · rw [if_neg (by decide)]
    have e0 := h0 0 (by rw [hl]; decide)
    have e1 := h0 1 (by rw [hl]; decide)
    rw [Nat.add_zero] at e0
    rw [e0, e1]
    have hb : lowK 74 = -32768 ∧ highK 74 = 32767 := ⟨rfl, rfl⟩
    rw [hb.1, hb.2] at hx
    rw [hb.2]
    have f0 : ((encArg 74 x).getD 0 0).toNat = (x / 256 % 256).toNat := by show (UInt8.ofNat _).toNat = _; rw [ofNat_toNat _ (by omega)]
    have f1 : ((encArg 74 x).getD 1 0).toNat = (x % 256).toNat := by show (UInt8.ofNat _).toNat = _; rw [ofNat_toNat _ (by omega)]
    rw [f0, f1]
    split <;> omega
theorem read1_enc (c : UInt8) (hc : letter c) (x : Int) (hx : inK c x = true) (p r : List UInt8) (rows : Nat) (args : List Int) :
    read1 c (p ++ (encArg c x ++ r)) ⟨rows, p.length, false, args⟩ = ⟨rows, p.length + (encArg c x).length, false, args ++ [x]⟩ := by
  unfold read1 failsB
  rw [if_neg (by simp [encArg_len])]
  simp only
  rw [readN_enc c hc x hx p r, encArg_len]
theorem readRows_enc (v : Nat) (hv : v < 256) (p r : List UInt8) (rows : Nat) (args : List Int) :
    readRows (p ++ ([UInt8.ofNat v] ++ r)) ⟨rows, p.length, false, args⟩ = ⟨v, p.length + 1, false, args⟩ := by
  unfold readRows failsB
  rw [if_neg (by simp [sizeN])]
  have := getD_app p ([UInt8.ofNat v] ++ r) 0
  rw [Nat.add_zero] at this
  simp only
  rw [this]
  show RSt.mk (UInt8.ofNat v).toNat _ _ _ = _
  rw [ofNat_toNat v hv]
/-- The state of a reading, behind k numbers of what was written. -/
theorem st_enc (n : Nat) (args : List Int) (hR : rowsOk n args.length = true) (hok : okTo n args args.length = true) (hr : rowsOf n args.length < 256) (pre rest : List UInt8) : ∀ k, k ≤ args.length →
    stAt n (pre ++ (encTo n args args.length ++ rest)) (pre.length + 1) k = ⟨if k = 0 then 0 else rowsOf n args.length, pre.length + (encTo n args k).length, false, args.take k⟩
  | 0, _ => by simp [stAt, encTo]
  | k + 1, hk => by
    have ih := st_enc n args hR hok hr pre rest k (by omega)
    show stepSt n _ k _ = _
    rw [ih]
    have hlen := letters_length n args.length hR
    have hkl : k < (wholeL n (if k = 0 then 0 else rowsOf n args.length)).length := by
      rw [whole_length]
      unfold lettersOf at hlen
      rw [whole_length] at hlen
      split
      · rename_i h0
        subst h0
        by_cases h60 : n = 60
        · subst h60; rw [form60]; simp
        · unfold rowsOf at hlen; rw [if_neg h60] at hlen; omega
      · omega
    have hkind := kind_whole n _ k hkl
    have hlet := kind_letters n args.length k hR (by omega)
    have hin : inK (kindL n k) (args.getD k 0) = true := by
      have := okTo_mono n args (j := k + 1) (by omega) hok
      rw [okTo_succ, hlet] at this
      simp only [Bool.and_eq_true] at this
      exact this.2
    obtain ⟨t, ht⟩ := encTo_tail n args (k + 1) (args.length - (k + 1))
    rw [show k + 1 + (args.length - (k + 1)) = args.length by omega] at ht
    have htake : args.take k ++ [args.getD k 0] = args.take (k + 1) := by
      rw [List.take_succ_eq_append_getElem (by omega), List.getD_eq_getElem?_getD, List.getElem?_eq_getElem (by omega)]; rfl
    unfold stepSt
    by_cases hc : n = 60 ∧ k = 0
    · rw [if_pos hc]
      have he := encTo_case n args k hc
      rw [hlet] at he
      rw [hkind, ht, he]
      have e1 : pre ++ (encTo n args k ++ encArg (kindL n k) (args.getD k 0) ++ [UInt8.ofNat (rowsOf n args.length)] ++ t ++ rest) = (pre ++ encTo n args k) ++ (encArg (kindL n k) (args.getD k 0) ++ ([UInt8.ofNat (rowsOf n args.length)] ++ (t ++ rest))) := by simp [List.append_assoc]
      have e2 : pre.length + (encTo n args k).length = (pre ++ encTo n args k).length := by simp
      rw [e1, e2, read1_enc _ (kind_letter n k) _ hin]
      have e3 : (pre ++ encTo n args k) ++ (encArg (kindL n k) (args.getD k 0) ++ ([UInt8.ofNat (rowsOf n args.length)] ++ (t ++ rest))) = (pre ++ encTo n args k ++ encArg (kindL n k) (args.getD k 0)) ++ ([UInt8.ofNat (rowsOf n args.length)] ++ (t ++ rest)) := by simp [List.append_assoc]
      have e4 : (pre ++ encTo n args k).length + (encArg (kindL n k) (args.getD k 0)).length = (pre ++ encTo n args k ++ encArg (kindL n k) (args.getD k 0)).length := by simp [Nat.add_assoc]
      rw [e3, e4, readRows_enc _ hr, htake]
      simp
      omega
    · rw [if_neg hc]
      have he := encTo_step n args k hc
      rw [hlet] at he
      rw [hkind, ht, he]
      have e1 : pre ++ (encTo n args k ++ encArg (kindL n k) (args.getD k 0) ++ t ++ rest) = (pre ++ encTo n args k) ++ (encArg (kindL n k) (args.getD k 0) ++ (t ++ rest)) := by simp [List.append_assoc]
      have e2 : pre.length + (encTo n args k).length = (pre ++ encTo n args k).length := by simp
      rw [e1, e2, read1_enc _ (kind_letter n k) _ hin, htake]
      have hrows : (if k = 0 then 0 else rowsOf n args.length) = rowsOf n args.length := by
        split
        · rename_i h0; unfold rowsOf; rw [if_neg (fun h => hc ⟨h, h0⟩)]
        · rfl
      rw [hrows]
      simp
      omega
theorem encTo_pos (n : Nat) (args : List Int) (k : Nat) : 0 < (encTo n args k).length := by
  obtain ⟨t, ht⟩ := encTo_tail n args 0 k
  rw [Nat.zero_add] at ht
  rw [ht]
  simp [encTo]
/-- **An instruction that was written is read.** -/
theorem decode_enc (n : Nat) (hn : n < 256) (args : List Int) (h : (oneL n args).2 = 0) (pre rest : List UInt8) :
    decodeL (pre ++ ((oneL n args).1 ++ rest)) pre.length = ((n, args), ((pre.length + (oneL n args).1.length : Nat) : Int), 0) := by
  obtain ⟨hT, hR, hok, hr, he⟩ := oneL_ok n args h
  rw [he]
  have hp := encTo_pos n args args.length
  have hop : (pre ++ (encTo n args args.length ++ rest)).getD pre.length 0 = UInt8.ofNat n := by
    have h1 := getD_app pre (encTo n args args.length ++ rest) 0
    rw [Nat.add_zero] at h1
    rw [h1, getD_left _ _ _ hp]
    obtain ⟨t, ht⟩ := encTo_tail n args 0 args.length
    rw [Nat.zero_add] at ht
    rw [ht]
    rfl
  have hst := st_enc n args hR hok hr pre rest
  have hend : endAt n (pre ++ (encTo n args args.length ++ rest)) (pre.length + 1) = args.length := by
    have hrows : endRows n (pre ++ (encTo n args args.length ++ rest)) (pre.length + 1) = rowsOf n args.length := by
      unfold endRows
      by_cases h60 : n = 60
      · rw [if_pos h60]
        have h2 : 2 ≤ args.length := by
          unfold rowsOk at hR
          rw [if_pos h60] at hR
          simp only [decide_eq_true_eq] at hR
          exact hR.1
        rw [hst 1 (by omega)]
        simp
      · rw [if_neg h60]; unfold rowsOf; rw [if_neg h60]
    unfold endAt
    rw [hrows]
    exact letters_length n args.length hR
  unfold decodeL
  rw [if_neg (by simp; omega), Int.toNat_natCast, hop, ofNat_toNat n hn, if_neg (by simp [hT]), hend, hst args.length (Nat.le_refl _)]
  simp
theorem bytes_cons (i : InsL) (l : List InsL) : bytesOf (i :: l) = (oneL i.1 i.2).1 ++ bytesOf l := by simp [bytesOf]
theorem err_cons (i : InsL) (l : List InsL) (h : errOf (i :: l) = 0) : (oneL i.1 i.2).2 = 0 ∧ errOf l = 0 := by
  simp only [errOf] at h
  by_cases c : (oneL i.1 i.2).2 = 0
  · exact ⟨c, by simpa [c] using h⟩
  · rw [if_pos c] at h; exact absurd h c
/-- **Instructions that were written are read.** -/
theorem all_enc : ∀ (l : List InsL) (pre : List UInt8) (f : Nat), (∀ i ∈ l, i.1 < 256) → errOf l = 0 → (bytesOf l).length < f → ∃ p : List Int, allGo (pre ++ bytesOf l) f pre.length = (l, p, 0) ∧ p.length = l.length
  | [], pre, f, _, _, hf => by
    obtain ⟨f', rfl⟩ : ∃ f', f = f' + 1 := ⟨f - 1, by omega⟩
    rw [allGo_succ, if_neg (by simp [bytesOf])]
    exact ⟨[], rfl, rfl⟩
  | i :: l, pre, f, hi, he, hf => by
    obtain ⟨f', rfl⟩ : ∃ f', f = f' + 1 := ⟨f - 1, by omega⟩
    obtain ⟨h1, h2⟩ := err_cons i l he
    obtain ⟨n, args⟩ := i
    have hpos : 0 < (oneL n args).1.length := by rw [(oneL_ok n args h1).2.2.2.2]; exact encTo_pos _ _ _
    rw [bytes_cons] at hf ⊢
    simp only [List.length_append] at hf
    have hd := decode_enc n (hi (n, args) (List.mem_cons_self ..)) args h1 pre (bytesOf l)
    obtain ⟨p, hp, hl⟩ := all_enc l (pre ++ (oneL n args).1) f' (fun j hj => hi j (List.mem_cons_of_mem _ hj)) h2 (by omega)
    rw [List.append_assoc, List.length_append] at hp
    rw [allGo_succ, if_pos (by simp; omega), hd]
    simp only [Int.toNat_natCast]
    rw [hp]
    exact ⟨(pre.length : Int) :: p, by simp, by simp [hl]⟩
theorem all_encode (l : List InsL) (hi : ∀ i ∈ l, i.1 < 256) (a : List UInt8) (h : encodeL l = (a, 0)) : ∃ p : List Int, allL a = (l, p, 0) ∧ p.length = l.length := by
  unfold encodeL at h
  by_cases he : errOf l ≠ 0
  · rw [if_pos he] at h; simp at h; exact absurd h.2 he
  · rw [if_neg he] at h
    by_cases hl : 65535 < (bytesOf l).length
    · rw [if_pos hl] at h; simp at h
    · rw [if_neg hl] at h
      obtain rfl : bytesOf l = a := by simpa using h
      obtain ⟨p, hp, hpl⟩ := all_enc l [] ((bytesOf l).length + 1) hi (by simpa using he) (by omega)
      refine ⟨p, ?_, hpl⟩
      unfold allL
      rw [if_neg hl]
      simpa using hp
/-- Unlike rows have unlike bytes. -/
theorem encode_inj (l m : List InsL) (hl : ∀ i ∈ l, i.1 < 256) (hm : ∀ i ∈ m, i.1 < 256) (a b : List UInt8) (h : encodeL l = (a, 0)) (k : encodeL m = (b, 0)) : a = b ↔ l = m := by
  constructor
  · rintro rfl
    obtain ⟨p, hp, _⟩ := all_encode l hl a h
    obtain ⟨q, hq, _⟩ := all_encode m hm a k
    rw [hp] at hq
    simp at hq
    exact hq.1
  · rintro rfl
    rw [h] at k
    simp at k
    exact k
end Go.Proofs.YtgcmenjpcgdikaaDoor
