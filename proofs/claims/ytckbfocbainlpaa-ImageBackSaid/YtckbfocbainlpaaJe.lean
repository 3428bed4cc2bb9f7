/- separatumlaw24.ImageBack answers true. Condition: what lies in memory can lie there. (Printed by gen_je.py.) -/
import Derived.Test.YtckbfocbainlpaaFd
import Derived.Test.YtckbfocbainlpaaFb
import Derived.Test.YtckbfocbainlpaaEa
import Derived.Test.YtckbfocbainlpaaWd
namespace Go.Proofs.Ytckbfocbainlpaa
open Go.RowKit
set_option maxRecDepth 100000

theorem rawV_app (l q : List UInt8) (n : Nat) (h : l.length = n) : rawV ⟨l ++ q, false⟩ n = l := by
  subst h; unfold rawV overB; rw [if_neg (by simp)]; simp
theorem rawS_app (l q : List UInt8) (n : Nat) (h : l.length = n) : rawS ⟨l ++ q, false⟩ n = ⟨q, false⟩ := by
  subst h; unfold rawS overB; rw [if_neg (by simp)]; simp
theorem numV_app (k m : Nat) (q : List UInt8) (h : k < 256 ^ m) : numV ⟨beN k m ++ q, false⟩ m = k := by
  unfold numV; rw [rawV_app _ _ _ (beN_length _ _), toN_beN, Nat.mod_eq_of_lt h]
theorem rawS_num (k m : Nat) (q : List UInt8) : rawS ⟨beN k m ++ q, false⟩ m = ⟨q, false⟩ := rawS_app _ _ _ (beN_length _ _)
theorem within_iff (n lo hi : Int) : withinB n lo hi = true ↔ lo ≤ n ∧ n ≤ hi := by unfold withinB; simp
theorem u8_small (n : Nat) (h : n < 256) : (UInt8.ofNat n).toNat = n := by simp; omega
theorem truthL_be (b : Bool) : truthL b = beN (if b then 1 else 0) 1 := by cases b <;> decide
theorem procR_app (p : ProcL) (c : Nat) (hc : c ≤ 65535) (h : mayB p c = true) (q : List UInt8) : procR ⟨procN p ++ q, false⟩ = (p, ⟨q, false⟩) := by
  unfold mayB at h
  simp only [Bool.and_eq_true, within_iff] at h
  obtain ⟨⟨⟨⟨h1, h2⟩, h3⟩, h4⟩, h5⟩ := h
  obtain ⟨a, b, c', d, e, f⟩ := p
  simp only at h1 h2 h3 h4 h5
  unfold procN procR truthV truthS
  simp only [List.append_assoc, truthL_be]
  have n1 := numV_app a.toNat 2
  have n2 := numV_app b.toNat 2
  have n3 := numV_app c'.toNat 2
  have n4 := numV_app d.toNat 2
  have n5 := numV_app e.toNat 1
  have n6 := numV_app (if f then 1 else 0) 1
  simp only [rawS_num]
  rw [n1 _ (by omega), n2 _ (by omega), n3 _ (by omega), n4 _ (by omega), n5 _ (by omega), n6 _ (by split <;> omega)]
  have ha : ((a.toNat : Nat) : Int) = a := by omega
  have hb : ((b.toNat : Nat) : Int) = b := by omega
  have hcc : ((c'.toNat : Nat) : Int) = c' := by omega
  have hd : ((d.toNat : Nat) : Int) = d := by omega
  have he : ((e.toNat : Nat) : Int) = e := by omega
  rw [ha, hb, hcc, hd, he]
  cases f <;> rfl
theorem impR_app (i : Int) (h : withinB i 0 63 = true) (q : List UInt8) : impR ⟨impN i ++ q, false⟩ = (i, ⟨q, false⟩) := by
  rw [within_iff] at h
  unfold impR impN
  rw [numV_app _ _ _ (by omega), rawS_num]
  rw [show ((i.toNat : Nat) : Int) = i by omega]
theorem wordR_app (n : Nat) (h : n < 65536) (q : List UInt8) : wordR ⟨wordN n ++ q, false⟩ = (n, ⟨q, false⟩) := by
  unfold wordR wordN
  rw [numV_app _ _ _ (by omega), rawS_num]
theorem listTo_app {α : Type} (one : Rs → α × Rs) (f : α → List UInt8) (l : List α) (h : ∀ x ∈ l, ∀ q, one ⟨f x ++ q, false⟩ = (x, ⟨q, false⟩)) (n : Nat) (hn : n = l.length) (q : List UInt8) : listTo one n ⟨l.flatMap f ++ q, false⟩ = (l, ⟨q, false⟩) := by
  subst hn
  suffices H : ∀ k, k ≤ l.length → ∀ q, listTo one k ⟨(l.take k).flatMap f ++ q, false⟩ = (l.take k, ⟨q, false⟩) by
    have := H l.length (Nat.le_refl _) q
    rwa [List.take_length] at this
  intro k
  induction k with
  | zero => intro _ q; simp [listTo]
  | succ k ih =>
    intro hk q
    have e := List.take_succ_eq_append_getElem (l := l) (i := k) (by omega)
    have h1 : (l.take (k + 1)).flatMap f ++ q = (l.take k).flatMap f ++ (f l[k] ++ q) := by rw [e, List.flatMap_append]; simp
    rw [h1, listTo_succ_ok _ _ _ (by rw [ih (by omega)]), ih (by omega)]
    simp only
    rw [h _ (List.getElem_mem _), e]
theorem unpack_pack (m : ModL) (hm : modOkB m = true) (hw : ∀ x ∈ m.init, x < 65536) (q : List UInt8) : unpackL (packL m ++ q) = some (m, q) := by
  have hm2 := hm
  unfold modOkB checkB modB headB noImp at hm2
  simp only [List.all_cons, List.all_nil, Bool.and_true, Bool.and_eq_true, Bool.not_eq_true', decide_eq_false_iff_not, within_iff, List.all_eq_true] at hm2
  obtain ⟨⟨hi1, hi2⟩, ⟨_, ⟨⟨⟨⟨hc, hp⟩, _⟩, hd⟩, hmay⟩, _⟩, _⟩ := hm2
  obtain ⟨code, procs, imports, data, init⟩ := m
  simp only at *
  have e1 : packL ⟨code, procs, imports, data, init⟩ ++ q = beN code.length 2 ++ (code ++ (beN procs.length 2 ++ (procs.flatMap procN ++ (beN imports.length 1 ++ (imports.flatMap impN ++ (beN data.toNat 2 ++ (beN init.length 2 ++ (init.flatMap wordN ++ q)))))))) := by
    unfold packL; simp only [List.append_assoc]
  rw [e1]
  have c1 : ∀ y, numV ⟨beN code.length 2 ++ y, false⟩ 2 = code.length := fun y => numV_app _ _ _ (by omega)
  have c2 : ∀ y, numV ⟨beN procs.length 2 ++ y, false⟩ 2 = procs.length := fun y => numV_app _ _ _ (by omega)
  have c3 : ∀ y, numV ⟨beN imports.length 1 ++ y, false⟩ 1 = imports.length := fun y => numV_app _ _ _ (by omega)
  have c4 : ∀ y, numV ⟨beN data.toNat 2 ++ y, false⟩ 2 = data.toNat := fun y => numV_app _ _ _ (by omega)
  have c5 : ∀ y, numV ⟨beN init.length 2 ++ y, false⟩ 2 = init.length := fun y => numV_app _ _ _ (by omega)
  have d1 : ∀ y, rawS ⟨code ++ y, false⟩ code.length = ⟨y, false⟩ := fun y => rawS_app _ _ _ rfl
  have d2 : ∀ y, rawV ⟨code ++ y, false⟩ code.length = code := fun y => rawV_app _ _ _ rfl
  have l1 : ∀ y, listTo procR procs.length ⟨procs.flatMap procN ++ y, false⟩ = (procs, ⟨y, false⟩) := listTo_app _ _ _ (fun x hx y => procR_app x code.length (by omega) (hmay x hx) y) _ rfl
  have l2 : ∀ y, listTo impR imports.length ⟨imports.flatMap impN ++ y, false⟩ = (imports, ⟨y, false⟩) := listTo_app _ _ _ (fun x hx y => impR_app x (by rw [within_iff]; exact hi2 x hx) y) _ rfl
  have l3 : ∀ y, listTo wordR init.length ⟨init.flatMap wordN ++ y, false⟩ = (init, ⟨y, false⟩) := listTo_app _ _ _ (fun x hx y => wordR_app x (hw x hx) y) _ rfl
  generalize hZ : beN init.length 2 ++ (init.flatMap wordN ++ q) = Z
  have hr2 : r2 ⟨beN code.length 2 ++ (code ++ (beN procs.length 2 ++ (procs.flatMap procN ++ (beN imports.length 1 ++ (imports.flatMap impN ++ (beN data.toNat 2 ++ Z)))))), false⟩ = ⟨beN procs.length 2 ++ (procs.flatMap procN ++ (beN imports.length 1 ++ (imports.flatMap impN ++ (beN data.toNat 2 ++ Z)))), false⟩ := by
    unfold r2; rw [rawS_num, c1, d1]
  have hps : ps ⟨beN code.length 2 ++ (code ++ (beN procs.length 2 ++ (procs.flatMap procN ++ (beN imports.length 1 ++ (imports.flatMap impN ++ (beN data.toNat 2 ++ Z)))))), false⟩ = (procs, ⟨beN imports.length 1 ++ (imports.flatMap impN ++ (beN data.toNat 2 ++ Z)), false⟩) := by
    unfold ps; rw [hr2, c2, rawS_num, l1]
  have his : is ⟨beN code.length 2 ++ (code ++ (beN procs.length 2 ++ (procs.flatMap procN ++ (beN imports.length 1 ++ (imports.flatMap impN ++ (beN data.toNat 2 ++ Z)))))), false⟩ = (imports, ⟨beN data.toNat 2 ++ Z, false⟩) := by
    unfold is; rw [hps, c3, rawS_num, l2]
  have hr7 : r7 ⟨beN code.length 2 ++ (code ++ (beN procs.length 2 ++ (procs.flatMap procN ++ (beN imports.length 1 ++ (imports.flatMap impN ++ (beN data.toNat 2 ++ Z)))))), false⟩ = ⟨Z, false⟩ := by
    unfold r7; rw [his, rawS_num]
  have hts : ts ⟨beN code.length 2 ++ (code ++ (beN procs.length 2 ++ (procs.flatMap procN ++ (beN imports.length 1 ++ (imports.flatMap impN ++ (beN data.toNat 2 ++ Z)))))), false⟩ = (init, ⟨q, false⟩) := by
    unfold ts; rw [hr7, ← hZ, c5, rawS_num, l3]
  have hmm : modM ⟨beN code.length 2 ++ (code ++ (beN procs.length 2 ++ (procs.flatMap procN ++ (beN imports.length 1 ++ (imports.flatMap impN ++ (beN data.toNat 2 ++ Z)))))), false⟩ = ⟨code, procs, imports, data, init⟩ := by
    unfold modM; rw [hps, his, hts, c4, rawS_num, c1, d2]
    rw [show ((data.toNat : Nat) : Int) = data by omega]
  unfold unpackL modS
  rw [hmm, hts, hm]
  rfl
/-- Every word of the image's data is one. -/
def WordsOk (i : ImgL) : Prop := ∀ m ∈ i.mods, ∀ x ∈ m.init, x < 65536
theorem imgTo_app (i : ImgL) (hi : imgB i = true) (hw : WordsOk i) (k : Nat) (hk : k ≤ i.names.length) (q : List UInt8) :
    imgTo k (((List.range k).flatMap fun j => partN (i.names.getD j []) (i.mods.getD j default)) ++ q) = some ⟨i.names.take k, i.mods.take k, q⟩ := by
  unfold imgB at hi
  simp only [Bool.and_eq_true, beq_iff_eq] at hi
  obtain ⟨⟨⟨⟨⟨hc, hn⟩, _⟩, hnm⟩, _⟩, _⟩ := hi
  induction k generalizing q with
  | zero => simp [imgTo]
  | succ k ih =>
    have e1 : ((List.range (k + 1)).flatMap fun j => partN (i.names.getD j []) (i.mods.getD j default)) ++ q = ((List.range k).flatMap fun j => partN (i.names.getD j []) (i.mods.getD j default)) ++ (partN (i.names.getD k []) (i.mods.getD k default) ++ q) := by
      rw [List.range_succ, List.flatMap_append]; simp
    have en : i.names.getD k [] = i.names[k] := by simp [List.getD_eq_getElem?_getD, show k < i.names.length by omega]
    have em : i.mods.getD k default = i.mods[k] := by simp [List.getD_eq_getElem?_getD, show k < i.mods.length by omega]
    unfold imgTo
    rw [e1, ih (by omega)]
    simp only [Option.bind_some]
    rw [en, em]
    have h1 := List.all_eq_true.1 hnm i.names[k] (List.getElem_mem _)
    unfold nameB at h1
    simp only [Bool.and_eq_true, decide_eq_true_eq] at h1
    have hlen : (UInt8.ofNat i.names[k].length).toNat = i.names[k].length := u8_small _ (by omega)
    unfold stepI partN
    simp only [List.cons_append, List.nil_append, List.append_assoc]
    rw [hlen, if_neg (by simp), List.drop_left, unpack_pack _ (modOk_of_check hc _ (List.getElem_mem _)) (hw _ (List.getElem_mem _))]
    simp only [List.take_left, Option.some.injEq, Half.mk.injEq, and_true]
    exact ⟨(List.take_succ_eq_append_getElem _).symm, (List.take_succ_eq_append_getElem _).symm⟩
theorem readL_body (i : ImgL) (hi : imgB i = true) (hw : WordsOk i) : readL (imgBody i) = some i := by
  have hi2 := hi
  unfold imgB at hi2
  simp only [Bool.and_eq_true, beq_iff_eq] at hi2
  obtain ⟨⟨⟨⟨⟨hc, hn⟩, hon⟩, hnm⟩, _⟩, ho⟩ := hi2
  have h64 : i.names.length ≤ 64 := by
    unfold checkB at hc; simp only [Bool.and_eq_true, within_iff] at hc; omega
  have hh : halfI ⟨i.names, i.mods, []⟩ = i := by
    unfold orderB at ho
    have ho := of_decide_eq_true ho
    unfold halfI ordL
    obtain ⟨a, b, c⟩ := i
    simp only [ImgL.mk.injEq, true_and] at *
    rw [hn, ← hon]; exact ho.symm
  have h1 := imgTo_app i hi hw i.names.length (Nat.le_refl _) []
  rw [List.append_nil, List.take_length, hn, List.take_length, ← hn] at h1
  unfold imgBody bodyTo readL
  simp only [List.cons_append, List.nil_append]
  rw [u8_small i.names.length (by omega), h1]
  simp only [hh]
  rw [if_pos ⟨trivial, hi⟩]
theorem wrap_drop (s : List UInt8) : (wrapL s).drop 12 = s ∧ (wrapL s).take 4 = kindL ∧ ((wrapL s).drop 4).take 8 = eightL (keyN s) ∧ (wrapL s).length = 12 + s.length := by
  have h8 : (eightL (keyN s)).length = 8 := beN_length _ _
  have h4 : kindL.length = 4 := rfl
  unfold wrapL
  refine ⟨?_, ?_, ?_, ?_⟩
  · rw [← List.append_assoc]; exact List.drop_left' (by rw [List.length_append, h8, h4])
  · exact List.take_left' h4
  · rw [List.drop_left' h4]; exact List.take_left' h8
  · simp [h8, h4]; omega
/-- P24.2: an image that was written is read. -/
theorem decode_encode (i : ImgL) (hi : imgB i = true) (hw : WordsOk i) : decodeE (encodeL i) = 0 ∧ decodeI (encodeL i) = i ∧ 12 ≤ (encodeL i).length := by
  have he : encodeL i = wrapL (imgBody i) := by unfold encodeL; rw [if_pos hi]
  obtain ⟨w1, w2, w3, w4⟩ := wrap_drop (imgBody i)
  have h0 : decodeE (encodeL i) = 0 := by
    unfold decodeE
    rw [he, w1, w2, w3, w4, if_neg (by simp), if_neg (by simp), readL_body i hi hw]; rfl
  refine ⟨h0, ?_, by rw [he, w4]; omega⟩
  unfold decodeI
  rw [if_pos h0, he, w1, readL_body i hi hw]; rfl
theorem encode_inj (i j : ImgL) (hi : imgB i = true) (hj : imgB j = true) (wi : WordsOk i) (wj : WordsOk j) : decide (encodeL i = encodeL j) = decide (i = j) := by
  rw [Bool.eq_iff_iff]
  simp only [decide_eq_true_eq]
  refine ⟨fun h => ?_, fun h => by rw [h]⟩
  rw [← (decode_encode i hi wi).2.1, h, (decode_encode j hj wj).2.1]

/-! One byte turned. -/
theorem xor_cancel {a b c : Nat} (h : a ^^^ c = b ^^^ c) : a = b := by
  have := congrArg (· ^^^ c) h
  simpa [Nat.xor_assoc] using this
theorem odd_back (x : Nat) (hx : x < two64) : x * 1099511628211 % two64 * 14886173955864302971 % two64 = x := by
  rw [Nat.mod_mul_mod, Nat.mul_assoc, ← Nat.mul_mod_mod, show 1099511628211 * 14886173955864302971 % two64 = 1 by decide, Nat.mul_one, Nat.mod_eq_of_lt hx]
theorem odd_cancel {a b : Nat} (ha : a < two64) (hb : b < two64) (h : a * 1099511628211 % two64 = b * 1099511628211 % two64) : a = b := by
  rw [← odd_back a ha, h, odd_back b hb]
theorem xor_byte_lt {h : Nat} (hh : h < two64) (b : UInt8) : h ^^^ b.toNat < two64 := by
  have e : two64 = 2 ^ 64 := by decide
  have hb : b.toNat < two64 := Nat.lt_trans b.toNat_lt (by decide)
  rw [e] at *
  exact Nat.xor_lt_two_pow hh hb
theorem step_inj {h h' : Nat} {b b' : UInt8} (hh : h < two64) (hh' : h' < two64) (e : stepN h b = stepN h' b') : h ^^^ b.toNat = h' ^^^ b'.toNat :=
  odd_cancel (xor_byte_lt hh b) (xor_byte_lt hh' b') e
theorem more_inj (s : List UInt8) : ∀ {h h' : Nat}, h < two64 → h' < two64 → moreN h s = moreN h' s → h = h' := by
  induction s with
  | nil => intro h h' _ _ e; exact e
  | cons b s ih =>
    intro h h' hh hh' e
    have := ih (stepN_lt h b) (stepN_lt h' b) e
    exact xor_cancel (step_inj hh hh' this)
theorem mix_high (h : Nat) (hh : h < two64) : mixN h / 4294967296 = h / 4294967296 := by
  unfold mixN
  have e : (4294967296 : Nat) = 2 ^ 32 := by decide
  rw [e, ← Nat.shiftRight_eq_div_pow, ← Nat.shiftRight_eq_div_pow, Nat.shiftRight_xor_distrib, ← Nat.shiftRight_add, Nat.shiftRight_eq_div_pow h (32 + 32), Nat.div_eq_of_lt (by unfold two64 at hh; omega), Nat.xor_zero]
theorem mix_inj {h h' : Nat} (hh : h < two64) (hh' : h' < two64) (e : mixN h = mixN h') : h = h' := by
  have h1 := mix_high h hh
  have h2 := mix_high h' hh'
  rw [e, h2] at h1
  unfold mixN at e
  rw [h1] at e
  exact xor_cancel e
theorem key_turned {l r : List UInt8} {b b' : UInt8} (e : keyN (l ++ b :: r) = keyN (l ++ b' :: r)) : b = b' := by
  have h1 := mix_inj (moreN_lt _ firstN_lt _) (moreN_lt _ firstN_lt _) e
  have h2 : ∀ x : UInt8, moreN firstN (l ++ x :: r) = moreN (stepN (moreN firstN l) x) r := fun x => by unfold moreN; rw [List.foldl_append, List.foldl_cons]
  rw [h2, h2] at h1
  have h3 := step_inj (moreN_lt _ firstN_lt _) (moreN_lt _ firstN_lt _) (more_inj r (stepN_lt _ _) (stepN_lt _ _) h1)
  rw [Nat.xor_comm _ b.toNat, Nat.xor_comm _ b'.toNat] at h3
  exact UInt8.toNat_inj.1 (xor_cancel h3)
theorem set_same {s : List UInt8} {p : Nat} {c : UInt8} (hp : p < s.length) (e : s.set p c = s) : c = s.getD p 0 := by
  have := congrArg (fun l => l.getD p 0) e
  simpa [List.getD_eq_getElem?_getD, hp] using this
theorem ok_parts {s : List UInt8} (h : decodeE s = 0) : 12 ≤ s.length ∧ s.take 4 = kindL ∧ (s.drop 4).take 8 = eightL (keyN (s.drop 12)) := by
  unfold decodeE at h
  split at h
  · exact absurd h (by decide)
  · rename_i h1
    split at h
    · exact absurd h (by decide)
    · rename_i h2
      exact ⟨by omega, by simpa using fun e => h1 (.inr e), by simpa using h2⟩
theorem key_set {d : List UInt8} {j : Nat} {c : UInt8} (hj : j < d.length) (e : keyN d = keyN (d.set j c)) : d[j] = c := by
  have e4 : d.take j ++ d[j] :: d.drop (j + 1) = d := by rw [List.getElem_cons_drop, List.take_append_drop]
  have e5 : d.set j c = d.take j ++ c :: d.drop (j + 1) := by rw [List.set_eq_take_append_cons_drop, if_pos hj]
  have h2 : keyN (d.take j ++ d[j] :: d.drop (j + 1)) = keyN (d.take j ++ c :: d.drop (j + 1)) := by rw [e4, ← e5]; exact e
  exact key_turned h2
/-- P24.2: of two texts that differ in one byte at most one is an image's. -/
theorem turned_told {s : List UInt8} {p : Nat} {c : UInt8} (hp : p < s.length) (h : decodeE s = 0) (h' : decodeE (s.set p c) = 0) : c = s.getD p 0 := by
  obtain ⟨hl, k1, e1⟩ := ok_parts h
  obtain ⟨_, k2, e2⟩ := ok_parts h'
  refine set_same hp ?_
  have hcat : ∀ x : List UInt8, x = x.take 4 ++ ((x.drop 4).take 8 ++ x.drop 12) := fun x => by
    have a := List.take_append_drop 8 (x.drop 4)
    rw [List.drop_drop] at a
    rw [a, List.take_append_drop]
  by_cases h12 : p < 12
  · have hd : (s.set p c).drop 12 = s.drop 12 := by rw [List.drop_set, if_pos h12]
    refine (hcat (s.set p c)).trans (Eq.trans ?_ (hcat s).symm)
    rw [k1, k2, e1, e2, hd]
  · have hd : (s.set p c).drop 12 = (s.drop 12).set (p - 12) c := by rw [List.drop_set, if_neg h12]
    have ht : ((s.set p c).drop 4).take 8 = (s.drop 4).take 8 := by
      rw [List.drop_set, if_neg (by omega), List.take_set_of_le (by omega)]
    rw [ht, e1] at e2
    have e3 := eightL_inj _ _ (keyN_lt _) (keyN_lt _) e2
    rw [hd] at e3
    have hp2 : p - 12 < (s.drop 12).length := by simp; omega
    have e6 : (s.drop 12)[p - 12] = c := key_set hp2 e3
    rw [List.getElem_drop] at e6
    have : s[p] = c := by
      have h3 : 12 + (p - 12) = p := by omega
      simpa [h3] using e6
    rw [← this]; exact List.set_getElem_self hp

theorem words_of {w : World} {s : IS} {i : ImgL} (h : ImgIn w s i) : WordsOk i := by
  intro m hm x hx
  obtain ⟨j, hj, rfl⟩ := List.mem_iff_getElem.1 hm
  obtain ⟨b, o, _, _, t, hM, _⟩ := h.mods.at_ hj
  have e : i.mods.getD j default = i.mods[j] := by simp [List.getD_eq_getElem?_getD, hj]
  rw [e] at hM
  obtain ⟨k, hk, rfl⟩ := List.mem_iff_getElem.1 hx
  obtain ⟨b2, o2, _, _, _, hlt⟩ := hM.init.at_ hk
  simpa [List.getD_eq_getElem?_getD, hk] using hlt
theorem encodeL_len {i : ImgL} (h : imgB i = true) : (encodeL i).length ≤ 14000000 := by
  have hO := okI_of h
  have h1 := bodyTo_len hO i.names.length (Nat.le_refl _)
  have h2 := (wrap_drop (imgBody i)).2.2.2
  have h64 : i.names.length ≤ 64 := by
    have h' := h
    unfold imgB checkB at h'
    simp only [Bool.and_eq_true, within_iff, beq_iff_eq] at h'
    omega
  have h3 : i.names.length * 207365 ≤ 64 * 207365 := Nat.mul_le_mul_right _ h64
  unfold encodeL
  rw [if_pos h, h2]
  unfold imgBody
  omega
theorem OwnG.cell {w : World} {base g : Nat} {n c : Nat} {l : List UInt8} (h : OwnG w base (.slice (some ⟨g, 0, none⟩) n c) l) {j : Nat} (hj : j < l.length) : w.cell? ⟨g, j, none⟩ = some (.int .u8 (l.getD j 0).toNat) := by
  obtain ⟨g', cap, cur, fz, he, hB, hg, h1, h2, h3, h4, h5⟩ := h
  cases he
  rw [cell_of_row w g _ cur 5 fz hg]
  have hj2 : (cur.toList.take l.length)[j]? = some (.int .u8 (l.getD j 0).toNat) := by
    rw [h4]; simp [byteVals, List.getD_eq_getElem?_getD, hj]
  rw [List.getElem?_take_of_lt hj] at hj2
  simpa using hj2
theorem OwnG.free {w : World} {base g : Nat} {n c : Nat} {l : List UInt8} (h : OwnG w base (.slice (some ⟨g, 0, none⟩) n c) l) {j : Nat} (hj : j < l.length) : w.frozen? ⟨g, j, none⟩ = false := by
  obtain ⟨g', cap, cur, fz, he, hB, hg, h1, h2, h3, h4, h5⟩ := h
  cases he
  unfold World.frozen?
  rw [hg]
  have := h5 j (by omega)
  simp only [Bool.and_eq_false_iff, decide_eq_false_iff_not]
  by_cases hq : fz.1 ≤ j
  · right; intro h; exact this ⟨hq, h⟩
  · left; exact hq
theorem setCell_below {B : Nat} {w0 w : World} {a : Addr} {v : Value} (h : Below B w0 w) (hB : B ≤ a.block) : Below B w0 (w.setCell a v) := h.setCell hB v
theorem OwnG.set {w : World} {base g : Nat} {n c : Nat} {l : List UInt8} (h : OwnG w base (.slice (some ⟨g, 0, none⟩) n c) l) {j : Nat} (hj : j < l.length) (x : UInt8) : OwnG (w.setCell ⟨g, j, none⟩ (.int .u8 x.toNat)) base (.slice (some ⟨g, 0, none⟩) n c) (l.set j x) := by
  obtain ⟨g', cap, cur, fz, he, hB, hg, h1, h2, h3, h4, h5⟩ := h
  cases he
  refine ⟨g, c, cur.setIfInBounds j (.int .u8 x.toNat), fz, by rw [List.length_set], hB, ?_, by rw [List.length_set]; exact h1, h2, by simp [h3], ?_, h5⟩
  · rw [setCell_eq_setRow w g j cur 5 fz _ hg]
    exact setRow_heap w g cur _ 5 _ hg
  · rw [List.length_set, Array.toList_setIfInBounds, List.take_set, h4]
    simp [byteVals, List.map_set]
theorem xor_u8 (a b : UInt8) : bits .xor .u8 (a.toNat : Int) (b.toNat : Int) = ((a ^^^ b).toNat : Int) := by
  have ha := a.toNat_lt
  have hb := b.toNat_lt
  have hx : a.toNat ^^^ b.toNat < 2 ^ 8 := Nat.xor_lt_two_pow (by omega) (by omega)
  have h1 : (BitVec.ofInt 8 (a.toNat : Int)).toNat = a.toNat := by
    rw [BitVec.ofInt_natCast, BitVec.toNat_ofNat]; exact Nat.mod_eq_of_lt (by omega)
  have h2 : (BitVec.ofInt 8 (b.toNat : Int)).toNat = b.toNat := by
    rw [BitVec.ofInt_natCast, BitVec.toNat_ofNat]; exact Nat.mod_eq_of_lt (by omega)
  show IntKind.u8.wrap ((BitVec.ofInt 8 (a.toNat : Int) ^^^ BitVec.ofInt 8 (b.toNat : Int)).toNat : Int) = _
  rw [BitVec.toNat_xor, h1, h2, UInt8.toNat_xor, IntWalk.u8_in _ (by omega)]
theorem dec_eq {s : List UInt8} {i : ImgL} {er : Int} {w : World} (hs : s.length ≤ 140737488355328) (hi : decodeI s = i) (he : decodeE s = er) : Calls Try.prog 16 #[.string ⟨s.toArray⟩] w (DecEnd w i er) := by
  rw [← hi, ← he]; exact decode_any s hs w
theorem enc_eq {s : IS} {i : ImgL} {w : World} {ok : Bool} {l : List UInt8} {n : Int} (hI : ImgIn w s i) (ho : imgB i = ok) (hl : encodeL i = l) (hn : errArg ok = n) : Calls Try.prog 8 #[imgV s i] w (fun e w' => e = .returned (.tuple #[.string ⟨l.toArray⟩, .int .i64 n]) ∧ Below w.heap.size w w') := by
  rw [← hl, ← hn, ← ho]; exact encode_any s i w hI

set_option maxHeartbeats 4000000 in
theorem imageBack_any (sa sb : IS) (a b : ImgL) (at_ : Nat) (ha : at_ < 65536) (by_ : UInt8) (w : World) (hA : ImgIn w sa a) (hB : ImgIn w sb b) : Calls Try.prog 5 #[imgV sa a, imgV sb b, .int .u16 at_, .int .u8 by_.toNat] w (BoolEnd w true) := by
  have HT0 := Lib.hid (TI.start hA hB)
  have HWa := Lib.hid (words_of hA)
  have HWb := Lib.hid (words_of hB)
  clear hA hB
  obtain ⟨A1, c1, A2, c2, A3, c3⟩ := sa
  obtain ⟨B1, d1, B2, d2, B3, d3⟩ := sb
  simp only at HT0
  unfold imgV
  go_enter Try.func5, Try.ntmps5
  go_wp2_with fail
  refine (large_any ⟨A1, c1, A2, c2, A3, c3⟩ a _ HT0.out.ia).mono ?_
  rintro e w1 ⟨b1, rfl, hb1⟩
  have HT1 := Lib.hid (HT0.out.grow hb1)
  clear hb1 HT0
  have q0 : w1.cell? ⟨w.heap.size, 0, none⟩ = some (.slice A1 a.names.length c1) := (HT1.out.xa.cell 0).trans rfl
  have q1 : w1.cell? ⟨w.heap.size, 1, none⟩ = some (.slice A2 a.mods.length c2) := (HT1.out.xa.cell 1).trans rfl
  have q2 : w1.cell? ⟨w.heap.size, 2, none⟩ = some (.slice A3 a.order.length c3) := (HT1.out.xa.cell 2).trans rfl
  have r0 : w1.cell? ⟨w.heap.size + 1, 0, none⟩ = some (.slice B1 b.names.length d1) := (HT1.out.xb.cell 0).trans rfl
  have r1 : w1.cell? ⟨w.heap.size + 1, 1, none⟩ = some (.slice B2 b.mods.length d2) := (HT1.out.xb.cell 1).trans rfl
  have r2 : w1.cell? ⟨w.heap.size + 1, 2, none⟩ = some (.slice B3 b.order.length d3) := (HT1.out.xb.cell 2).trans rfl
  cases b1
  case true =>
    go_wp2_with fail
    refine (alive_any _).mono ?_
    rintro e w9 ⟨rfl, hb9⟩
    have H9 := Lib.hid (HT1.out.old.trans (hb9.mono HT1.out.old.size))
    clear hb9
    go_wp2_with fail
    go_ret
    exact ⟨rfl, H9.out⟩

  go_wp2_with fail
  refine (large_any ⟨B1, d1, B2, d2, B3, d3⟩ b _ HT1.out.ib).mono ?_
  rintro e w2 ⟨b2, rfl, hb2⟩
  have HT2 := Lib.hid (HT1.out.grow hb2)
  clear hb2 HT1 q0 q1 q2 r0 r1 r2
  have q0 : w2.cell? ⟨w.heap.size, 0, none⟩ = some (.slice A1 a.names.length c1) := (HT2.out.xa.cell 0).trans rfl
  have q1 : w2.cell? ⟨w.heap.size, 1, none⟩ = some (.slice A2 a.mods.length c2) := (HT2.out.xa.cell 1).trans rfl
  have q2 : w2.cell? ⟨w.heap.size, 2, none⟩ = some (.slice A3 a.order.length c3) := (HT2.out.xa.cell 2).trans rfl
  have r0 : w2.cell? ⟨w.heap.size + 1, 0, none⟩ = some (.slice B1 b.names.length d1) := (HT2.out.xb.cell 0).trans rfl
  have r1 : w2.cell? ⟨w.heap.size + 1, 1, none⟩ = some (.slice B2 b.mods.length d2) := (HT2.out.xb.cell 1).trans rfl
  have r2 : w2.cell? ⟨w.heap.size + 1, 2, none⟩ = some (.slice B3 b.order.length d3) := (HT2.out.xb.cell 2).trans rfl
  cases b2
  case true =>
    go_wp2_with fail
    refine (alive_any _).mono ?_
    rintro e w9 ⟨rfl, hb9⟩
    have H9 := Lib.hid (HT2.out.old.trans (hb9.mono HT2.out.old.size))
    clear hb9
    go_wp2_with fail
    go_ret
    exact ⟨rfl, H9.out⟩

  cases hok : imgB a
  case false =>
    have HOk := Lib.hid hok
    have HE := Lib.hid (show encodeL a = [] by unfold encodeL; rw [hok]; rfl)
    clear hok
    go_wp2_with fail
    refine (enc_eq (s := ⟨A1, c1, A2, c2, A3, c3⟩) (i := a) (n := 2) HT2.out.ia HOk.out HE.out rfl).mono ?_
    rintro e w3 ⟨rfl, hb3⟩
    have HT3 := Lib.hid (HT2.out.grow hb3)
    clear hb3 HT2 q0 q1 q2 r0 r1 r2
    have q0 : w3.cell? ⟨w.heap.size, 0, none⟩ = some (.slice A1 a.names.length c1) := (HT3.out.xa.cell 0).trans rfl
    have q1 : w3.cell? ⟨w.heap.size, 1, none⟩ = some (.slice A2 a.mods.length c2) := (HT3.out.xa.cell 1).trans rfl
    have q2 : w3.cell? ⟨w.heap.size, 2, none⟩ = some (.slice A3 a.order.length c3) := (HT3.out.xa.cell 2).trans rfl
    have r0 : w3.cell? ⟨w.heap.size + 1, 0, none⟩ = some (.slice B1 b.names.length d1) := (HT3.out.xb.cell 0).trans rfl
    have r1 : w3.cell? ⟨w.heap.size + 1, 1, none⟩ = some (.slice B2 b.mods.length d2) := (HT3.out.xb.cell 1).trans rfl
    have r2 : w3.cell? ⟨w.heap.size + 1, 2, none⟩ = some (.slice B3 b.order.length d3) := (HT3.out.xb.cell 2).trans rfl

    go_wp2_with fail
    refine (encode_any ⟨B1, d1, B2, d2, B3, d3⟩ b _ HT3.out.ib).mono ?_
    rintro e w4 ⟨rfl, hb4⟩
    have HT4 := Lib.hid (HT3.out.grow hb4)
    clear hb4 HT3 q0 q1 q2 r0 r1 r2
    have q0 : w4.cell? ⟨w.heap.size, 0, none⟩ = some (.slice A1 a.names.length c1) := (HT4.out.xa.cell 0).trans rfl
    have q1 : w4.cell? ⟨w.heap.size, 1, none⟩ = some (.slice A2 a.mods.length c2) := (HT4.out.xa.cell 1).trans rfl
    have q2 : w4.cell? ⟨w.heap.size, 2, none⟩ = some (.slice A3 a.order.length c3) := (HT4.out.xa.cell 2).trans rfl
    have r0 : w4.cell? ⟨w.heap.size + 1, 0, none⟩ = some (.slice B1 b.names.length d1) := (HT4.out.xb.cell 0).trans rfl
    have r1 : w4.cell? ⟨w.heap.size + 1, 1, none⟩ = some (.slice B2 b.mods.length d2) := (HT4.out.xb.cell 1).trans rfl
    have r2 : w4.cell? ⟨w.heap.size + 1, 2, none⟩ = some (.slice B3 b.order.length d3) := (HT4.out.xb.cell 2).trans rfl
    generalize encodeL b = t at *
    generalize errArg (imgB b) = eb at *
    go_wp2_with fail
    refine (imgCheck_eq (s := ⟨A1, c1, A2, c2, A3, c3⟩) (i := a) (n := 2) HT4.out.ia HOk.out rfl).mono ?_
    rintro e w5 ⟨rfl, hb5⟩
    have HT5 := Lib.hid (HT4.out.grow hb5)
    clear hb5 HT4 q0 q1 q2 r0 r1 r2
    go_wp2_with fail
    refine (alive_any _).mono ?_
    rintro e w9 ⟨rfl, hb9⟩
    have H9 := Lib.hid (HT5.out.old.trans (hb9.mono HT5.out.old.size))
    clear hb9
    go_wp2_with fail
    go_ret
    exact ⟨rfl, H9.out⟩

  case true =>
    have HOk := Lib.hid hok
    have HD := Lib.hid (decode_encode a hok HWa.out)
    have HTT := Lib.hid (fun p c hp h => turned_told (p := p) (c := c) hp HD.out.1 h)
    have hsl := encodeL_len hok
    have h12 := HD.out.2.2
    have HInj := Lib.hid (fun hb => encode_inj a b hok hb HWa.out HWb.out)
    clear hok
    generalize hs : encodeL a = s at *
    have HS := Lib.hid hs
    clear hs
    go_wp2_with fail
    refine (enc_eq (s := ⟨A1, c1, A2, c2, A3, c3⟩) (i := a) (n := 0) HT2.out.ia HOk.out HS.out rfl).mono ?_
    rintro e w3 ⟨rfl, hb3⟩
    have HT3 := Lib.hid (HT2.out.grow hb3)
    clear hb3 HT2 q0 q1 q2 r0 r1 r2
    have q0 : w3.cell? ⟨w.heap.size, 0, none⟩ = some (.slice A1 a.names.length c1) := (HT3.out.xa.cell 0).trans rfl
    have q1 : w3.cell? ⟨w.heap.size, 1, none⟩ = some (.slice A2 a.mods.length c2) := (HT3.out.xa.cell 1).trans rfl
    have q2 : w3.cell? ⟨w.heap.size, 2, none⟩ = some (.slice A3 a.order.length c3) := (HT3.out.xa.cell 2).trans rfl
    have r0 : w3.cell? ⟨w.heap.size + 1, 0, none⟩ = some (.slice B1 b.names.length d1) := (HT3.out.xb.cell 0).trans rfl
    have r1 : w3.cell? ⟨w.heap.size + 1, 1, none⟩ = some (.slice B2 b.mods.length d2) := (HT3.out.xb.cell 1).trans rfl
    have r2 : w3.cell? ⟨w.heap.size + 1, 2, none⟩ = some (.slice B3 b.order.length d3) := (HT3.out.xb.cell 2).trans rfl

    cases hokb : imgB b
    case false =>
      have HOkb := Lib.hid hokb
      clear hokb
      generalize ht : encodeL b = t at *
      have HTE := Lib.hid ht
      clear ht
      go_wp2_with fail
      refine (enc_eq (s := ⟨B1, d1, B2, d2, B3, d3⟩) (i := b) (n := 2) HT3.out.ib HOkb.out HTE.out rfl).mono ?_
      rintro e w4 ⟨rfl, hb4⟩
      have HT4 := Lib.hid (HT3.out.grow hb4)
      clear hb4 HT3 q0 q1 q2 r0 r1 r2
      have q0 : w4.cell? ⟨w.heap.size, 0, none⟩ = some (.slice A1 a.names.length c1) := (HT4.out.xa.cell 0).trans rfl
      have q1 : w4.cell? ⟨w.heap.size, 1, none⟩ = some (.slice A2 a.mods.length c2) := (HT4.out.xa.cell 1).trans rfl
      have q2 : w4.cell? ⟨w.heap.size, 2, none⟩ = some (.slice A3 a.order.length c3) := (HT4.out.xa.cell 2).trans rfl
      have r0 : w4.cell? ⟨w.heap.size + 1, 0, none⟩ = some (.slice B1 b.names.length d1) := (HT4.out.xb.cell 0).trans rfl
      have r1 : w4.cell? ⟨w.heap.size + 1, 1, none⟩ = some (.slice B2 b.mods.length d2) := (HT4.out.xb.cell 1).trans rfl
      have r2 : w4.cell? ⟨w.heap.size + 1, 2, none⟩ = some (.slice B3 b.order.length d3) := (HT4.out.xb.cell 2).trans rfl

      go_wp2_with fail
      refine (dec_eq (s := s) (i := a) (er := 0) (by omega) HD.out.2.1 HD.out.1).mono ?_
      rintro e w5 ⟨tx, rfl, hx, hb5⟩
      have HT5 := Lib.hid (HT4.out.grow hb5)
      have HX5 := Lib.hid hx
      clear hb5 hx HT4 q0 q1 q2 r0 r1 r2
      obtain ⟨X1, f1, X2, f2, X3, f3⟩ := tx
      unfold imgV
      have HA := Lib.hid (alloc_below w5 (.cells #[.slice X1 a.names.length f1, .slice X2 a.mods.length f2, .slice X3 a.order.length f3] 28))
      have HT6 := Lib.hid (HT5.out.grow HA.out)
      have HX6 := Lib.hid (HX5.out.later HA.out (Nat.le_refl _))
      have HY6 := Lib.hid (Box.new w5 #[.slice X1 a.names.length f1, .slice X2 a.mods.length f2, .slice X3 a.order.length f3] 28 (by decide))
      clear HA HT5 HX5
      go_upto_region 8 with (fail)
      generalize w5.alloc (.cells #[.slice X1 a.names.length f1, .slice X2 a.mods.length f2, .slice X3 a.order.length f3] 28) = w6 at *
      generalize w5.heap.size = bx at *
      have q0 : w6.cell? ⟨w.heap.size, 0, none⟩ = some (.slice A1 a.names.length c1) := (HT6.out.xa.cell 0).trans rfl
      have q1 : w6.cell? ⟨w.heap.size, 1, none⟩ = some (.slice A2 a.mods.length c2) := (HT6.out.xa.cell 1).trans rfl
      have q2 : w6.cell? ⟨w.heap.size, 2, none⟩ = some (.slice A3 a.order.length c3) := (HT6.out.xa.cell 2).trans rfl
      have r0 : w6.cell? ⟨w.heap.size + 1, 0, none⟩ = some (.slice B1 b.names.length d1) := (HT6.out.xb.cell 0).trans rfl
      have r1 : w6.cell? ⟨w.heap.size + 1, 1, none⟩ = some (.slice B2 b.mods.length d2) := (HT6.out.xb.cell 1).trans rfl
      have r2 : w6.cell? ⟨w.heap.size + 1, 2, none⟩ = some (.slice B3 b.order.length d3) := (HT6.out.xb.cell 2).trans rfl
      have y0 : w6.cell? ⟨bx, 0, none⟩ = some (.slice X1 a.names.length f1) := (HY6.out.cell 0).trans rfl
      have y1 : w6.cell? ⟨bx, 1, none⟩ = some (.slice X2 a.mods.length f2) := (HY6.out.cell 1).trans rfl
      have y2 : w6.cell? ⟨bx, 2, none⟩ = some (.slice X3 a.order.length f3) := (HY6.out.cell 2).trans rfl
      go_wp2_with fail
      refine (refSame_eq (s := ⟨X1, f1, X2, f2, X3, f3⟩) (t := ⟨A1, c1, A2, c2, A3, c3⟩) (i := a) (j := a) (sm := true) HX6.out HT6.out.ia (by simp)).mono ?_
      rintro e w7 ⟨rfl, hb7⟩
      have HT7 := Lib.hid (HT6.out.grow hb7)
      clear hb7 HT6 HX6 HY6 q0 q1 q2 r0 r1 r2 y0 y1 y2
      have q0 : w7.cell? ⟨w.heap.size, 0, none⟩ = some (.slice A1 a.names.length c1) := (HT7.out.xa.cell 0).trans rfl
      have q1 : w7.cell? ⟨w.heap.size, 1, none⟩ = some (.slice A2 a.mods.length c2) := (HT7.out.xa.cell 1).trans rfl
      have q2 : w7.cell? ⟨w.heap.size, 2, none⟩ = some (.slice A3 a.order.length c3) := (HT7.out.xa.cell 2).trans rfl
      have r0 : w7.cell? ⟨w.heap.size + 1, 0, none⟩ = some (.slice B1 b.names.length d1) := (HT7.out.xb.cell 0).trans rfl
      have r1 : w7.cell? ⟨w.heap.size + 1, 1, none⟩ = some (.slice B2 b.mods.length d2) := (HT7.out.xb.cell 1).trans rfl
      have r2 : w7.cell? ⟨w.heap.size + 1, 2, none⟩ = some (.slice B3 b.order.length d3) := (HT7.out.xb.cell 2).trans rfl
      have hcv := Lib.run_convert_string_bytes (P := Try.prog) w7 9 51 5 ⟨s.toArray⟩ Try.underlying9 Try.underlying51 Try.underlying5
      have hsz : (⟨s.toArray⟩ : ByteArray).size = s.length := by simp [ByteArray.size]
      have HO := Lib.hid (ownG_conv w7 s (by omega))
      have HB8 := Lib.hid (bytes_below w7 ⟨s.toArray⟩)
      clear q0 q1 q2 r0 r1 r2
      generalize Lib.bytesWorld w7 5 ⟨s.toArray⟩ = w8 at *
      have hpl : at_ % s.length < s.length := Nat.mod_lt _ (by omega)
      have hp0 : 0 ≤ (at_ : Int) % (s.length : Int) := by omega
      have hp1 : (at_ : Int) % (s.length : Int) < (s.length : Int) := by omega
      have hcell := HO.out.cell hpl
      have hfrz := HO.out.free hpl
      have hgl : w7.heap.size < w8.heap.size := (HO.out.lt _ rfl).2
      go_wp2_with fail
      rw [show (s[at_ % s.length]) = s.getD (at_ % s.length) 0 by simp [List.getD_eq_getElem?_getD, hpl], xor_u8]
      have HO9 := Lib.hid (HO.out.set hpl (s.getD (at_ % s.length) 0 ^^^ by_))
      have HT9 := Lib.hid (HT7.out.grow (setCell_below (a := ⟨w7.heap.size, at_ % s.length, none⟩) (v := .int .u8 (s.getD (at_ % s.length) 0 ^^^ by_).toNat) HB8.out (Nat.le_refl _)))
      have HC9 := Lib.hid HO9.out.conv
      have HP := Lib.hid (fun h => HTT.out (at_ % s.length) (s.getD (at_ % s.length) 0 ^^^ by_) hpl h)
      have HL9 := Lib.hid (show (s.set (at_ % s.length) (s.getD (at_ % s.length) 0 ^^^ by_)).length ≤ 140737488355328 by rw [List.length_set]; omega)
      clear hcell hfrz HO HT7 HB8
      have hcv := HC9.out
      generalize hu : s.set (at_ % s.length) (s.getD (at_ % s.length) 0 ^^^ by_) = u at *
      generalize w8.setCell ⟨w7.heap.size, at_ % s.length, none⟩ (.int .u8 (s.getD (at_ % s.length) 0 ^^^ by_).toNat) = w9 at *
      have HU := Lib.hid hu
      clear hu
      rw [hcv]
      clear hcv
      by_cases hby : by_ = 0
      · subst hby
        have HE : Hid (decodeE u = 0) := Lib.hid (by
          rw [← HU.out]
          have e : s.set (at_ % s.length) (s.getD (at_ % s.length) 0 ^^^ 0) = s := by
            rw [UInt8.xor_zero, List.getD_eq_getElem?_getD, List.getElem?_eq_getElem hpl]
            exact List.set_getElem_self hpl
          rw [e]; exact HD.out.1)
        go_wp2_with fail
        refine (dec_eq (s := u) (i := decodeI u) (er := 0) HL9.out rfl HE.out).mono ?_
        rintro e w10 ⟨ty, rfl, hy, hb10⟩
        have HT10 := Lib.hid (HT9.out.grow hb10)
        clear hb10 hy HT9
        obtain ⟨Y1, g1, Y2, g2, Y3, g3⟩ := ty
        unfold imgV
        have HT11 := Lib.hid (HT10.out.grow (alloc_below w10 (.cells #[.slice Y1 (decodeI u).names.length g1, .slice Y2 (decodeI u).mods.length g2, .slice Y3 (decodeI u).order.length g3] 28)))
        clear HT10
        go_wp2_with fail
        refine (alive_any _).mono ?_
        rintro e w9 ⟨rfl, hb9⟩
        have H9 := Lib.hid (HT11.out.old.trans (hb9.mono HT11.out.old.size))
        clear hb9
        go_wp2_with fail
        go_ret
        exact ⟨rfl, H9.out⟩
      · have HE : Hid ((decodeE u == 0) = false) := Lib.hid (by
          rw [beq_eq_false_iff_ne]
          intro h
          refine hby ?_
          have h1 := HP.out (HU.out ▸ h)
          have h2 : s.getD (at_ % s.length) 0 ^^^ (s.getD (at_ % s.length) 0 ^^^ by_) = s.getD (at_ % s.length) 0 ^^^ s.getD (at_ % s.length) 0 := by rw [h1]
          rwa [← UInt8.xor_assoc, UInt8.xor_self, UInt8.zero_xor] at h2)
        have HB : Hid (((by_.toNat : Int) == 0) = false) := Lib.hid (by
          rw [beq_eq_false_iff_ne]
          intro h
          refine hby (UInt8.toNat_inj.1 ?_)
          simpa using h)
        clear hby
        go_wp2_with fail
        refine (dec_eq (s := u) (i := decodeI u) (er := decodeE u) HL9.out rfl rfl).mono ?_
        rintro e w10 ⟨ty, rfl, hy, hb10⟩
        have HT10 := Lib.hid (HT9.out.grow hb10)
        clear hb10 hy HT9
        obtain ⟨Y1, g1, Y2, g2, Y3, g3⟩ := ty
        unfold imgV
        have HT11 := Lib.hid (HT10.out.grow (alloc_below w10 (.cells #[.slice Y1 (decodeI u).names.length g1, .slice Y2 (decodeI u).mods.length g2, .slice Y3 (decodeI u).order.length g3] 28)))
        clear HT10
        have h1 := HE.out
        have h2 := HB.out
        generalize decodeE u = er at *
        go_wp2_with fail
        refine (alive_any _).mono ?_
        rintro e w9 ⟨rfl, hb9⟩
        have H9 := Lib.hid (HT11.out.old.trans (hb9.mono HT11.out.old.size))
        clear hb9
        go_wp2_with fail
        go_ret
        exact ⟨rfl, H9.out⟩

    case true =>
      have HOkb := Lib.hid hokb
      clear hokb
      generalize ht : encodeL b = t at *
      have HTE := Lib.hid ht
      clear ht
      have HIn2 := Lib.hid (show decide (a = b) = (s == t) by rw [← HInj.out HOkb.out, Bool.eq_iff_iff]; simp)
      clear HInj
      go_wp2_with fail
      refine (enc_eq (s := ⟨B1, d1, B2, d2, B3, d3⟩) (i := b) (n := 0) HT3.out.ib HOkb.out HTE.out rfl).mono ?_
      rintro e w4 ⟨rfl, hb4⟩
      have HT4 := Lib.hid (HT3.out.grow hb4)
      clear hb4 HT3 q0 q1 q2 r0 r1 r2
      have q0 : w4.cell? ⟨w.heap.size, 0, none⟩ = some (.slice A1 a.names.length c1) := (HT4.out.xa.cell 0).trans rfl
      have q1 : w4.cell? ⟨w.heap.size, 1, none⟩ = some (.slice A2 a.mods.length c2) := (HT4.out.xa.cell 1).trans rfl
      have q2 : w4.cell? ⟨w.heap.size, 2, none⟩ = some (.slice A3 a.order.length c3) := (HT4.out.xa.cell 2).trans rfl
      have r0 : w4.cell? ⟨w.heap.size + 1, 0, none⟩ = some (.slice B1 b.names.length d1) := (HT4.out.xb.cell 0).trans rfl
      have r1 : w4.cell? ⟨w.heap.size + 1, 1, none⟩ = some (.slice B2 b.mods.length d2) := (HT4.out.xb.cell 1).trans rfl
      have r2 : w4.cell? ⟨w.heap.size + 1, 2, none⟩ = some (.slice B3 b.order.length d3) := (HT4.out.xb.cell 2).trans rfl

      go_wp2_with fail
      refine (dec_eq (s := s) (i := a) (er := 0) (by omega) HD.out.2.1 HD.out.1).mono ?_
      rintro e w5 ⟨tx, rfl, hx, hb5⟩
      have HT5 := Lib.hid (HT4.out.grow hb5)
      have HX5 := Lib.hid hx
      clear hb5 hx HT4 q0 q1 q2 r0 r1 r2
      obtain ⟨X1, f1, X2, f2, X3, f3⟩ := tx
      unfold imgV
      have HA := Lib.hid (alloc_below w5 (.cells #[.slice X1 a.names.length f1, .slice X2 a.mods.length f2, .slice X3 a.order.length f3] 28))
      have HT6 := Lib.hid (HT5.out.grow HA.out)
      have HX6 := Lib.hid (HX5.out.later HA.out (Nat.le_refl _))
      have HY6 := Lib.hid (Box.new w5 #[.slice X1 a.names.length f1, .slice X2 a.mods.length f2, .slice X3 a.order.length f3] 28 (by decide))
      clear HA HT5 HX5
      go_upto_region 8 with (fail)
      generalize w5.alloc (.cells #[.slice X1 a.names.length f1, .slice X2 a.mods.length f2, .slice X3 a.order.length f3] 28) = w6 at *
      generalize w5.heap.size = bx at *
      have q0 : w6.cell? ⟨w.heap.size, 0, none⟩ = some (.slice A1 a.names.length c1) := (HT6.out.xa.cell 0).trans rfl
      have q1 : w6.cell? ⟨w.heap.size, 1, none⟩ = some (.slice A2 a.mods.length c2) := (HT6.out.xa.cell 1).trans rfl
      have q2 : w6.cell? ⟨w.heap.size, 2, none⟩ = some (.slice A3 a.order.length c3) := (HT6.out.xa.cell 2).trans rfl
      have r0 : w6.cell? ⟨w.heap.size + 1, 0, none⟩ = some (.slice B1 b.names.length d1) := (HT6.out.xb.cell 0).trans rfl
      have r1 : w6.cell? ⟨w.heap.size + 1, 1, none⟩ = some (.slice B2 b.mods.length d2) := (HT6.out.xb.cell 1).trans rfl
      have r2 : w6.cell? ⟨w.heap.size + 1, 2, none⟩ = some (.slice B3 b.order.length d3) := (HT6.out.xb.cell 2).trans rfl
      have y0 : w6.cell? ⟨bx, 0, none⟩ = some (.slice X1 a.names.length f1) := (HY6.out.cell 0).trans rfl
      have y1 : w6.cell? ⟨bx, 1, none⟩ = some (.slice X2 a.mods.length f2) := (HY6.out.cell 1).trans rfl
      have y2 : w6.cell? ⟨bx, 2, none⟩ = some (.slice X3 a.order.length f3) := (HY6.out.cell 2).trans rfl
      go_wp2_with fail
      refine (refSame_eq (s := ⟨X1, f1, X2, f2, X3, f3⟩) (t := ⟨A1, c1, A2, c2, A3, c3⟩) (i := a) (j := a) (sm := true) HX6.out HT6.out.ia (by simp)).mono ?_
      rintro e w7 ⟨rfl, hb7⟩
      have HT7 := Lib.hid (HT6.out.grow hb7)
      clear hb7 HT6 HX6 HY6 q0 q1 q2 r0 r1 r2 y0 y1 y2
      have q0 : w7.cell? ⟨w.heap.size, 0, none⟩ = some (.slice A1 a.names.length c1) := (HT7.out.xa.cell 0).trans rfl
      have q1 : w7.cell? ⟨w.heap.size, 1, none⟩ = some (.slice A2 a.mods.length c2) := (HT7.out.xa.cell 1).trans rfl
      have q2 : w7.cell? ⟨w.heap.size, 2, none⟩ = some (.slice A3 a.order.length c3) := (HT7.out.xa.cell 2).trans rfl
      have r0 : w7.cell? ⟨w.heap.size + 1, 0, none⟩ = some (.slice B1 b.names.length d1) := (HT7.out.xb.cell 0).trans rfl
      have r1 : w7.cell? ⟨w.heap.size + 1, 1, none⟩ = some (.slice B2 b.mods.length d2) := (HT7.out.xb.cell 1).trans rfl
      have r2 : w7.cell? ⟨w.heap.size + 1, 2, none⟩ = some (.slice B3 b.order.length d3) := (HT7.out.xb.cell 2).trans rfl
      go_wp2_with fail
      refine (refSame_eq (s := ⟨A1, c1, A2, c2, A3, c3⟩) (t := ⟨B1, d1, B2, d2, B3, d3⟩) (i := a) (j := b) (sm := s == t) HT7.out.ia HT7.out.ib HIn2.out).mono ?_
      rintro e w8 ⟨rfl, hb8⟩
      have HT8 := Lib.hid (HT7.out.grow hb8)
      clear hb8 HT7 q0 q1 q2 r0 r1 r2
      generalize (s == t) = sm at *
      have q0 : w8.cell? ⟨w.heap.size, 0, none⟩ = some (.slice A1 a.names.length c1) := (HT8.out.xa.cell 0).trans rfl
      have q1 : w8.cell? ⟨w.heap.size, 1, none⟩ = some (.slice A2 a.mods.length c2) := (HT8.out.xa.cell 1).trans rfl
      have q2 : w8.cell? ⟨w.heap.size, 2, none⟩ = some (.slice A3 a.order.length c3) := (HT8.out.xa.cell 2).trans rfl
      have r0 : w8.cell? ⟨w.heap.size + 1, 0, none⟩ = some (.slice B1 b.names.length d1) := (HT8.out.xb.cell 0).trans rfl
      have r1 : w8.cell? ⟨w.heap.size + 1, 1, none⟩ = some (.slice B2 b.mods.length d2) := (HT8.out.xb.cell 1).trans rfl
      have r2 : w8.cell? ⟨w.heap.size + 1, 2, none⟩ = some (.slice B3 b.order.length d3) := (HT8.out.xb.cell 2).trans rfl
      have hcv := Lib.run_convert_string_bytes (P := Try.prog) w8 9 51 5 ⟨s.toArray⟩ Try.underlying9 Try.underlying51 Try.underlying5
      have hsz : (⟨s.toArray⟩ : ByteArray).size = s.length := by simp [ByteArray.size]
      have HO := Lib.hid (ownG_conv w8 s (by omega))
      have HB8b := Lib.hid (bytes_below w8 ⟨s.toArray⟩)
      clear q0 q1 q2 r0 r1 r2
      generalize Lib.bytesWorld w8 5 ⟨s.toArray⟩ = w8b at *
      have hpl : at_ % s.length < s.length := Nat.mod_lt _ (by omega)
      have hp0 : 0 ≤ (at_ : Int) % (s.length : Int) := by omega
      have hp1 : (at_ : Int) % (s.length : Int) < (s.length : Int) := by omega
      have hcell := HO.out.cell hpl
      have hfrz := HO.out.free hpl
      have hgl : w8.heap.size < w8b.heap.size := (HO.out.lt _ rfl).2
      go_wp2_with fail
      rw [show (s[at_ % s.length]) = s.getD (at_ % s.length) 0 by simp [List.getD_eq_getElem?_getD, hpl], xor_u8]
      have HO9 := Lib.hid (HO.out.set hpl (s.getD (at_ % s.length) 0 ^^^ by_))
      have HT9 := Lib.hid (HT8.out.grow (setCell_below (a := ⟨w8.heap.size, at_ % s.length, none⟩) (v := .int .u8 (s.getD (at_ % s.length) 0 ^^^ by_).toNat) HB8b.out (Nat.le_refl _)))
      have HC9 := Lib.hid HO9.out.conv
      have HP := Lib.hid (fun h => HTT.out (at_ % s.length) (s.getD (at_ % s.length) 0 ^^^ by_) hpl h)
      have HL9 := Lib.hid (show (s.set (at_ % s.length) (s.getD (at_ % s.length) 0 ^^^ by_)).length ≤ 140737488355328 by rw [List.length_set]; omega)
      clear hcell hfrz HO HT8 HB8b
      have hcv := HC9.out
      generalize hu : s.set (at_ % s.length) (s.getD (at_ % s.length) 0 ^^^ by_) = u at *
      generalize w8b.setCell ⟨w8.heap.size, at_ % s.length, none⟩ (.int .u8 (s.getD (at_ % s.length) 0 ^^^ by_).toNat) = w9 at *
      have HU := Lib.hid hu
      clear hu
      rw [hcv]
      clear hcv
      by_cases hby : by_ = 0
      · subst hby
        have HE : Hid (decodeE u = 0) := Lib.hid (by
          rw [← HU.out]
          have e : s.set (at_ % s.length) (s.getD (at_ % s.length) 0 ^^^ 0) = s := by
            rw [UInt8.xor_zero, List.getD_eq_getElem?_getD, List.getElem?_eq_getElem hpl]
            exact List.set_getElem_self hpl
          rw [e]; exact HD.out.1)
        go_wp2_with fail
        refine (dec_eq (s := u) (i := decodeI u) (er := 0) HL9.out rfl HE.out).mono ?_
        rintro e w10 ⟨ty, rfl, hy, hb10⟩
        have HT10 := Lib.hid (HT9.out.grow hb10)
        clear hb10 hy HT9
        obtain ⟨Y1, g1, Y2, g2, Y3, g3⟩ := ty
        unfold imgV
        have HT11 := Lib.hid (HT10.out.grow (alloc_below w10 (.cells #[.slice Y1 (decodeI u).names.length g1, .slice Y2 (decodeI u).mods.length g2, .slice Y3 (decodeI u).order.length g3] 28)))
        clear HT10
        go_wp2_with fail
        refine (alive_any _).mono ?_
        rintro e w9 ⟨rfl, hb9⟩
        have H9 := Lib.hid (HT11.out.old.trans (hb9.mono HT11.out.old.size))
        clear hb9
        go_wp2_with fail
        go_ret
        exact ⟨rfl, H9.out⟩
      · have HE : Hid ((decodeE u == 0) = false) := Lib.hid (by
          rw [beq_eq_false_iff_ne]
          intro h
          refine hby ?_
          have h1 := HP.out (HU.out ▸ h)
          have h2 : s.getD (at_ % s.length) 0 ^^^ (s.getD (at_ % s.length) 0 ^^^ by_) = s.getD (at_ % s.length) 0 ^^^ s.getD (at_ % s.length) 0 := by rw [h1]
          rwa [← UInt8.xor_assoc, UInt8.xor_self, UInt8.zero_xor] at h2)
        have HB : Hid (((by_.toNat : Int) == 0) = false) := Lib.hid (by
          rw [beq_eq_false_iff_ne]
          intro h
          refine hby (UInt8.toNat_inj.1 ?_)
          simpa using h)
        clear hby
        go_wp2_with fail
        refine (dec_eq (s := u) (i := decodeI u) (er := decodeE u) HL9.out rfl rfl).mono ?_
        rintro e w10 ⟨ty, rfl, hy, hb10⟩
        have HT10 := Lib.hid (HT9.out.grow hb10)
        clear hb10 hy HT9
        obtain ⟨Y1, g1, Y2, g2, Y3, g3⟩ := ty
        unfold imgV
        have HT11 := Lib.hid (HT10.out.grow (alloc_below w10 (.cells #[.slice Y1 (decodeI u).names.length g1, .slice Y2 (decodeI u).mods.length g2, .slice Y3 (decodeI u).order.length g3] 28)))
        clear HT10
        have h1 := HE.out
        have h2 := HB.out
        generalize decodeE u = er at *
        go_wp2_with fail
        refine (alive_any _).mono ?_
        rintro e w9 ⟨rfl, hb9⟩
        have H9 := Lib.hid (HT11.out.old.trans (hb9.mono HT11.out.old.size))
        clear hb9
        go_wp2_with fail
        go_ret
        exact ⟨rfl, H9.out⟩

end Go.Proofs.Ytckbfocbainlpaa
