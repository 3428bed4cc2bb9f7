/- image.Decode, where the key is right. Condition: what lies in memory can lie there. -/
import Derived.Test.YtckbfocbainlpaaWb
import Derived.Test.YtckbfocbainlpaaIg
import Derived.Deep.DeepCutAuto
namespace Go.Proofs.Ytckbfocbainlpaa
open Go.RowKit
set_option maxRecDepth 100000

theorem unpack_len {s q : List UInt8} {m : ModL} (h : unpackL s = some (m, q)) : q.length ≤ s.length := by
  unfold unpackL at h
  split at h
  · cases h
  · injection h with h
    injection h with _ h
    rw [← h]
    have z1 : (rawS ⟨s, false⟩ 2).s.length ≤ s.length := rawS_len _ 2
    have z2 : (r2 ⟨s, false⟩).s.length ≤ s.length := Nat.le_trans (rawS_len _ _) z1
    have z3 : (ps ⟨s, false⟩).2.s.length ≤ s.length := Nat.le_trans (listTo_s procR procR_len _ _) (Nat.le_trans (rawS_len _ _) z2)
    have z4 : (is ⟨s, false⟩).2.s.length ≤ s.length := Nat.le_trans (listTo_s impR (fun q => rawS_len q 1) _ _) (Nat.le_trans (rawS_len _ _) z3)
    have z5 : (r7 ⟨s, false⟩).s.length ≤ s.length := Nat.le_trans (rawS_len _ _) z4
    exact Nat.le_trans (listTo_s wordR (fun q => rawS_len q 2) _ _) (Nat.le_trans (rawS_len _ _) z5)
theorem ext_tail (c : UInt8) (t : List UInt8) : ByteArray.extract ⟨(c :: t).toArray⟩ 1 (t.length + 1) = ⟨t.toArray⟩ := by
  rw [ext_at]; simp
theorem ext_cut (c : UInt8) (t : List UInt8) (n : Nat) : ByteArray.extract ⟨(c :: t).toArray⟩ (1 + n) (t.length + 1) = ⟨(t.drop n).toArray⟩ := by
  rw [ext_at, Nat.add_comm 1 n]; simp
theorem ext_name (c : UInt8) (t : List UInt8) (n : Nat) : ByteArray.extract ⟨(c :: t).toArray⟩ 1 (1 + n) = ⟨(t.take n).toArray⟩ := by
  rw [ext_at, Nat.add_comm 1 n]; simp
/-- What holds at the head of each round. -/
structure DL (w : World) (t : List UInt8) (k : Nat) (h : Half) (sm : List (MS × ModL)) (v1 v2 v3 : Value) (W : World) : Prop where
  so : imgTo k t = some h
  names : h.names.length = k
  mods : h.mods = sm.map (·.2)
  n : sm.length = k
  rest : h.rest.length ≤ 140737488355328
  short : ∀ x ∈ h.names, x.length ≤ 255
  di : DI w v1 v2 v3 h.names sm (ordL k) sm W
  box : Box w.heap.size #[v1, v2, v3] 28 W
theorem ordL_length (k : Nat) : (ordL k).length = k := by simp [ordL]
theorem ordL_succ (k : Nat) : ordL (k + 1) = ordL k ++ [(k : Int)] := by simp [ordL, List.range_succ]
theorem own_strs {w : World} {B : Nat} {A : Option Addr} {n cap : Nat} {l : List (List UInt8)} (hl : ∀ x ∈ l, x.length ≤ 255) (h : w.ownsRow B 9 1 (.slice A n cap) l.length (l.flatMap cellsS)) : Strs w A l :=
  own_each (f := cellsS) (c := 1) (P := fun j b o => w.cell? ⟨b, o, none⟩ = some (.string ⟨(l.getD j []).toArray⟩) ∧ (l.getD j []).length ≤ 140737488355328) (fun _ => rfl) h [] fun _ j _ hu => ⟨hu 0 _ rfl, by
    by_cases hj : j < l.length
    · have := hl _ (getD_mem l j [] hj); omega
    · rw [List.getD_eq_getElem?_getD, List.getElem?_eq_none (by omega)]; simp⟩
theorem own_mods {w : World} {B : Nat} {A : Option Addr} {n cap : Nat} {sm : List (MS × ModL)} (hl : ∀ p ∈ sm, ModIn w p.1 p.2) (h : w.ownsRow B 41 5 (.slice A n cap) sm.length (sm.flatMap cellsM)) : Mods w A (sm.map (·.2)) := by
  have := own_each (f := cellsM) (c := 5) (P := fun j b o => j < sm.length → ModAt w b o (sm.getD j default).2) (fun _ => rfl) h default fun _ j _ hu hj => ⟨(sm.getD j default).1, hl _ (getD_mem sm j default hj), hu 0 _ rfl, hu 1 _ rfl, hu 2 _ rfl, hu 3 _ rfl, hu 4 _ rfl⟩
  unfold Mods
  rw [List.length_map]
  rcases this with h0 | ⟨b, off, e, hlt, hc⟩
  · exact .inl h0
  · refine .inr ⟨b, off, e, hlt, fun j hj => ?_⟩
    have := hc j hj hj
    show ModAt w b (off + j * 5) ((sm.map (·.2)).getD j default)
    rwa [show (sm.map (·.2)).getD j default = (sm.getD j default).2 by simp [List.getD_eq_getElem?_getD, hj]]
theorem DL.img {w : World} {t : List UInt8} {k : Nat} {h : Half} {sm : List (MS × ModL)} {A1 A2 A3 : Option Addr} {n1 n2 n3 c1 c2 c3 : Nat} {W : World} (hk : k ≤ 255) (d : DL w t k h sm (.slice A1 n1 c1) (.slice A2 n2 c2) (.slice A3 n3 c3) W) : ImgIn W ⟨A1, c1, A2, c2, A3, c3⟩ (halfI h) ∧ n1 = h.names.length ∧ n2 = h.mods.length ∧ n3 = (ordL h.names.length).length := by
  have e1 := own_n d.di.o1
  have e2 := own_n d.di.o2
  have e3 := own_n d.di.o3
  have hn := d.names
  have hs := d.n
  have hm : h.mods.length = k := by rw [d.mods, List.length_map]; exact hs
  refine ⟨⟨own_strs d.short d.di.o1, ?_, ?_, ?_, ?_, ?_⟩, e1, by omega, by rw [hn]; exact e3⟩
  · show Mods W A2 h.mods
    rw [d.mods]
    exact own_mods (fun p hp => (d.di.mods p hp).1) d.di.o2
  · show Ints W A3 (ordL h.names.length)
    rw [hn]
    exact own_ints d.di.o3
  · show h.names.length ≤ _; omega
  · show h.mods.length ≤ _; omega
  · show (ordL h.names.length).length ≤ _; rw [ordL_length]; omega
end Go.Proofs.Ytckbfocbainlpaa
