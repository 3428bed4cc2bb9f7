/- Bytes in memory of the call's own: as the source of an append, as a string. No condition. -/
import Derived.Test.YtckbfocbainlpaaAp
import Derived.Laws.BytesArg
namespace Go.Proofs.Ytckbfocbainlpaa
open Go.RowKit

/-- Bytes as cells. -/
def byteVals (l : List UInt8) : Array Value := (l.map fun b => Value.int .u8 (b.toNat : Int)).toArray
theorem byteVals_length (l : List UInt8) : (byteVals l).toList.length = l.length := by simp [byteVals]
theorem byteVals_one (l : List UInt8) : ∀ u ∈ (byteVals l).toList, u.oneCell' = true := by
  intro u hu
  simp [byteVals] at hu
  obtain ⟨b, _, rfl⟩ := hu
  rfl
theorem byteVals_append (a b : List UInt8) : (byteVals (a ++ b)).toList = (byteVals a).toList ++ (byteVals b).toList := by simp [byteVals]
theorem byteVals_size (l : List UInt8) : (byteVals l).size = l.length * 1 := by simp [byteVals]
theorem byte_info : (Try.prog.info? 5).map (fun i => (i.zero, i.size, i.bytes)) = some (some (.int .u8 0), 1, 1) := by kernel_rfl
theorem etBytes : ET Try.prog 51 5 1 1 := et_of Try.underlying51 byte_info rfl (by omega)
theorem ofNat_int (z : Int) (h0 : 0 ≤ z) (h1 : z < 256) : ((UInt8.ofNat z.toNat).toNat : Int) = z := by
  rw [show (UInt8.ofNat z.toNat).toNat = z.toNat % 256 from UInt8.toNat_ofNat]; omega
theorem byteVals_ofNat (n : Nat) (h : n < 256) : byteVals [UInt8.ofNat n] = #[.int .u8 (n : Int)] := by
  simp only [byteVals, List.map_cons, List.map_nil]; rw [show (UInt8.ofNat n).toNat = n % 256 from UInt8.toNat_ofNat, Nat.mod_eq_of_lt h]
theorem drew_below (w : World) : Below w.heap.size w w.drew := ⟨rfl, rfl, rfl, Nat.le_refl _, fun _ _ => rfl⟩
theorem own_lower {w : World} {B B' : Nat} {e : TypeId} {size : Nat} {v : Value} {n : Nat} {xs : List Value} (h : w.ownsRow B e size v n xs) (hb : B' ≤ B) : w.ownsRow B' e size v n xs := by
  refine ⟨h.1, ?_⟩
  rcases h.2 with hn | ⟨g, cap, cur, rfl, hB, rest⟩
  · exact .inl hn
  · exact .inr ⟨g, cap, cur, rfl, Nat.le_trans hb hB, rest⟩

/-- What the call itself made, as the source of an append. -/
theorem src_own {P : Program} {t e : TypeId} {size bytes : Nat} (E : ET P t e size bytes) {w : World} {B : Nat} {v : Value} {n : Nat} {xs : List Value} (h : w.ownsRow B e size v n xs) (h1 : ∀ u ∈ xs, u.oneCell' = true) : Src P size t v n xs w := by
  have h' := h
  rcases h.2 with ⟨rfl, rfl⟩ | ⟨g, cap, cur, rfl, _⟩
  · have hx : xs = [] := List.eq_nil_of_length_eq_zero (by simpa using h.1)
    subst hx
    exact Src.ofNil w E.und 0
  · exact Src.ofSlice w E.und _ n cap xs h.1 (h'.cells rfl) h1
/-- .. of bytes, as a string. -/
theorem conv_own {w : World} {B : Nat} {v : Value} {l : List UInt8} {n : Nat} (h : w.ownsRow B 5 1 v n (byteVals l).toList) : (convert 51 9 v).run Try.prog w = .ok (.string ⟨l.toArray⟩) w := by
  have h' := h
  rcases h.2 with ⟨rfl, rfl⟩ | ⟨g, cap, cur, rfl, _⟩
  · have hx : l = [] := by
      have := h.1
      rw [byteVals_length] at this
      exact List.eq_nil_of_length_eq_zero (by simpa using this)
    subst hx
    exact run_convert_bytes_nil (P := Try.prog) w 51 5 Try.underlying51 Try.underlying5 0 0 9 Try.underlying9
  · have hn : n = l.length := by
      have := h.1
      rw [byteVals_length] at this
      omega
    subst hn
    rw [run_convert_bytes_string w 51 9 5 _ _ cap Try.underlying51 Try.underlying5 Try.underlying9]
    have hl := run_loadCells_list (P := Try.prog) w ⟨g, 0, none⟩ (byteVals l).toList (h'.cells rfl)
    rw [byteVals_length] at hl
    rw [run_bytesToString w ⟨g, 0, none⟩ l.length cap (l.map fun b => (b.toNat : Int)) (by rw [hl]; simp [byteVals])]
    congr 2
    have : ∀ (m : List UInt8) (r : ByteArray), (m.map fun b => (b.toNat : Int)).foldl (fun r (n : Int) => r.push (UInt8.ofNat n.toNat)) r = ⟨(r.data.toList ++ m).toArray⟩ := by
      intro m
      induction m with
      | nil => intro r; apply ByteArray.ext; simp
      | cons b m ih =>
        intro r
        simp only [List.map_cons, List.foldl_cons]
        rw [ih]
        apply ByteArray.ext
        simp [ByteArray.push]
    rw [this]
    simp [ByteArray.empty, ByteArray.emptyWithCapacity]
    rfl
end Go.Proofs.Ytckbfocbainlpaa
