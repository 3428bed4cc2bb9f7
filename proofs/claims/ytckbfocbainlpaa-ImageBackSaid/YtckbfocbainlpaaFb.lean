/- separatumlaw24.right: bytes with the key that they should have. Condition: what lies in memory can lie there. -/
import Derived.Test.YtckbfocbainlpaaVa
import Derived.Test.YtckbfocbainlpaaOc
import Derived.Test.YtckbfocbainlpaaKb
import Derived.Test.YtckbfocbainlpaaOq
namespace Go.Proofs.Ytckbfocbainlpaa
open Go.RowKit
set_option maxRecDepth 100000

/-- Bytes of the call's own, in a row that may bear the mark of a conversion behind its end. -/
def OwnG (w : World) (base : Nat) (v : Value) (l : List UInt8) : Prop := ∃ g cap cur fz, v = .slice (some ⟨g, 0, none⟩) l.length cap ∧ base ≤ g ∧ w.heap[g]? = some (.cells cur 5 fz) ∧ l.length ≤ cap ∧ cap ≤ maxLen ∧ cur.size = cap ∧ cur.toList.take l.length = (byteVals l).toList ∧ ∀ i, i < cap → ¬ (fz.1 ≤ i ∧ i < fz.2)
theorem OwnG.slice {w : World} {base : Nat} {v : Value} {l : List UInt8} (h : OwnG w base v l) : ∃ A c, v = .slice A l.length c := by
  obtain ⟨g, cap, cur, fz, rfl, _⟩ := h; exact ⟨_, _, rfl⟩
theorem OwnG.lt {w : World} {base : Nat} {v : Value} {l : List UInt8} (h : OwnG w base v l) : ∀ k, v.ownBlock = some k → base ≤ k ∧ k < w.heap.size := by
  obtain ⟨g, cap, cur, fz, rfl, hb, hg, _⟩ := h
  intro k hk
  have : g = k := Option.some.inj hk
  subst this
  exact ⟨hb, lt_of_get hg⟩
theorem OwnG.grow {w w' : World} {base : Nat} {v : Value} {l : List UInt8} (h : OwnG w base v l) (hb : Below w.heap.size w w') : OwnG w' base v l := by
  obtain ⟨g, cap, cur, fz, hv, hB, hg, r⟩ := h
  exact ⟨g, cap, cur, fz, hv, hB, (hb.block g (lt_of_get hg)).trans hg, r⟩
theorem OwnG.conv {w : World} {base : Nat} {v : Value} {l : List UInt8} (h : OwnG w base v l) : (convert 51 9 v).run Try.prog w = .ok (.string ⟨l.toArray⟩) w := by
  obtain ⟨g, cap, cur, fz, rfl, hB, hg, h1, h2, h3, h4, h5⟩ := h
  exact conv_at (o := 0) hg (by rw [List.drop_zero]; exact h4) l.length rfl
theorem ownG_conv (w : World) (s : List UInt8) (hs : s.length ≤ 140737488355328) : OwnG (Lib.bytesWorld w 5 ⟨s.toArray⟩) w.heap.size (.slice (some ⟨w.heap.size, 0, none⟩) s.length (grownCap w s.length 0 5)) s := by
  have hge := grownCap_ge w s.length 0 5
  have hsz : (Lib.bytesCells w 5 ⟨s.toArray⟩).size = grownCap w s.length 0 5 := by
    simp [Lib.bytesCells, ByteArray.size]; omega
  refine ⟨w.heap.size, _, _, _, rfl, Nat.le_refl _, Lib.bytesWorld_at_new w 5 ⟨s.toArray⟩, hge, grownCap_le_maxLen w s.length 0 5 (by unfold maxLen; omega), hsz, ?_, fun i hi h => ?_⟩
  · simp [Lib.bytesCells, byteVals]
  · simp only at h; omega
theorem bytes_below (w : World) (s : ByteArray) : Below w.heap.size w (Lib.bytesWorld w 5 s) := ⟨rfl, rfl, rfl, by rw [Lib.bytesWorld_size]; omega, fun k hk => Lib.bytesWorld_at_old w _ _ k hk⟩
theorem run_appG (w : World) (ty : TypeId) (base : Nat) (v : Value) (l : List UInt8) (hown : OwnG w base v l) {tx : TypeId} (x : Value) (m : List UInt8) (hs : Src Try.prog 1 tx x m.length (byteVals m).toList w)
    (hbytes : l.length + m.length ≤ 140737488355328) (hbase : base ≤ w.heap.size) :
    ∃ v' w', (Builtin.append_ #[51, tx] ty #[v, x]).run Try.prog w = .ok v' w' ∧ OwnG w' base v' (l ++ m) ∧ w.grownBy w' v.ownBlock := by
  obtain ⟨ht, ⟨i, z, hi, hz, hs1, hb1, hzs⟩, hsz⟩ := etBytes
  have h63 : l.length + m.length ≤ maxLen := by unfold maxLen; omega
  obtain ⟨g, cap, cur, fz, rfl, hbg, hg, hnc, hcm, hcs, htake, hfz⟩ := hown
  have hlen : (byteVals (l ++ m)).toList.length = l.length + m.length := by rw [byteVals_length, List.length_append]
  by_cases hroom : l.length + m.length ≤ cap
  · have hr := run_append_room_src (P := Try.prog) w 51 tx ty 5 i ht hi g 0 l.length cap x m.length (byteVals m).toList (by rw [hs1]; exact hs) hroom
      (fun j hj => by
        rw [byteVals_length] at hj
        rw [cell_of_row w g _ cur 5 fz hg, Array.getElem?_eq_getElem (by rw [hs1]; omega)]; rfl)
      (fun j hj => by
        rw [byteVals_length] at hj
        have := hfz (0 + l.length * i.size + j) (by rw [hs1]; omega)
        unfold World.frozen?; rw [hg]
        simp only [Bool.and_eq_false_iff, decide_eq_false_iff_not]
        by_cases hq : fz.1 ≤ 0 + l.length * i.size + j
        · right; intro h; exact this ⟨hq, h⟩
        · left; exact hq)
    simp only [Nat.zero_add] at hr
    rw [hs1, Nat.mul_one] at hr
    obtain ⟨cur', h1, h2, h3⟩ := setCells_block g (byteVals m).toList l.length w cur hg (by rw [byteVals_length]; omega)
    have hk := setCells_kept g (byteVals m).toList l.length w
    refine ⟨_, _, hr, ⟨g, cap, cur', fz, by rw [List.length_append], hbg, h1, by rw [List.length_append]; exact hroom, hcm, by omega, ?_, hfz⟩, ⟨hk.1, hk.2.1, hk.2.2.1, by rw [hk.2.2.2.1]; exact Nat.le_refl _, fun k _ hne => hk.2.2.2.2 k (fun e => hne (by simp [Value.ownBlock, e]))⟩⟩
    rw [List.length_append, byteVals_append, ← htake, ← h3, byteVals_length]
  · have holds : ∀ j u, (byteVals l).toList[j]? = some u → w.cell? ((⟨g, 0, none⟩ : Addr).add j) = some u := fun j u hu => by
      have hadd : (⟨g, 0, none⟩ : Addr).add j = ⟨g, j, none⟩ := by unfold Addr.add; split <;> simp_all
      rw [hadd, cell_of_row w g j cur 5 fz hg]
      rw [← htake, List.getElem?_take] at hu
      split at hu
      · simpa using hu
      · cases hu
    have hr := run_append_grow_src (P := Try.prog) w 51 tx ty 5 i z ht hi hz (some ⟨g, 0, none⟩) l.length cap (byteVals l).toList (run_firstCells_some w.drew i.size l.length ⟨g, 0, none⟩ l.length cap (byteVals l).toList (by rw [byteVals_length, hs1, Nat.mul_one]) (by simpa using holds)) x m.length (byteVals m).toList (by rw [hs1]; exact hs) (by omega) (by omega) (growslice_fits (by omega) (by rw [hb1]; omega))
    have hge := grownCap_ge w (l.length + m.length) cap 5
    refine ⟨_, _, hr, ⟨w.heap.size, _, _, (0, 0), by rw [List.length_append], hbase, heap_alloc_new w.drew _, by rw [List.length_append]; exact hge, grownCap_le_maxLen w (l.length + m.length) cap 5 h63, ?_, ?_, fun j _ h => by simp at h⟩, ⟨rfl, rfl, rfl, by simp, fun k hk _ => Below.heap_alloc w.drew _ k hk⟩⟩
    · simp only [Array.size_append, List.size_toArray, size_zeroCells, hzs, List.length_append, byteVals_length, Nat.mul_one]
      omega
    · simp only [Array.toList_append]
      rw [← byteVals_append, ← byteVals_length (l ++ m)]
      exact List.take_left
theorem wpList_appG {ops : Array Oper} {rest : List Oper} {o : Oper} {a : Act} {w : World} {Q : Exit → Act → World → Prop} {tx : TypeId} (hgd : o.guard = none) (s xo : Operand) (ho : o.op = .call { callee := .builtin .append, args := #[s, xo], argTypes := #[51, tx] })
    (base : Nat) (v : Value) (l : List UInt8) (hsv : a.eval s = v) (hown : OwnG w base v l) (x : Value) (m : List UInt8) (hxv : a.eval xo = x) (hs : Src Try.prog 1 tx x m.length (byteVals m).toList w)
    (hbytes : l.length + m.length ≤ 140737488355328) (hbase : base ≤ w.heap.size)
    (h : ∀ v' w', OwnG w' base v' (l ++ m) → w.grownBy w' v.ownBlock → wpList Try.prog ops Q rest (a.put o.dst v') w') : wpList Try.prog ops Q (o :: rest) a w :=
  wpList_plain hgd fun _ hK => by
    obtain ⟨v', w', hr, hA, hg⟩ := run_appG w o.type base v l hown x m hs hbytes hbase
    unfold Oper.wp execOp
    simp only [ho, resolve, invoke, builtin, Sem.run_bind, Sem.run_pure, Result.andThen_ok, List.map_toArray, List.map_cons, List.map_nil, hsv, hxv, hr]
    exact hK _ _ (h v' w' hA hg)

def rightL (s : List UInt8) : List UInt8 := if s.length < 12 then s else s.take 4 ++ (eightL (keyN (s.drop 12)) ++ s.drop 12)
theorem rightL_short {s : List UInt8} (h : s.length < 12) : rightL s = s := by unfold rightL; rw [if_pos h]
theorem rightL_long {s : List UInt8} (h : ¬ s.length < 12) : rightL s = s.take 4 ++ (eightL (keyN (s.drop 12)) ++ s.drop 12) := by unfold rightL; rw [if_neg h]
theorem eightTake_succ (n k : Nat) (hk : k < 8) : (eightL n).take (k + 1) = (eightL n).take k ++ [UInt8.ofNat (n / 2 ^ (56 - 8 * k) % 256)] := by
  have hl : k < (eightL n).length := by unfold eightL; rw [beN_length]; exact hk
  rw [List.take_succ_eq_append_getElem hl]
  have := beN_get n 8 k hk
  rw [List.getD_eq_getElem?_getD, List.getElem?_eq_getElem (by unfold eightL at hl; exact hl), Option.getD_some] at this
  unfold eightL
  rw [this]
  congr 5
  rw [show (256 : Nat) = 2 ^ 8 from rfl, ← Nat.pow_mul]
  congr 1
  omega
def StrEnd (w : World) (l : List UInt8) (e : Ending) (w' : World) : Prop := e = .returned (.string ⟨l.toArray⟩) ∧ Below w.heap.size w w'
set_option maxHeartbeats 2000000 in
theorem right_any (s : List UInt8) (hs : s.length ≤ 140737488355000) (w : World) : Calls Try.prog 15 #[.string ⟨s.toArray⟩] w (StrEnd w (rightL s)) := by
  by_cases h : s.length < 12
  · have HE := Lib.hid (rightL_short h)
    go_enter Try.func15, Try.ntmps15
    go_wp2_with fail
    go_ret
    rw [HE.out]
    exact ⟨rfl, Below.refl _ _⟩
  have HE := Lib.hid (rightL_long h)
  have hI : (12 : Int) ≤ (s.length : Int) := by omega
  have hI4 : (4 : Int) ≤ (s.length : Int) := by omega
  have hnI : ¬ (s.length : Int) < 12 := by omega
  have x3 := ext_drop s 12
  have x4 := ext_take s 4
  have hl12 : (s.drop 12).length ≤ 140737488355328 := by rw [List.length_drop]; omega
  have hkl := keyN_lt (s.drop 12)
  have h4 : (s.take 4).length = 4 := by rw [List.length_take]; omega
  have hcv := Lib.run_convert_string_bytes (P := Try.prog) w 9 51 5 ⟨(s.take 4).toArray⟩ Try.underlying9 Try.underlying51 Try.underlying5
  have HO := Lib.hid (show OwnG (Lib.bytesWorld w 5 ⟨(s.take 4).toArray⟩) w.heap.size (.slice (some ⟨w.heap.size, 0, none⟩) 4 (grownCap w 4 0 5)) (s.take 4) by have := ownG_conv w (s.take 4) (by omega); rw [h4] at this; exact this)
  have HB := Lib.hid (bytes_below w ⟨(s.take 4).toArray⟩)
  have hsz : (⟨(s.take 4).toArray⟩ : ByteArray).size = (s.take 4).length := by simp [ByteArray.size]
  clear h
  generalize Lib.bytesWorld w 5 ⟨(s.take 4).toArray⟩ = w0 at *
  go_enter Try.func15, Try.ntmps15
  go_wp2_with fail
  refine (keyOf_any (s.drop 12) hl12 _).mono ?_
  rintro e w' ⟨rfl, rfl⟩
  generalize keyN (s.drop 12) = n at *
  have hn : n ≤ 18446744073709551615 := by unfold two64 at hkl; omega
  clear hkl
  go_wp2_with fail
  clear hcv x4
  have HB4 := Lib.hid h4
  generalize s.take 4 = b4 at *
  clear h4
  go_loopg [4, 5] 8 (fun g v i wr => ∃ k : Nat, k + g = 8 ∧ i = .int .i64 k ∧ OwnG wr w.heap.size v (b4 ++ (eightL n).take k) ∧ Below w.heap.size w wr)
  case atStart => exact ⟨0, by omega, rfl, by simpa using HO.out, HB.out⟩
  case round =>
    obtain ⟨k, hk, rfl, hown, hb⟩ := hrel
    have HOw := Lib.hid hown
    have HBw := Lib.hid hb
    obtain ⟨A, cc, hv⟩ := hown.slice
    subst hv
    clear hown
    by_cases hlt : k < 8
    · have hkI : (k : Int) < 8 := by omega
      have HS := Lib.hid (eightTake_succ n k hlt)
      have HU := Lib.hid (show ((UInt8.ofNat (n / 2 ^ (56 - 8 * k) % 256)).toNat : Int) = (n : Int) / 2 ^ (56 - 8 * k) % 256 by
        rw [show (UInt8.ofNat (n / 2 ^ (56 - 8 * k) % 256)).toNat = n / 2 ^ (56 - 8 * k) % 256 % 256 from UInt8.toNat_ofNat, Nat.mod_mod]
        simp)
      have hll : (b4 ++ (eightL n).take k).length ≤ 12 := by rw [List.length_append, List.length_take, HB4.out]; omega
      have HBy := Lib.hid (show byteVals [UInt8.ofNat (n / 2 ^ (56 - 8 * k) % 256)] = #[.int .u8 ((n : Int) / 2 ^ (56 - 8 * k) % 256)] by simp only [byteVals, List.map_cons, List.map_nil]; rw [HU.out])
      have hwz : w.heap.size ≤ wr.heap.size := hb.size
      clear hb
      go_wp2_with (at_builtin; go_loud (refine wpList_appG rfl _ _ rfl w.heap.size _ (b4 ++ (eightL n).take k) rfl (HOw.out.grow (alloc_below _ _)) _ [UInt8.ofNat (n / 2 ^ (56 - 8 * k) % 256)] rfl (by rw [HBy.out]; exact src_new etBytes wr _ _ 1 1 rfl (by simp [Value.oneCell'])) (by simp only [List.length_cons, List.length_nil]; omega) (by simp; omega) ?_); intro v9 w9 hA9 hg9)
      go_roundg (gk - 1)
      case measure => omega
      case rel =>
        refine ⟨k + 1, by omega, by go_num, by rw [HS.out, ← List.append_assoc]; exact hA9, ?_⟩
        exact (HBw.out.alloc (by simpa using hwz) _).grown hg9 (by simp; omega) (fun j hj => (HOw.out.lt j hj).1)
    · obtain rfl : k = 8 := by omega
      have HT := Lib.hid (show (eightL n).take 8 = eightL n from List.take_of_length_le (Nat.le_of_eq (beN_length n 8)))
      rw [HT.out] at HOw ⊢
      have h8 : (eightL n).length = 8 := beN_length _ _
      have hcv := fun x => (HOw.out.grow (growN_below wr x)).conv
      have a1 := addS (b4 ++ eightL n) (s.drop 12) (by rw [List.length_append, HB4.out, h8]; omega)
      clear h8
      go_wp2_with fail
      generalize (b4 ++ eightL n).length = L at hcv ⊢
      clear x3
      have x3 := ext_drop s 12
      refine wp_region_grow (by kernel_rfl) (by kernel_rfl) ?_
      repeat (first | go_big_quiet_step (fail))
      refine wpQuiet_nil ?_
      rintro _ ⟨gx, rfl⟩
      go_wp2_with fail
      go_ret
      rw [HE.out, ← List.append_assoc]
      exact ⟨rfl, HBw.out.trans ((growN_below wr gx).mono HBw.out.size)⟩
end Go.Proofs.Ytckbfocbainlpaa
