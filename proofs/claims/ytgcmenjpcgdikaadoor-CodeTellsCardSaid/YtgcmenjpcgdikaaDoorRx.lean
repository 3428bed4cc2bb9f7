/- An argument of type []api.Ins, opened: its reading gives the instructions that lie there. Condition: what the row itself says of sizes. -/
import Derived.Test.YtgcmenjpcgdikaaDoorRw
import Derived.Test.YtgcmenjpcgdikaaDoorCj
import Derived.Deep.SlicePairs
import Derived.SizedLaws
namespace Go.Proofs.YtgcmenjpcgdikaaDoor
open Go.ChangeShapes Go.WideShapes Go.ChangeAt Go.RowKit Go.Deep
set_option maxRecDepth 100000

theorem cells1 : Tryd.prog.cellsOf 3 = 1 := by kernel_rfl
theorem cellsIns : Tryd.prog.cellsOf 25 = 2 := by kernel_rfl
theorem cellsInts : Tryd.prog.cellsOf 23 = 1 := by kernel_rfl
theorem bytesInt : Tryd.prog.bytesOf 3 = 8 := by kernel_rfl

theorem weights_all {H : Type} {P : Program} {e : TypeId} : ∀ {ds : List (DataW H)} {d : DataW H}, d ∈ ds → ∀ n ∈ d.weights P e, n ∈ DataW.weightsAll P e ds
  | d0 :: ds, d, hd, n, hn => by
    simp only [DataW.weightsAll, List.mem_append]
    rcases List.mem_cons.1 hd with rfl | h
    · exact .inl hn
    · exact .inr (weights_all h n hn)

/-- A list of ints that an argument's cell names. -/
theorem open_arg_ints {H : Type} {enc : TypeId × Value → H} {W : World} {fuel : Nat} {v : Value} {d : DataW H} {p : List MemPlace} (h : DataW.trod enc Tryd.prog W 0 (fun _ => true) true fuel 23 [v] = some (d, p)) (hz : ∀ n ∈ d.weights Tryd.prog 23, n ≤ reachBytes) :
    ∃ A cap xs, v = .slice A xs.length cap ∧ Ints W A xs ∧ xs.length ≤ 17592186044416 := by
  rcases open_ints Tryd.underlying23 Tryd.underlying3 cells1 h with ⟨hcs, _⟩ | ⟨a, len, cap, zs, hcs, _, hl, hm, hall, hx, hcell, _⟩
  · obtain rfl : v = .slice none 0 0 := by simpa using hcs
    exact ⟨none, 0, [], rfl, .inl rfl, by simp⟩
  · obtain rfl : v = .slice (some a) len cap := by simpa using hcs
    simp only [if_true] at hall
    have hlen : (zs.take len).length = len := by simp; omega
    obtain ⟨rfl, _⟩ := Prod.mk.inj hx
    have hw := hz ((lits .i64 (zs.take len) : List (DataW H)).length + (lits .i64 (zs.drop len) : List (DataW H)).length |>.mul (Tryd.prog.bytesOf 3)) (by
      unfold DataW.weights; rw [Tryd.underlying23]; exact List.mem_cons_self ..)
    rw [bytesInt] at hw
    have hw' : (zs.take len).length * 8 ≤ reachBytes := by
      refine Nat.le_trans ?_ hw
      show (zs.take len).length * 8 ≤ ((lits .i64 (zs.take len) : List (DataW H)).length + (lits .i64 (zs.drop len) : List (DataW H)).length) * 8
      simp only [lits, List.length_map]; omega
    have hr := reachBytes_lt
    refine ⟨some a, cap, zs.take len, by rw [hlen], ?_, by omega⟩
    rcases Nat.eq_zero_or_pos len with h0 | h0
    · exact .inl (by simp [h0])
    · obtain ⟨b, off, rfl, hc⟩ := ints_at hcell (by omega)
      refine .inr ⟨b, off, rfl, ?_, fun j hj => ?_⟩
      · have := hc 0 (by omega)
        unfold World.cell? at this
        split at this
        · rename_i he; exact lt_of_get he
        · cases this
      · rw [hlen] at hj
        rw [hc j (by omega)]
        simp [List.getD_eq_getElem?_getD, hj]

theorem open_inss {H : Type} {enc : TypeId × Value → H} {W : World} {fuel : Nat} {A0 : Option Addr} {len0 cap0 : Nat} {d : DataW H} {p : List MemPlace} (h : DataW.trod enc Tryd.prog W 0 (fun _ => true) true fuel 31 [.slice A0 len0 cap0] = some (d, p))
    (hz : ∀ n ∈ d.weights Tryd.prog 31, n ≤ reachBytes) : ∃ l : List InsL, len0 = l.length ∧ Inss W A0 l ∧ (∀ i ∈ l, i.1 < 256) ∧ l.length ≤ 9223372036854775807 := by
  rcases open_slice_pairs Tryd.underlying31 Tryd.underlying25 cellsIns rfl rfl cells8 cellsInts h with ⟨hcs, _⟩ | ⟨a, len, cap, m, n, V0, V1, D0, D1, P0, P1, hcs, _, hl, hm, hmm, hx, hi⟩
  · simp at hcs
    obtain ⟨rfl, rfl, rfl⟩ := hcs
    exact ⟨[], rfl, .inl rfl, by simp, by simp⟩
  · simp at hcs
    obtain ⟨rfl, rfl, rfl⟩ := hcs
    simp only [if_true] at hmm
    unfold maxLen at hm
    obtain ⟨rfl, _⟩ := Prod.mk.inj hx
    have each : ∀ i, i < len0 → ∃ q : InsL, InsAt W a.block (a.off + i * 2) q ∧ q.1 < 256 ∧ a.spot = none ∧ a.block < W.heap.size := by
      intro i hlt
      obtain ⟨c0, c1, t0, t1⟩ := hi i (by omega)
      obtain ⟨z, hv, _, hwf⟩ := DataW.trod_int Tryd.underlying5 t0
      have hv0 : V0 i = .int .u8 z := by simpa using hv
      have hzb := bounds_u8 hwf
      obtain ⟨z, rfl⟩ := Int.eq_ofNat_of_zero_le hzb.1
      obtain ⟨A, cp, xs, hv1, hA, hxl⟩ := open_arg_ints t1 (fun k hk => hz k (by
        unfold DataW.weights
        rw [Tryd.underlying31]
        refine List.mem_cons_of_mem _ (List.mem_append_left _ (weights_all (d := .agg [D0 i, D1 i]) (List.mem_map.2 ⟨i, List.mem_range.2 hlt, rfl⟩) k ?_))
        unfold DataW.weights
        rw [Tryd.underlying25]
        exact DataW.weights_mem_each (j := 1) rfl rfl k hk))
      have h1 : (a.add (i * 2 + 1)) = ⟨a.block, a.off + i * 2 + 1, none⟩ := by unfold Addr.add; rw [if_neg (by omega)]; simp
      have hsp : a.spot = none := by
        obtain ⟨b, off, spot⟩ := a
        have c00 := (hi 0 (by omega)).1
        simpa [Addr.add] using World.cell?_spot c00
      have h0 : (a.add (i * 2)) = ⟨a.block, a.off + i * 2, none⟩ := by
        unfold Addr.add; split
        · rename_i h; rw [h]; cases a; simp_all
        · rfl
      rw [h0, hv0] at c0
      rw [h1, hv1] at c1
      refine ⟨(z, xs), ⟨A, cp, c0, c1, hA, by simp only; omega, hxl⟩, by simp only; omega, hsp, ?_⟩
      unfold World.cell? at c0
      split at c0
      · rename_i he; exact lt_of_get he
      · cases c0
    obtain ⟨f, hf⟩ := choose_lt each
    have hg : ∀ j, j < len0 → ((List.range len0).map f).getD j (0, []) = f j := fun j hj => by simp [List.getD_eq_getElem?_getD, hj]
    refine ⟨(List.range len0).map f, by simp, ?_, ?_, by simp; omega⟩
    · rcases Nat.eq_zero_or_pos len0 with h0 | h0
      · exact .inl (by simp [h0])
      · obtain ⟨_, _, h3, h4⟩ := hf 0 h0
        refine .inr ⟨a.block, a.off, by cases a; simp_all, h4, fun j hj => ?_⟩
        simp only [List.length_map, List.length_range] at hj
        rw [hg j hj]; exact (hf j hj).1
    · intro i hi2
      obtain ⟨j, hj, rfl⟩ := List.mem_map.1 hi2
      exact (hf j (List.mem_range.1 hj)).2.1
end Go.Proofs.YtgcmenjpcgdikaaDoor
