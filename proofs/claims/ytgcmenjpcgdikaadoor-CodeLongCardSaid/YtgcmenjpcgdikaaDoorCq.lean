/- code.Size; instructions that a literal lays. -/
import Derived.Test.YtgcmenjpcgdikaaDoorCp
namespace Go.Proofs.YtgcmenjpcgdikaaDoor
open Go.RowKit
set_option maxRecDepth 100000

theorem inss1 {w : World} {b : Nat} {n : Nat} {A : Option Addr} {args : List Int} {cap : Nat} {fr : Nat × Nat} (h : w.heap[b]? = some (.cells #[.int .u8 n, .slice A args.length cap] 25 fr)) (hA : Ints w A args) (hn : n < 256) (hl : args.length ≤ 17592186044416) : Inss w (some ⟨b, 0, none⟩) [(n, args)] := by
  refine .inr ⟨b, 0, rfl, lt_of_get h, fun j hj => ?_⟩
  obtain rfl : j = 0 := by simp at hj; exact hj
  exact ⟨A, cap, by unfold World.cell?; rw [h]; rfl, by unfold World.cell?; rw [h]; rfl, hA, hn, hl⟩
theorem inss2 {w : World} {b : Nat} {n m : Nat} {A A' : Option Addr} {args args' : List Int} {cap cap' : Nat} {fr : Nat × Nat} (h : w.heap[b]? = some (.cells #[.int .u8 n, .slice A args.length cap, .int .u8 m, .slice A' args'.length cap'] 25 fr)) (hA : Ints w A args) (hn : n < 256) (hl : args.length ≤ 17592186044416)
    (hA' : Ints w A' args') (hn' : m < 256) (hl' : args'.length ≤ 17592186044416) : Inss w (some ⟨b, 0, none⟩) [(n, args), (m, args')] := by
  refine .inr ⟨b, 0, rfl, lt_of_get h, fun j hj => ?_⟩
  rcases j with _ | _ | j
  · exact ⟨A, cap, by unfold World.cell?; rw [h]; rfl, by unfold World.cell?; rw [h]; rfl, hA, hn, hl⟩
  · exact ⟨A', cap', by unfold World.cell?; rw [h]; rfl, by unfold World.cell?; rw [h]; rfl, hA', hn', hl'⟩
  · simp at hj; omega
theorem ints_block {w : World} {b : Nat} {xs : List Int} {t : TypeId} {fr : Nat × Nat} (h : w.heap[b]? = some (.cells (xs.map (Value.int .i64)).toArray t fr)) : Ints w (some ⟨b, 0, none⟩) xs := by
  refine .inr ⟨b, 0, rfl, lt_of_get h, fun j hj => ?_⟩
  unfold World.cell?
  rw [h]
  simp [List.getD_eq_getElem?_getD, hj]

set_option maxHeartbeats 400000 in
theorem size_any (n : Nat) (hn : n < 256) (A : Option Addr) (args : List Int) (cap : Nat) (hl : args.length ≤ 17592186044416) (w : World) (ht : Tab w) (hA : Ints w A args) :
    Calls Tryd.prog 18 #[.agg #[.int .u8 n, .slice A args.length cap]] w fun e w' => e = .returned (.int .i64 (encodeL [(n, args)]).1.length) ∧ Below w.heap.size w w' := by
  have hb : Below w.heap.size w ((w.alloc (.cells #[.int .u8 n, .slice A args.length cap] 25)).alloc (.cells #[.int .u8 n, .slice A args.length cap] 25)) := ((Below.refl _ _).alloc (Nat.le_refl _) _).alloc (by simp) _
  have hI : Inss ((w.alloc (.cells #[.int .u8 n, .slice A args.length cap] 25)).alloc (.cells #[.int .u8 n, .slice A args.length cap] 25)) (some ⟨w.heap.size + 1, 0, none⟩) [(n, args)] := by
    have h := heap_alloc_new (w.alloc (.cells #[.int .u8 n, .slice A args.length cap] 25)) (.cells #[.int .u8 n, .slice A args.length cap] 25)
    rw [World.size_alloc] at h
    exact inss1 h (hA.later hb (Nat.le_refl _)) hn hl
  have HI := Lib.hid hI
  have HB := Lib.hid hb
  have hz : ((w.alloc (.cells #[.int .u8 n, .slice A args.length cap] 25)).alloc (.cells #[.int .u8 n, .slice A args.length cap] 25)).heap.size = w.heap.size + 2 := by simp
  have HZ := Lib.hid hz
  clear hI hb hz
  go_enter Tryd.func18, Tryd.ntmps18
  go_wp2_with fail
  refine (encode_any _ [(n, args)] 1 (by simp) _ ((ht.alloc _).alloc _) HI.out).mono ?_
  rintro e w1 ⟨rfl, hb1⟩
  go_wp2_with fail
  go_ret
  exact ⟨by simp, HB.out.trans (hb1.mono (by rw [HZ.out]; omega))⟩

theorem own_addr {w : World} {B : Nat} {e : TypeId} {size : Nat} {v : Value} {n : Nat} {xs : List Value} (h : w.ownsRow B e size v n xs) : ∃ L cap, v = .slice L n cap ∧ (0 < n → ∃ g, L = some ⟨g, 0, none⟩ ∧ g < w.heap.size ∧ ∀ j u, xs[j]? = some u → w.cell? ⟨g, j, none⟩ = some u) := by
  rcases h.2 with ⟨rfl, rfl⟩ | ⟨g, cap, cur, rfl, hB, hh, hrest⟩
  · exact ⟨_, _, rfl, fun h0 => by omega⟩
  · refine ⟨_, cap, rfl, fun _ => ⟨g, rfl, lt_of_get hh, fun j u hu => ?_⟩⟩
    have := h.cells (g := g) rfl j u hu
    rw [← this]
    unfold Addr.add
    split
    · rename_i e; subst e; rfl
    · simp
theorem AllInv.inss {w wr : World} {l : List InsL} {p : List Int} {v2 v3 : Value} (h : AllInv w l p v2 v3 wr) : ∃ L cap, v2 = .slice L l.length cap ∧ Inss wr L l := by
  obtain ⟨xs, h1, h2⟩ := h.row
  obtain ⟨L, cap, e, hc⟩ := own_addr h1
  refine ⟨L, cap, e, ?_⟩
  rcases Nat.eq_zero_or_pos l.length with h0 | h0
  · exact .inl (List.eq_nil_of_length_eq_zero h0)
  · obtain ⟨g, rfl, hlt, hcell⟩ := hc h0
    refine .inr ⟨g, 0, rfl, hlt, fun j hj => ?_⟩
    obtain ⟨A, cap', g1, g2, g3, g4, g5⟩ := h2 j hj
    exact ⟨A, cap', by rw [Nat.zero_add]; exact hcell _ _ g1, by rw [Nat.zero_add]; exact hcell _ _ g2, g3.ints, g4, by omega⟩
theorem ints_own {wr : World} {B : Nat} {v3 : Value} {p : List Int} (h : wr.ownsRow B 3 1 v3 p.length (p.map (Value.int .i64))) : ∃ P cap, v3 = .slice P p.length cap ∧ Ints wr P p := by
  obtain ⟨P, cap, e, hc⟩ := own_addr h
  refine ⟨P, cap, e, ?_⟩
  rcases Nat.eq_zero_or_pos p.length with h0 | h0
  · exact .inl (List.eq_nil_of_length_eq_zero h0)
  · obtain ⟨g, rfl, hlt, hcell⟩ := hc h0
    refine .inr ⟨g, 0, rfl, hlt, fun j hj => ?_⟩
    rw [Nat.zero_add]
    exact hcell j _ (by simp [List.getD_eq_getElem?_getD, hj])
end Go.Proofs.YtgcmenjpcgdikaaDoor
