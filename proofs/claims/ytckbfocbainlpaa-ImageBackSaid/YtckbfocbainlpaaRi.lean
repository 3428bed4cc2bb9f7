/- An argument of type api.Image, opened: its reading gives the image that lies there. Condition: what the row itself says of sizes. -/
import Derived.Test.YtckbfocbainlpaaRy
import Derived.Test.YtckbfocbainlpaaIa
import Derived.Deep.Slices
import Derived.SizedLaws
import Derived.Lib.SmallJoins
namespace Go.Proofs.Ytckbfocbainlpaa
open Go.ChangeShapes Go.WideShapes Go.ChangeAt Go.RowKit Go.Deep
set_option maxRecDepth 100000

theorem below_of_cell {w : World} {a : Addr} {v : Value} (h : w.cell? a = some v) : a.block < w.heap.size := by
  unfold World.cell? at h
  split at h
  · rename_i he
    rcases Nat.lt_or_ge a.block w.heap.size with h' | h'
    · exact h'
    · rw [Array.getElem?_eq_none h'] at he; cases he
  · cases h
theorem weights_all {H : Type} {P : Program} {e : TypeId} : ∀ {ds : List (DataW H)} {d : DataW H}, d ∈ ds → ∀ n ∈ d.weights P e, n ∈ DataW.weightsAll P e ds
  | d0 :: ds, d, hd, n, hn => by
    simp only [DataW.weightsAll, List.mem_append]
    rcases List.mem_cons.1 hd with rfl | h
    · exact .inl hn
    · exact .inr (weights_all h n hn)
/-- A slice that is read: what each of its elements reads as. -/
theorem open_each {H : Type} {enc : TypeId × Value → H} {P : Program} {W : World} {fuel : Nat} {t e : TypeId} {v : Value} {d : DataW H} {p : List MemPlace} (ht : P.underlying t = some (.slice e)) (hpos : 0 < P.cellsOf e)
    (h : DataW.trod enc P W 0 (fun _ => true) true fuel t [v] = some (d, p)) (hz : ∀ k ∈ d.weights P t, k ≤ reachBytes) :
    ∃ A n cap, v = .slice A n cap ∧ n * P.bytesOf e ≤ reachBytes ∧ n ≤ maxLen ∧ Each W A (P.cellsOf e) n fun _ b o => ∃ cs k D Pl, cs.length = P.cellsOf e ∧ (∀ i, i < P.cellsOf e → W.cell? ⟨b, o + i, none⟩ = cs[i]?) ∧
      DataW.trod enc P W 0 (fun _ => true) true k e cs = some (D, Pl) ∧ ∀ m ∈ D.weights P e, m ≤ reachBytes := by
  rcases open_slice ht h with ⟨hcs, _⟩ | ⟨a, len, cap, m, k, D, Pl, hcs, _, hl, hm, hmm, hx, hi⟩
  · obtain rfl : v = .slice none 0 0 := by simpa using hcs
    exact ⟨none, 0, 0, rfl, by simp, by simp, .inl rfl⟩
  · obtain rfl : v = .slice (some a) len cap := by simpa using hcs
    simp only [if_true] at hmm
    subst hmm
    obtain ⟨rfl, _⟩ := Prod.mk.inj hx
    have hb := hz _ (by unfold DataW.weights; rw [ht]; exact List.mem_cons_self ..)
    refine ⟨some a, len, m, rfl, Nat.le_trans (Nat.mul_le_mul_right _ (by simp)) hb, by omega, ?_⟩
    rcases Nat.eq_zero_or_pos len with h0 | h0
    · exact .inl h0
    · have hsp : a.spot = none ∧ a.block < W.heap.size := by
        obtain ⟨cs, h1, _⟩ := hi 0 (by omega)
        obtain ⟨_, hlen, hc⟩ := World.cells?_some h1
        have hc0 := hc 0 hpos
        rw [List.getElem?_eq_getElem (by omega)] at hc0
        simp only [Nat.zero_mul] at hc0
        refine ⟨?_, ?_⟩
        · have := World.cell?_spot hc0
          simpa [Addr.add] using this
        · have := below_of_cell hc0
          simpa [Addr.add] using this
      obtain ⟨b, off, sp⟩ := a
      obtain ⟨hs1, hs2⟩ := hsp
      simp only at hs1 hs2
      subst hs1
      refine .inr ⟨b, off, rfl, hs2, fun j hj => ?_⟩
      obtain ⟨cs, h1, h2⟩ := hi j (by omega)
      obtain ⟨_, hlen, hc⟩ := World.cells?_some h1
      refine ⟨cs, k, D j, Pl j, hlen, fun i hi2 => ?_, h2, fun w hw => hz w ?_⟩
      · rw [← hc i hi2, add_plain, add_plain]
      · unfold DataW.weights; rw [ht]
        exact List.mem_cons_of_mem _ (List.mem_append_left _ (weights_all (List.mem_map.2 ⟨j, List.mem_range.2 hj, rfl⟩) w hw))
/-- Elements one by one: a list of them. -/
theorem Each.list {α : Type} [Inhabited α] {w : World} {A : Option Addr} {size n : Nat} {P : α → Nat → Nat → Prop} (h : Each w A size n fun _ b o => ∃ x, P x b o) : ∃ l : List α, l.length = n ∧ Each w A size l.length fun j b o => P (l.getD j default) b o := by
  rcases h with h | ⟨b, off, e, hlt, hc⟩
  · exact ⟨[], by simp [h], .inl rfl⟩
  · obtain ⟨f, hf⟩ := choose_lt (p := fun j x => P x b (off + j * size)) hc
    refine ⟨(List.range n).map f, by simp, .inr ⟨b, off, e, hlt, fun j hj => ?_⟩⟩
    simp only [List.length_map, List.length_range] at hj
    have : ((List.range n).map f).getD j default = f j := by simp [List.getD_eq_getElem?_getD, hj]
    rw [this]; exact hf j hj
theorem Each.imp {w : World} {A : Option Addr} {size n : Nat} {P Q : Nat → Nat → Nat → Prop} (h : Each w A size n P) (hPQ : ∀ j b o, P j b o → Q j b o) : Each w A size n Q := by
  rcases h with h | ⟨b, off, e, hlt, hc⟩
  · exact .inl h
  · exact .inr ⟨b, off, e, hlt, fun j hj => hPQ j b _ (hc j hj)⟩

theorem cells_int : Try.prog.cellsOf 3 = 1 := by kernel_rfl
theorem cells_u16 : Try.prog.cellsOf 50 = 1 := by kernel_rfl
theorem cells_str : Try.prog.cellsOf 9 = 1 := by kernel_rfl
theorem cells_proc : Try.prog.cellsOf 90 = 6 := by kernel_rfl
theorem cells_mod : Try.prog.cellsOf 41 = 5 := by kernel_rfl
theorem cells_img : Try.prog.cellsOf 28 = 3 := by kernel_rfl
theorem cells_prg : Try.prog.cellsOf 26 = 2 := by kernel_rfl
theorem cells_ints : Try.prog.cellsOf 24 = 1 := by kernel_rfl
theorem cells_words : Try.prog.cellsOf 39 = 1 := by kernel_rfl
theorem cells_procs : Try.prog.cellsOf 38 = 1 := by kernel_rfl
theorem cells_strs : Try.prog.cellsOf 22 = 1 := by kernel_rfl
theorem cells_mods : Try.prog.cellsOf 23 = 1 := by kernel_rfl
theorem cells_bool : Try.prog.cellsOf 4 = 1 := by kernel_rfl
theorem bytes_int : Try.prog.bytesOf 3 = 8 := by kernel_rfl
theorem bytes_u16 : Try.prog.bytesOf 50 = 2 := by kernel_rfl
theorem bytes_proc : 0 < Try.prog.bytesOf 90 := by decide +kernel
theorem bytes_mod : 0 < Try.prog.bytesOf 41 := by decide +kernel
theorem bytes_str : 0 < Try.prog.bytesOf 9 := by decide +kernel
theorem le_of_mul {n k : Nat} (hk : 0 < k) (h : n * k ≤ reachBytes) : n ≤ 140737488355328 := by
  have hr := reachBytes_lt
  have := Nat.le_mul_of_pos_right n hk
  omega

section
variable {H : Type} {enc : TypeId × Value → H} {W : World} {fuel : Nat} {v : Value} {d : DataW H} {p : List MemPlace}
theorem open_arg_ints (h : DataW.trod enc Try.prog W 0 (fun _ => true) true fuel 24 [v] = some (d, p)) (hz : ∀ n ∈ d.weights Try.prog 24, n ≤ reachBytes) :
    ∃ A cap xs, v = .slice A xs.length cap ∧ Ints W A xs ∧ xs.length ≤ 140737488355328 := by
  obtain ⟨A, n, cap, rfl, hn, _, he⟩ := open_each Try.underlying24 (by rw [cells_int]; omega) h hz
  rw [cells_int] at he
  obtain ⟨l, rfl, hl⟩ := (he.imp (Q := fun _ b o => ∃ x : Int, W.cell? ⟨b, o, none⟩ = some (.int .i64 x)) fun _ b o hx => by
    obtain ⟨cs, k, D, Pl, hlen, hc, ht, _⟩ := hx
    obtain ⟨x, rfl, _⟩ := DataW.trod_int Try.underlying3 ht
    exact ⟨x, hc 0 (by omega)⟩).list (P := fun x b o => W.cell? ⟨b, o, none⟩ = some (.int .i64 x))
  exact ⟨A, cap, l, rfl, hl, le_of_mul (by rw [bytes_int]; omega) hn⟩
theorem open_arg_words (h : DataW.trod enc Try.prog W 0 (fun _ => true) true fuel 39 [v] = some (d, p)) (hz : ∀ n ∈ d.weights Try.prog 39, n ≤ reachBytes) :
    ∃ A cap xs, v = .slice A xs.length cap ∧ Words W A xs ∧ xs.length ≤ 140737488355328 := by
  obtain ⟨A, n, cap, rfl, hn, _, he⟩ := open_each Try.underlying39 (by rw [cells_u16]; omega) h hz
  rw [cells_u16] at he
  obtain ⟨l, rfl, hl⟩ := (he.imp (Q := fun _ b o => ∃ x : Nat, W.cell? ⟨b, o, none⟩ = some (.int .u16 x) ∧ x < 65536) fun _ b o hx => by
    obtain ⟨cs, k, D, Pl, hlen, hc, ht, _⟩ := hx
    obtain ⟨x, rfl, _, hwf⟩ := DataW.trod_int Try.underlying50 ht
    have hb := bounds_u16 hwf
    obtain ⟨x, rfl⟩ := Int.eq_ofNat_of_zero_le hb.1
    exact ⟨x, hc 0 (by omega), by omega⟩).list (P := fun x b o => W.cell? ⟨b, o, none⟩ = some (.int .u16 (x : Nat)) ∧ x < 65536)
  exact ⟨A, cap, l, rfl, hl, le_of_mul (by rw [bytes_u16]; omega) hn⟩
theorem open_arg_strs (h : DataW.trod enc Try.prog W 0 (fun _ => true) true fuel 22 [v] = some (d, p)) (hz : ∀ n ∈ d.weights Try.prog 22, n ≤ reachBytes) :
    ∃ A cap xs, v = .slice A xs.length cap ∧ Strs W A xs ∧ xs.length ≤ 140737488355328 := by
  obtain ⟨A, n, cap, rfl, hn, _, he⟩ := open_each Try.underlying22 (by rw [cells_str]; omega) h hz
  rw [cells_str] at he
  obtain ⟨l, rfl, hl⟩ := (he.imp (Q := fun _ b o => ∃ x : List UInt8, W.cell? ⟨b, o, none⟩ = some (.string ⟨x.toArray⟩) ∧ x.length ≤ 140737488355328) fun _ b o hx => by
    obtain ⟨cs, k, D, Pl, hlen, hc, ht, hw⟩ := hx
    obtain ⟨s, rfl, hx, _⟩ := DataW.trod_string Try.underlying9 ht
    obtain ⟨⟨s⟩⟩ := s
    obtain ⟨rfl, _⟩ := Prod.mk.inj hx
    refine ⟨s, hc 0 (by omega), ?_⟩
    have h1 := hw s.length (by unfold DataW.weights; simp)
    have hr := reachBytes_lt
    omega).list (P := fun (x : List UInt8) b o => W.cell? ⟨b, o, none⟩ = some (.string ⟨x.toArray⟩) ∧ x.length ≤ 140737488355328)
  exact ⟨A, cap, l, rfl, hl, le_of_mul bytes_str hn⟩
/-- A struct that is read: its fields one by one. -/
theorem open_fields {P : Program} {t : TypeId} {fs : Array Field} {cs : List Value} {spare : Nat → Bool} {held : Bool} {base : Nat} (ht : P.underlying t = some (.struct fs)) (h : DataW.trod enc P W base spare held fuel t cs = some (d, p)) (hz : ∀ k ∈ d.weights P t, k ≤ reachBytes) :
    cs.length = P.cellsOf t ∧ ∀ (i : Nat) (u : TypeId) (o : Nat), (fs[i]?).map (fun f => (f.type, f.offset)) = some (u, o) → ∃ n D Pl, DataW.trod enc P W base spare held n u ((cs.drop o).take (P.cellsOf u)) = some (D, Pl) ∧ ∀ k ∈ D.weights P u, k ≤ reachBytes := by
  obtain ⟨xs, n, _, hx, hl, hlen, hf⟩ := DataW.trod_struct ht h
  obtain ⟨rfl, _⟩ := Prod.mk.inj hx
  refine ⟨hl, fun i u o hio => ?_⟩
  obtain ⟨f, hi, huo⟩ := Option.map_eq_some_iff.1 hio
  obtain ⟨rfl, rfl⟩ := Prod.mk.inj huo
  have h1 := hf i f hi
  have hi2 : i < xs.length := by
    rw [hlen]
    rcases Nat.lt_or_ge i fs.size with h' | h'
    · exact h'
    · rw [Array.getElem?_eq_none h'] at hi; cases hi
  rw [List.getElem?_eq_getElem hi2] at h1
  refine ⟨n, (xs[i]).1, (xs[i]).2, h1, fun k hk => hz k ?_⟩
  unfold DataW.weights
  rw [ht]
  refine DataW.weights_mem_each (j := i) (t := f.type) (d := (xs[i]).1) ?_ ?_ k hk
  · simp [hi]
  · simp [hi2]
theorem open_arg_procs (h : DataW.trod enc Try.prog W 0 (fun _ => true) true fuel 38 [v] = some (d, p)) (hz : ∀ n ∈ d.weights Try.prog 38, n ≤ reachBytes) :
    ∃ A cap xs, v = .slice A xs.length cap ∧ Procs W A xs ∧ xs.length ≤ 140737488355328 := by
  obtain ⟨A, n, cap, rfl, hn, _, he⟩ := open_each Try.underlying38 (by rw [cells_proc]; omega) h hz
  rw [cells_proc] at he
  obtain ⟨l, rfl, hl⟩ := (he.imp (Q := fun _ b o => ∃ x : ProcL, ProcAt W b o x) fun _ b o hx => by
    obtain ⟨cs, k, D, Pl, hlen, hc, ht, hw⟩ := hx
    obtain ⟨_, hf⟩ := open_fields Try.underlying90 ht hw
    obtain ⟨n0, D0, P0, t0, _⟩ := hf 0 3 0 rfl
    obtain ⟨n1, D1, P1, t1, _⟩ := hf 1 3 1 rfl
    obtain ⟨n2, D2, P2, t2, _⟩ := hf 2 3 2 rfl
    obtain ⟨n3, D3, P3, t3, _⟩ := hf 3 3 3 rfl
    obtain ⟨n4, D4, P4, t4, _⟩ := hf 4 3 4 rfl
    obtain ⟨n5, D5, P5, t5, _⟩ := hf 5 4 5 rfl
    obtain ⟨x0, e0, _⟩ := DataW.trod_int Try.underlying3 t0
    obtain ⟨x1, e1, _⟩ := DataW.trod_int Try.underlying3 t1
    obtain ⟨x2, e2, _⟩ := DataW.trod_int Try.underlying3 t2
    obtain ⟨x3, e3, _⟩ := DataW.trod_int Try.underlying3 t3
    obtain ⟨x4, e4, _⟩ := DataW.trod_int Try.underlying3 t4
    obtain ⟨x5, e5, _⟩ := DataW.trod_bool Try.underlying4 t5
    match cs, hlen with
    | [y0, y1, y2, y3, y4, y5], _ =>
      simp only [cells_int, cells_bool, List.drop, List.take, List.cons.injEq, and_true] at e0 e1 e2 e3 e4 e5
      subst e0 e1 e2 e3 e4 e5
      exact ⟨⟨x0, x1, x2, x3, x4, x5⟩, hc 0 (by omega), hc 1 (by omega), hc 2 (by omega), hc 3 (by omega), hc 4 (by omega), hc 5 (by omega)⟩).list (P := fun (x : ProcL) b o => ProcAt W b o x)
  exact ⟨A, cap, l, rfl, hl, le_of_mul bytes_proc hn⟩
theorem open_arg_mods (h : DataW.trod enc Try.prog W 0 (fun _ => true) true fuel 23 [v] = some (d, p)) (hz : ∀ n ∈ d.weights Try.prog 23, n ≤ reachBytes) :
    ∃ A cap xs, v = .slice A xs.length cap ∧ Mods W A xs ∧ xs.length ≤ 140737488355328 := by
  obtain ⟨A, n, cap, rfl, hn, _, he⟩ := open_each Try.underlying23 (by rw [cells_mod]; omega) h hz
  rw [cells_mod] at he
  obtain ⟨l, rfl, hl⟩ := (he.imp (Q := fun _ b o => ∃ x : ModL, ModAt W b o x) fun _ b o hx => by
    obtain ⟨cs, k, D, Pl, hlen, hc, ht, hw⟩ := hx
    obtain ⟨_, hf⟩ := open_fields Try.underlying41 ht hw
    obtain ⟨n0, D0, P0, t0, z0⟩ := hf 0 9 0 rfl
    obtain ⟨n1, D1, P1, t1, z1⟩ := hf 1 38 1 rfl
    obtain ⟨n2, D2, P2, t2, z2⟩ := hf 2 24 2 rfl
    obtain ⟨n3, D3, P3, t3, _⟩ := hf 3 3 3 rfl
    obtain ⟨n4, D4, P4, t4, z4⟩ := hf 4 39 4 rfl
    match cs, hlen with
    | [y0, y1, y2, y3, y4], _ =>
      simp only [cells_str, cells_int, cells_procs, cells_ints, cells_words, List.drop, List.take] at t0 t1 t2 t3 t4
      obtain ⟨s, e0, hx, _⟩ := DataW.trod_string Try.underlying9 t0
      obtain ⟨⟨s⟩⟩ := s
      obtain ⟨rfl, _⟩ := Prod.mk.inj hx
      have h0 := z0 s.length (by unfold DataW.weights; simp)
      have hr := reachBytes_lt
      obtain ⟨A1, c1, ps, rfl, hp, hpl⟩ := open_arg_procs t1 z1
      obtain ⟨A2, c2, is, rfl, hi, hil⟩ := open_arg_ints t2 z2
      obtain ⟨x3, e3, _⟩ := DataW.trod_int Try.underlying3 t3
      obtain ⟨A3, c3, ws, rfl, hws, hwl⟩ := open_arg_words t4 z4
      simp only [List.cons.injEq, and_true] at e0 e3
      subst e0 e3
      exact ⟨⟨s, ps, is, x3, ws⟩, ⟨A1, c1, A2, c2, A3, c3⟩, ⟨hp, hi, hws, by simp only; omega, hpl, hil, hwl⟩, hc 0 (by omega), hc 1 (by omega), hc 2 (by omega), hc 3 (by omega), hc 4 (by omega)⟩).list (P := fun (x : ModL) b o => ModAt W b o x)
  exact ⟨A, cap, l, rfl, hl, le_of_mul bytes_mod hn⟩
end
/-- An argument that is an image, opened. -/
theorem open_img {H : Type} {enc : TypeId × Value → H} {W : World} {r : Reach} {b0 : Nat} {v : Value} {d : DataW H} {p : List MemPlace} (hv : Value.okWide Try.prog W r b0 28 v) (h : DataW.Trod enc Try.prog W 0 (fun _ => true) true 28 v d p) (hz : ∀ n ∈ d.weights Try.prog 28, n ≤ reachBytes) :
    ∃ s i, v = imgV s i ∧ ImgIn W s i := by
  obtain ⟨cs, rfl, hsz⟩ := okWide_struct Try.underlying28 hv
  rw [cells_img] at hsz
  obtain ⟨c0, c1, c2, rfl⟩ := Joins.array3 hsz
  obtain ⟨fuel, hf⟩ := h
  obtain ⟨_, hf⟩ := open_fields Try.underlying28 hf hz
  obtain ⟨n0, D0, P0, t0, z0⟩ := hf 0 22 0 rfl
  obtain ⟨n1, D1, P1, t1, z1⟩ := hf 1 26 1 rfl
  obtain ⟨_, hg⟩ := open_fields Try.underlying26 t1 z1
  obtain ⟨n2, D2, P2, t2, z2⟩ := hg 0 23 0 rfl
  obtain ⟨n3, D3, P3, t3, z3⟩ := hg 1 24 1 rfl
  simp only [Value.cells, cells_strs, cells_prg, cells_mods, cells_ints, List.drop, List.take] at t0 t2 t3
  obtain ⟨A1, c1, ns, rfl, hn, hnl⟩ := open_arg_strs t0 z0
  obtain ⟨A2, c2, ms, rfl, hm, hml⟩ := open_arg_mods t2 z2
  obtain ⟨A3, c3, os, rfl, ho, hol⟩ := open_arg_ints t3 z3
  exact ⟨⟨A1, c1, A2, c2, A3, c3⟩, ⟨ns, ms, os⟩, rfl, ⟨hn, hm, ho, hnl, hml, hol⟩⟩
end Go.Proofs.Ytckbfocbainlpaa
