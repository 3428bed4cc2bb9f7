/- A machine's step. A machine's step, for the instructions that small programs have. Condition: what lies in memory can lie there; what each theorem says. -/
import Derived.Test.YtabenhpjgjjgnaaGreatDoorBan
import Derived.Deep.DeepCutAuto
/- A machine's step. -/
namespace Go.Proofs.YtabenhpjgjjgnaaGreatDoor
open Go.RowKit
set_option maxRecDepth 100000
attribute [local go_sem ↓] Go.wp_at_zero Go.wp_at_succ
theorem own_ints_mask {w : World} {B : Nat} {v : Value} {xs : List Int} (h : w.ownsRow B 3 1 v xs.length (xs.map (Value.int .i64))) (bs : List Nat) (hb : ∀ b ∈ bs, b < B) : ∃ A c, v = .slice A xs.length c ∧ Ints (mask bs w) A xs ∧ xs.length ≤ c := by
 have h' := h
 rcases h.2 with ⟨hv, hx⟩ | ⟨g, cap, cur, hv, hB, hg, hcap, _⟩
 ·exact ⟨none, 0, by rw [hv, hx], .inl hx, by omega⟩
 ·subst hv
  refine ⟨_, _, rfl, ?_, hcap⟩
  have hn : g ∉ bs := fun hm => by have := hb g hm; omega
  have hlt : g < w.heap.size := by
   rcases Nat.lt_or_ge g w.heap.size with h1 | h1
   ·exact h1
   ·rw [Array.getElem?_eq_none h1] at hg; cases hg
  refine .inr ⟨g, 0, rfl, by rw [mask_size]; exact hlt, fun j hj => ?_⟩
  have hc : (mask bs w).cell? ⟨g, 0 + j * 1, none⟩ = w.cell? ⟨g, 0 + j * 1, none⟩ := by
   unfold World.cell?
   rw [mask_at _ _ hn]
  show (mask bs w).cell? _ = _
  rw [hc]
  have := h'.cells (g := g) rfl j (.int .i64 (xs.getD j 0)) (by simp [List.getD_eq_getElem?_getD, hj])
  rw [WideShapes.add_plain] at this
  simpa using this
theorem code_le {K : MK} {S : St} (k : KOk K) (s : SOk K S) : (modOf K S).code.length ≤ 65535 := by
 have h := k.may
 unfold checkB at h
 simp only [Bool.and_eq_true] at h
 have h1 := List.all_eq_true.1 h.1.1.2 _ (modOf_mem s.toROk)
 unfold modB headB at h1
 simp only [Bool.and_eq_true, Bool.not_eq_true', decide_eq_false_iff_not] at h1
 omega
theorem Ints.less {bs : List Nat} {b : Nat} {w : World} {A : Option Addr} {xs : List Int} (h : Ints (mask (b :: bs) w) A xs) : Ints (mask bs w) A xs := by
 refine h.reads ⟨fun k o v hc => ?_, by rw [mask_size, mask_size]; exact Nat.le_refl _⟩
 have hk := mask_notin hc
 simp only [List.mem_cons, not_or] at hk
 have hc' := mask_cell hc
 unfold World.cell? at hc' ⊢
 rw [mask_at bs w hk.2]; exact hc'
theorem ints_set2 {bs : List Nat} {p : Nat} {w : World} {A : Option Addr} {xs : List Int} (h : Ints (mask (p :: bs) w) A xs) {u v : Value} : Ints (mask bs ((w.setCell ⟨p, 0, none⟩ u).setCell ⟨p, 1, none⟩ v)) A xs := by
 refine Ints.less (b := p) ?_
 rw [mask_setCell (by simp), mask_setCell (by simp)]
 exact h
theorem cell_set_ne (w : World) {b i x o : Nat} (v : Value) (h : x ≠ b) : (w.setCell ⟨b, i, none⟩ v).cell? ⟨x, o, none⟩ = w.cell? ⟨x, o, none⟩ := World.cell?_of_block (w := w) (Below.heap_setCell w ⟨b, i, none⟩ v x h)
theorem cell_set_at (w : World) {b i o : Nat} (v : Value) (h : o ≠ i) : (w.setCell ⟨b, i, none⟩ v).cell? ⟨b, o, none⟩ = w.cell? ⟨b, o, none⟩ := by
 unfold World.cell? World.setCell
 simp only [Array.getElem?_modify, if_true]
 cases w.heap[b]? with
 | none => rfl
 | some x => cases x <;> simp [Array.getElem?_setIfInBounds_ne (Ne.symm h)]
def slot (a : Act) (i : Nat) : Value := a.tmps.getD i undef
theorem act_lit (a : Act) (h : a.tmps.size = 155) : a = ⟨#[slot a 0, slot a 1, slot a 2, slot a 3, slot a 4, slot a 5, slot a 6, slot a 7, slot a 8, slot a 9, slot a 10, slot a 11, slot a 12, slot a 13, slot a 14, slot a 15, slot a 16, slot a 17, slot a 18, slot a 19, slot a 20, slot a 21, slot a 22, slot a 23, slot a 24, slot a 25, slot a 26, slot a 27, slot a 28, slot a 29, slot a 30, slot a 31, slot a 32, slot a 33, slot a 34, slot a 35, slot a 36, slot a 37, slot a 38, slot a 39, slot a 40, slot a 41, slot a 42, slot a 43, slot a 44, slot a 45, slot a 46, slot a 47, slot a 48, slot a 49, slot a 50, slot a 51, slot a 52, slot a 53, slot a 54, slot a 55, slot a 56, slot a 57, slot a 58, slot a 59, slot a 60, slot a 61, slot a 62, slot a 63, slot a 64, slot a 65, slot a 66, slot a 67, slot a 68, slot a 69, slot a 70, slot a 71, slot a 72, slot a 73, slot a 74, slot a 75, slot a 76, slot a 77, slot a 78, slot a 79, slot a 80, slot a 81, slot a 82, slot a 83, slot a 84, slot a 85, slot a 86, slot a 87, slot a 88, slot a 89, slot a 90, slot a 91, slot a 92, slot a 93, slot a 94, slot a 95, slot a 96, slot a 97, slot a 98, slot a 99, slot a 100, slot a 101, slot a 102, slot a 103, slot a 104, slot a 105, slot a 106, slot a 107, slot a 108, slot a 109, slot a 110, slot a 111, slot a 112, slot a 113, slot a 114, slot a 115, slot a 116, slot a 117, slot a 118, slot a 119, slot a 120, slot a 121, slot a 122, slot a 123, slot a 124, slot a 125, slot a 126, slot a 127, slot a 128, slot a 129, slot a 130, slot a 131, slot a 132, slot a 133, slot a 134, slot a 135, slot a 136, slot a 137, slot a 138, slot a 139, slot a 140, slot a 141, slot a 142, slot a 143, slot a 144, slot a 145, slot a 146, slot a 147, slot a 148, slot a 149, slot a 150, slot a 151, slot a 152, slot a 153, slot a 154], a.defers⟩ := by
 obtain ⟨⟨l⟩, d⟩ := a
 have hl : l.length = 155 := h
 have e : l = (List.range 155).map fun i => l.getD i undef := by
  apply List.ext_getElem
  ·simp [hl]
  ·intro i h1 h2
   simp [List.getD_eq_getElem?_getD, h1]
 have e2 : ∀ i, slot ⟨⟨l⟩, d⟩ i = l.getD i undef := fun i => by simp [slot, Array.getD_eq_getD_getElem?, List.getD_eq_getElem?_getD]
 simp only [e2]
 congr 1
 conv => lhs; rw [e]
 rfl
theorem dec_there {s : List UInt8} {a : Int} {op : Nat} {ar : List Int} {nx : Int} (h : K16.decodeL s a = ((op, ar), nx, 0)) : op < 256 ∧ K16.thereB op = true := by
 unfold K16.decodeL at h
 split at h
 ·simp at h
 ·split at h
  ·simp at h
  ·rename_i h2
   split at h
   ·simp at h
   ·simp only [Prod.mk.injEq] at h
    rw [← h.1.1]
    exact ⟨(s.getD a.toNat 0).toNat_lt, by simpa using h2⟩
theorem rep_false (n i : Nat) : (Array.replicate n false).getD i false = false := by
 rcases Nat.lt_or_ge i n with h | h
 ·simp [h]
 ·simp [h]
def CallsV (v : Value) (w : World) (R : Ending → World → Prop) : Prop := ∃ (f : Nat) (b c : Array Value), v = .func (.func f) b c ∧ (∀ (vs : Array Value) (w : World), (callFunc f vs).run Tryz.prog w = .ok (.enter f vs) w) ∧ Calls Tryz.prog f (b ++ c) w R
theorem key_there : ∀ n, n < 256 → K16.thereB n = true → takesN n = 0 → (kinds.any fun k => k.key == some n) = true := by decide +kernel
def StepA (K : MK) (w0 : World) (r : K16.InsL × Int × Int) (u v x : Value) (w' : World) : Prop := ∃ (p : Nat) (A : Option Addr) (c : Nat), u = .pointer (some ⟨p, 0, none⟩) ∧ v = .int .i64 r.2.1 ∧ x = .int .i64 r.2.2 ∧ w0.heap.size ≤ p ∧
 Bx p #[.int .u8 r.1.1, .slice A r.1.2.length c] 47 w' ∧ Ints (mask K.bs w') A r.1.2 ∧ Below w0.heap.size w0 w' ∧ r.1.2.length ≤ c
set_option maxHeartbeats 4000000 in
theorem step_any (K : MK) (k : KOk K) (S : St) (s : SOk K S) (op : Nat) (ar : List Int) (nx er : Int) (hd : K16.decodeL (modOf K S).code S.at_ = ((op, ar), nx, er)) (W : World) (h : At K S W) (hen : ∀ W', Only K.bs W W' → Env W') (res : St × Nat)
 (g1 : er ≠ 0 → res = (S, 12))
 (g2 : er = 0 → takesN op ≠ 0 → ∀ w', At K { S with next := nx, args := ar } w' → Only K.bs W w' → Calls Tryz.prog 65 #[.pointer (some ⟨K.b, 0, none⟩), .int .u8 (op : Nat), .int .i64 (takesN op : Nat)] w' (OpEnd K w' res))
 (g3 : er = 0 → takesN op = 0 → ∀ (w' : World) (B0 r i s2 j : Nat) (k2 : Kd) (v : Value), At K { S with next := nx, args := ar } w' → Only K.bs W w' → B0 ∉ K.bs → w'.cell? ⟨B0, 0, none⟩ = some (.pointer (some ⟨K.b, 0, none⟩)) → kinds[i]? = some (Kd.ins op s2 j) → kinds[j]? = some k2 → Spec K B0 r k2 v w' → CallsV v w' (OpEnd K w' res)) :
 Calls Tryz.prog 37 #[.pointer (some ⟨K.b, 0, none⟩)] W (OpEnd K W res) := by
 have H := Lib.hid h
 have HBQ := Lib.hid (show K.bq < W.heap.size from h.old _ k.hq)
 have HE := Lib.hid hen
 have HD := Lib.hid hd
 have HS := Lib.hid s
 have HK := Lib.hid k
 have G1 := Lib.hid g1
 have G2 := Lib.hid g2
 have G3 := Lib.hid g3
 clear h hd hen g1 g2 g3
 go_enter Tryz.func37, Tryz.ntmps37
 go_wp2_with fail
 have HB := Lib.hid (alloc_below W (.cells #[.pointer (some ⟨K.b, 0, none⟩)] 30))
 have HX := Lib.hid (Bx.new W #[.pointer (some ⟨K.b, 0, none⟩)] 30)
 generalize W.alloc (.cells #[.pointer (some ⟨K.b, 0, none⟩)] 30) = w0 at *
 have H1 := Lib.hid (H.out.grow HB.out)
 have HE0 := Lib.hid (fun w' (hb : Below w0.heap.size w0 w') => HE.out w' (Only.of_below (HB.out.trans (hb.mono HB.out.size))))
 go_cut [3, 4, 5] (fun u v x w' => StepA K w0 ((op, ar), nx, er) u v x w')
 case first =>
  obtain ⟨b, o, hA, cc, hb, hcl⟩ := code_cell H1.out HS.out.toROk
  have m1 := H1.out.c1
  have m10 := H1.out.c10
  have m12 := H1.out.c12
  rw [hA] at m1
  clear hA
  have i0 := HS.out.mod0
  have i1 := HS.out.mod1
  have x0 : w0.cell? ⟨W.heap.size, 0, none⟩ = some (.pointer (some ⟨K.b, 0, none⟩)) := (HX.out.cell 0).trans rfl
  have l0 := HX.out.lt
  have l1 := H1.out.lt
  have hDc := Lib.hid (fun w' (hb : Below w0.heap.size w0 w') => K16.decode_any (modOf K S).code (by have := code_le k s; omega) S.at_ w' (HE0.out w' hb).sp)
  rw [HD.out] at hDc
  refine wp_region_held_drew (S := Below w0.heap.size w0) (by kernel_rfl) (Below.refl _ _).drew (fun hHeld => ?_)
  refine wpAnyH_take (i := 0) (v := .pointer (some ⟨K.b, 0, none⟩)) rfl (by kernel_rfl) (by kernel_rfl) (by kernel_rfl) (fun _ _ _ h => h) (Or.inl ⟨by rfl, ?_⟩) (by assumption) ?_
  ·intro w hSw; have h0 := (hSw.cell (p := ⟨W.heap.size, 0, none⟩) l0).trans x0; go_simp
  simp only [Act.put, List.setIfInBounds_toArray]
  refine wpAnyH_take (i := 1) (v := .pointer (some ⟨K.b, 0, none⟩)) rfl (by kernel_rfl) (by kernel_rfl) (by kernel_rfl) (fun _ _ _ h => h) (Or.inl ⟨by rfl, ?_⟩) (by assumption) ?_
  ·intro w hSw; go_simp
  simp only [Act.put]
  refine wpAnyH_take (i := 2) (v := .pointer (some ⟨K.b, 1, none⟩)) rfl (by kernel_rfl) (by kernel_rfl) (by kernel_rfl) (fun _ _ _ h => h) (Or.inl ⟨by rfl, ?_⟩) (by assumption) ?_
  ·intro w hSw; go_simp
  simp only [Act.put]
  refine wpAnyH_take (i := 3) (v := .pointer (some ⟨K.b, 1, none⟩)) rfl (by kernel_rfl) (by kernel_rfl) (by kernel_rfl) (fun _ _ _ h => h) (Or.inl ⟨by rfl, ?_⟩) (by assumption) ?_
  ·intro w hSw; go_simp
  simp only [Act.put]
  refine wpAnyH_take (i := 4) (v := .slice (some ⟨b, o, none⟩) K.mods.length K.pc) rfl (by kernel_rfl) (by kernel_rfl) (by kernel_rfl) (fun _ _ _ h => h) (Or.inl ⟨by rfl, ?_⟩) (by assumption) ?_
  ·intro w hSw; have h0 := (hSw.cell (p := ⟨K.b, 1, none⟩) l1).trans m1; go_simp
  simp only [Act.put]
  refine wpAnyH_take (i := 5) (v := .pointer (some ⟨K.b, 0, none⟩)) rfl (by kernel_rfl) (by kernel_rfl) (by kernel_rfl) (fun _ _ _ h => h) (Or.inl ⟨by rfl, ?_⟩) (by assumption) ?_
  ·intro w hSw; have h0 := (hSw.cell (p := ⟨W.heap.size, 0, none⟩) l0).trans x0; go_simp
  simp only [Act.put]
  refine wpAnyH_take (i := 6) (v := .pointer (some ⟨K.b, 0, none⟩)) rfl (by kernel_rfl) (by kernel_rfl) (by kernel_rfl) (fun _ _ _ h => h) (Or.inl ⟨by rfl, ?_⟩) (by assumption) ?_
  ·intro w hSw; go_simp
  simp only [Act.put]
  refine wpAnyH_take (i := 7) (v := .pointer (some ⟨K.b, 10, none⟩)) rfl (by kernel_rfl) (by kernel_rfl) (by kernel_rfl) (fun _ _ _ h => h) (Or.inl ⟨by rfl, ?_⟩) (by assumption) ?_
  ·intro w hSw; go_simp
  simp only [Act.put]
  refine wpAnyH_take (i := 8) (v := .int .i64 S.mod) rfl (by kernel_rfl) (by kernel_rfl) (by kernel_rfl) (fun _ _ _ h => h) (Or.inl ⟨by rfl, ?_⟩) (by assumption) ?_
  ·intro w hSw; have h0 := (hSw.cell (p := ⟨K.b, 10, none⟩) l1).trans m10; go_simp
  simp only [Act.put]
  refine wpAnyH_take (i := 9) (v := .pointer (some ⟨b, o + S.mod.toNat * 5, none⟩)) rfl (by kernel_rfl) (by kernel_rfl) (by kernel_rfl) (fun _ _ _ h => h) (Or.inl ⟨by rfl, ?_⟩) (by assumption) ?_
  ·intro w hSw; go_simp
  simp only [Act.put]
  refine wpAnyH_take (i := 10) (v := .pointer (some ⟨b, o + S.mod.toNat * 5, none⟩)) rfl (by kernel_rfl) (by kernel_rfl) (by kernel_rfl) (fun _ _ _ h => h) (Or.inl ⟨by rfl, ?_⟩) (by assumption) ?_
  ·intro w hSw; go_simp
  simp only [Act.put]
  refine wpAnyH_take (i := 11) (v := .string ⟨(modOf K S).code.toArray⟩) rfl (by kernel_rfl) (by kernel_rfl) (by kernel_rfl) (fun _ _ _ h => h) (Or.inl ⟨by rfl, ?_⟩) (by assumption) ?_
  ·intro w hSw; have h0 := (hSw.cell (p := ⟨b, o + S.mod.toNat * 5, none⟩) hb).trans cc; go_simp
  simp only [Act.put]
  refine wpAnyH_take (i := 12) (v := .pointer (some ⟨K.b, 0, none⟩)) rfl (by kernel_rfl) (by kernel_rfl) (by kernel_rfl) (fun _ _ _ h => h) (Or.inl ⟨by rfl, ?_⟩) (by assumption) ?_
  ·intro w hSw; have h0 := (hSw.cell (p := ⟨W.heap.size, 0, none⟩) l0).trans x0; go_simp
  simp only [Act.put]
  refine wpAnyH_take (i := 13) (v := .pointer (some ⟨K.b, 0, none⟩)) rfl (by kernel_rfl) (by kernel_rfl) (by kernel_rfl) (fun _ _ _ h => h) (Or.inl ⟨by rfl, ?_⟩) (by assumption) ?_
  ·intro w hSw; go_simp
  simp only [Act.put]
  refine wpAnyH_take (i := 14) (v := .pointer (some ⟨K.b, 12, none⟩)) rfl (by kernel_rfl) (by kernel_rfl) (by kernel_rfl) (fun _ _ _ h => h) (Or.inl ⟨by rfl, ?_⟩) (by assumption) ?_
  ·intro w hSw; go_simp
  simp only [Act.put]
  refine wpAnyH_take (i := 15) (v := .int .i64 S.at_) rfl (by kernel_rfl) (by kernel_rfl) (by kernel_rfl) (fun _ _ _ h => h) (Or.inl ⟨by rfl, ?_⟩) (by assumption) ?_
  ·intro w hSw; have h0 := (hSw.cell (p := ⟨K.b, 12, none⟩) l1).trans m12; go_simp
  simp only [Act.put]
  have h2 : Below w0.heap.size w0 w0.drew := (Below.refl _ _).drew
  refine wpAnyH_ready (rs := [16, 21]) (by kernel_rfl) (by simp) ?_
  refine AllReadyH.cons rfl (fun K' hK => ?_) (AllReadyH.cons rfl (fun K' hK => ?_) AllReadyH.nil)
  ·go_simp
   refine (hDc.out _ (by assumption)).mono ?_
   rintro e w1 ⟨v, rfl, hown, hb1⟩
   have hB1 := h2.trans (hb1.mono h2.size)
   refine hK.out _ _ hB1 (fun hHeld1 => ?_)
   obtain ⟨A, c, rfl, hI, hcl⟩ := own_ints_mask hown K.bs (fun b hb => Nat.lt_of_lt_of_le (H1.out.old b hb) h2.size)
   clear hK K'
   have hB1' := hB1
   refine wpAnyH_take (i := 17) (v := .tuple #[.agg #[.int .u8 (op : Nat), .slice A ar.length c], .int .i64 nx, .int .i64 er]) rfl (by kernel_rfl) (by kernel_rfl) (by kernel_rfl) (fun _ _ _ h => h) (Or.inl ⟨by rfl, ?_⟩) (by assumption) ?_
   ·intro w hSw; go_simp
   simp only [Act.put, List.setIfInBounds_toArray]
   refine wpAnyH_take (i := 18) (v := .agg #[.int .u8 (op : Nat), .slice A ar.length c]) rfl (by kernel_rfl) (by kernel_rfl) (by kernel_rfl) (fun _ _ _ h => h) (Or.inl ⟨by rfl, ?_⟩) (by assumption) ?_
   ·intro w hSw; go_simp
   simp only [Act.put]
   refine wpAnyH_take (i := 19) (v := .int .i64 nx) rfl (by kernel_rfl) (by kernel_rfl) (by kernel_rfl) (fun _ _ _ h => h) (Or.inl ⟨by rfl, ?_⟩) (by assumption) ?_
   ·intro w hSw; go_simp
   simp only [Act.put]
   refine wpAnyH_take (i := 20) (v := .int .i64 er) rfl (by kernel_rfl) (by kernel_rfl) (by kernel_rfl) (fun _ _ _ h => h) (Or.inl ⟨by rfl, ?_⟩) (by assumption) ?_
   ·intro w hSw; go_simp
   simp only [Act.put]
   refine wpAnyH_ready (rs := [21]) (by kernel_rfl) (by simp) ?_
   refine AllReadyH.cons rfl (fun K' hK => ?_) AllReadyH.nil
   go_simp
   have hB2 := hB1.alloc hB1.size (.cells #[.int .u8 0, .slice none 0 0] 47)
   refine hK.out _ _ hB2 (fun hHeld2 => ?_)
   clear hK K'
   refine wpAnyH_ready (rs := [22]) (by kernel_rfl) (by simp) ?_
   refine AllReadyH.cons rfl (fun K' hK => ?_) AllReadyH.nil
   go_simp
   have hB3 := hB1.alloc hB1.size (.cells #[.int .u8 (op : Nat), .slice A ar.length c] 47)
   refine hK.out _ _ hB3 (fun hHeld3 => ?_)
   clear hK K'
   refine wpAnyH_take (i := 23) (v := .int .i64 nx) rfl (by kernel_rfl) (by kernel_rfl) (by kernel_rfl) (fun _ _ _ h => h) (Or.inl ⟨by rfl, ?_⟩) (by assumption) ?_
   ·intro w hSw; go_simp
   simp only [Act.put, List.setIfInBounds_toArray]
   refine wpAnyH_take (i := 24) (v := .int .i64 er) rfl (by kernel_rfl) (by kernel_rfl) (by kernel_rfl) (fun _ _ _ h => h) (Or.inl ⟨by rfl, ?_⟩) (by assumption) ?_
   ·intro w hSw; go_simp
   simp only [Act.put]
   refine wpAnyH_done (by kernel_rfl) ?_ _
   go_wp2_with fail
   go_meet
   exact ⟨w1.heap.size, A, c, rfl, rfl, rfl, hB1.size, Bx.new w1 _ _, hI.only (Only.of_below (alloc_below w1 _)), hB3, hcl⟩
  ·go_simp
   have hB2 : Below w0.heap.size w0 (w0.alloc (.cells #[.int .u8 0, .slice none 0 0] 47)).drew := (alloc_below w0 _).drew
   refine hK.out _ _ hB2 (fun hHeld2 => ?_)
   have hX : Bx w0.heap.size #[.int .u8 0, .slice none 0 0] 47 (w0.alloc (.cells #[.int .u8 0, .slice none 0 0] 47)).drew := Bx.new w0 _ _
   have hlt := hX.lt
   clear hK K' hHeld2 hHeld
   generalize hwx : (w0.alloc (.cells #[.int .u8 0, .slice none 0 0] 47)).drew = wx at *
   clear hwx
   refine wpAnyH_ready (rs := [16]) (by kernel_rfl) (by simp) ?_
   refine AllReadyH.cons rfl (fun K' hK => ?_) AllReadyH.nil
   go_simp
   refine (hDc.out _ (by assumption)).mono ?_
   rintro e w1 ⟨v, rfl, hown, hb1⟩
   have hB1 := hB2.trans (hb1.mono hB2.size)
   refine hK.out _ _ hB1 (fun hHeld1 => ?_)
   obtain ⟨A, c, rfl, hI, hcl⟩ := own_ints_mask hown (w0.heap.size :: K.bs) (fun b hb => by rcases List.mem_cons.1 hb with rfl | hb; exact hlt; exact Nat.lt_of_lt_of_le (H1.out.old b hb) hB2.size)
   have hX1 := hX.grow hb1
   have hf := hX1.frozen
   have hc0 : w1.cell? ⟨w0.heap.size, 0, none⟩ = some (.int .u8 0) := (hX1.cell 0).trans rfl
   have hc1 : w1.cell? ⟨w0.heap.size, 1, none⟩ = some (.slice none 0 0) := (hX1.cell 1).trans rfl
   have hlt1 := hX1.lt
   clear hK K'
   refine wpAnyH_take (i := 17) (v := .tuple #[.agg #[.int .u8 (op : Nat), .slice A ar.length c], .int .i64 nx, .int .i64 er]) rfl (by kernel_rfl) (by kernel_rfl) (by kernel_rfl) (fun _ _ _ h => h) (Or.inl ⟨by rfl, ?_⟩) (by assumption) ?_
   ·intro w hSw; go_simp
   simp only [Act.put, List.setIfInBounds_toArray]
   refine wpAnyH_take (i := 18) (v := .agg #[.int .u8 (op : Nat), .slice A ar.length c]) rfl (by kernel_rfl) (by kernel_rfl) (by kernel_rfl) (fun _ _ _ h => h) (Or.inl ⟨by rfl, ?_⟩) (by assumption) ?_
   ·intro w hSw; go_simp
   simp only [Act.put]
   refine wpAnyH_take (i := 19) (v := .int .i64 nx) rfl (by kernel_rfl) (by kernel_rfl) (by kernel_rfl) (fun _ _ _ h => h) (Or.inl ⟨by rfl, ?_⟩) (by assumption) ?_
   ·intro w hSw; go_simp
   simp only [Act.put]
   refine wpAnyH_take (i := 20) (v := .int .i64 er) rfl (by kernel_rfl) (by kernel_rfl) (by kernel_rfl) (fun _ _ _ h => h) (Or.inl ⟨by rfl, ?_⟩) (by assumption) ?_
   ·intro w hSw; go_simp
   simp only [Act.put]
   refine wpAnyH_ready (rs := [22]) (by kernel_rfl) (by simp) ?_
   refine AllReadyH.cons rfl (fun K' hK => ?_) AllReadyH.nil
   go_simp
   refine hK.out _ _ ((hB1.setCell (p := ⟨w0.heap.size, 0, none⟩) (Nat.le_refl _) _).setCell (p := ⟨w0.heap.size, 1, none⟩) (Nat.le_refl _) _) (fun hHeld3 => ?_)
   clear hK K'
   refine wpAnyH_take (i := 23) (v := .int .i64 nx) rfl (by kernel_rfl) (by kernel_rfl) (by kernel_rfl) (fun _ _ _ h => h) (Or.inl ⟨by rfl, ?_⟩) (by assumption) ?_
   ·intro w hSw; go_simp
   simp only [Act.put, List.setIfInBounds_toArray]
   refine wpAnyH_take (i := 24) (v := .int .i64 er) rfl (by kernel_rfl) (by kernel_rfl) (by kernel_rfl) (fun _ _ _ h => h) (Or.inl ⟨by rfl, ?_⟩) (by assumption) ?_
   ·intro w hSw; go_simp
   simp only [Act.put]
   refine wpAnyH_done (by kernel_rfl) ?_ _
   go_wp2_with fail
   go_meet
   exact ⟨w0.heap.size, A, c, rfl, rfl, rfl, Nat.le_refl _, (hX1.set 0 (.int .u8 (op : Nat))).set 1 (.slice A ar.length c), ints_set2 hI, (hB1.setCell (p := ⟨w0.heap.size, 0, none⟩) (Nat.le_refl _) _).setCell (p := ⟨w0.heap.size, 1, none⟩) (Nat.le_refl _) _, hcl⟩
 case rest =>
  obtain ⟨p, A, c, rfl, rfl, rfl, hp, hX, hI, hb, hcl⟩ := hcut
  simp only at hX hI hcl
  have HCL := Lib.hid hcl
  clear hcl
  have HX2 := Lib.hid hX
  have HI2 := Lib.hid hI
  have H2 := Lib.hid (H1.out.grow hb)
  have HB2 := Lib.hid (HB.out.trans (hb.mono HB.out.size))
  have HBox := Lib.hid (HX.out.grow hb)
  clear hX hI hb
  by_cases he : er ≠ 0
  ·have d : (er != 0) = true := bne_iff_ne.2 he
   go_wp2_with fail
   go_ret
   rw [G1.out he]
   exact ⟨rfl, H2.out, Only.of_below HB2.out⟩
  obtain rfl : er = 0 := by omega
  go_wp2_with fail
  have H3 := Lib.hid (H2.out.grow (drew_below wc))
  have HX3 := Lib.hid (HX2.out.grow (drew_below wc))
  have HBox3 := Lib.hid (HBox.out.grow (drew_below wc))
  have HI3 := Lib.hid (HI2.out.only (Only.of_below (drew_below wc)))
  have HB3 := Lib.hid (HB2.out.trans ((drew_below wc).mono HB2.out.size))
  have s4 : wc.drew.cell? ⟨W.heap.size, 0, none⟩ = some (.pointer (some ⟨K.b, 0, none⟩)) ∧ wc.drew.cell? ⟨p, 1, none⟩ = some (.slice A ar.length c) := ⟨(HBox3.out.cell 0).trans rfl, (HX3.out.cell 1).trans rfl⟩
  refine wp_region_held_drew (S := fun w => w.cell? ⟨W.heap.size, 0, none⟩ = some (.pointer (some ⟨K.b, 0, none⟩)) ∧ w.cell? ⟨p, 1, none⟩ = some (.slice A ar.length c)) (by kernel_rfl) s4 (fun hHeld => ?_)
  clear hHeld H2 HX2 HBox HI2 HB2
  generalize wc.drew = wd at *
  obtain ⟨A0, c0, c16, _⟩ := H3.out.argsCell
  have c15 := H3.out.c15
  have fz := H3.out.fz
  have hbox : W.heap.size ≠ K.b := fun e => by have := H.out.lt; omega
  have hpK : p ≠ K.b := fun e => by have := H1.out.lt; omega
  refine wpAnyH_take (i := 0) (v := .pointer (some ⟨K.b, 0, none⟩)) rfl (by kernel_rfl) (by kernel_rfl) (by kernel_rfl) (fun _ _ _ h => h) (Or.inl ⟨by rfl, ?_⟩) (by assumption) ?_
  ·intro w hSw; have h0 := hSw.1; go_simp
  simp only [Act.put, List.setIfInBounds_toArray]
  refine wpAnyH_take (i := 1) (v := .pointer (some ⟨K.b, 0, none⟩)) rfl (by kernel_rfl) (by kernel_rfl) (by kernel_rfl) (fun _ _ _ h => h) (Or.inl ⟨by rfl, ?_⟩) (by assumption) ?_
  ·intro w hSw; have h0 := hSw.1; go_simp
  simp only [Act.put]
  refine wpAnyH_take (i := 2) (v := .int .i64 nx) rfl (by kernel_rfl) (by kernel_rfl) (by kernel_rfl) (fun _ _ _ h => h) (Or.inl ⟨by rfl, ?_⟩) (by assumption) ?_
  ·intro w hSw; go_simp
  simp only [Act.put]
  refine wpAnyH_take (i := 3) (v := .pointer (some ⟨p, 1, none⟩)) rfl (by kernel_rfl) (by kernel_rfl) (by kernel_rfl) (fun _ _ _ h => h) (Or.inl ⟨by rfl, ?_⟩) (by assumption) ?_
  ·intro w hSw; go_simp
  simp only [Act.put]
  refine wpAnyH_take (i := 4) (v := .slice A ar.length c) rfl (by kernel_rfl) (by kernel_rfl) (by kernel_rfl) (fun _ _ _ h => h) (Or.inl ⟨by rfl, ?_⟩) (by assumption) ?_
  ·intro w hSw; have h0 := hSw.2; go_simp
  simp only [Act.put]
  refine wpAnyH_take (i := 5) (v := .pointer (some ⟨K.b, 0, none⟩)) rfl (by kernel_rfl) (by kernel_rfl) (by kernel_rfl) (fun _ _ _ h => h) (Or.inl ⟨by rfl, ?_⟩) (by assumption) ?_
  ·intro w hSw; go_simp
  simp only [Act.put]
  refine wpAnyH_take (i := 6) (v := .pointer (some ⟨K.b, 15, none⟩)) rfl (by kernel_rfl) (by kernel_rfl) (by kernel_rfl) (fun _ _ _ h => h) (Or.inl ⟨by rfl, ?_⟩) (by assumption) ?_
  ·intro w hSw; go_simp
  simp only [Act.put]
  refine wpAnyH_ready (rs := [7]) (by kernel_rfl) (by simp) ?_
  refine AllReadyH.cons rfl (fun K' hK => ?_) AllReadyH.nil
  go_simp
  refine hK.out _ _ ⟨(cell_set_ne _ _ hbox).trans s4.1, (cell_set_ne _ _ hpK).trans s4.2⟩ (fun hHeld1 => ?_)
  have s5 : (wd.setCell ⟨K.b, 15, none⟩ (.int .i64 nx)).cell? ⟨W.heap.size, 0, none⟩ = some (.pointer (some ⟨K.b, 0, none⟩)) ∧ (wd.setCell ⟨K.b, 15, none⟩ (.int .i64 nx)).cell? ⟨p, 1, none⟩ = some (.slice A ar.length c) := ⟨(cell_set_ne _ _ hbox).trans s4.1, (cell_set_ne _ _ hpK).trans s4.2⟩
  have c16 : (wd.setCell ⟨K.b, 15, none⟩ (.int .i64 nx)).cell? ⟨K.b, 16, none⟩ = some (.slice A0 S.args.length c0) := by
   rw [cell_set_at _ _ (by omega)]; exact c16
  have fz : ∀ i, (wd.setCell ⟨K.b, 15, none⟩ (.int .i64 nx)).frozen? ⟨K.b, i, none⟩ = false := fun i => (H3.out.set_next HK.out nx).fz i
  clear hK K'
  refine wpAnyH_take (i := 8) (v := .pointer (some ⟨K.b, 0, none⟩)) rfl (by kernel_rfl) (by kernel_rfl) (by kernel_rfl) (fun _ _ _ h => h) (Or.inl ⟨by rfl, ?_⟩) (by assumption) ?_
  ·intro w hSw; go_simp
  simp only [Act.put, List.setIfInBounds_toArray]
  refine wpAnyH_take (i := 9) (v := .pointer (some ⟨K.b, 16, none⟩)) rfl (by kernel_rfl) (by kernel_rfl) (by kernel_rfl) (fun _ _ _ h => h) (Or.inl ⟨by rfl, ?_⟩) (by assumption) ?_
  ·intro w hSw; go_simp
  simp only [Act.put]
  refine wpAnyH_ready (rs := [10]) (by kernel_rfl) (by simp) ?_
  refine AllReadyH.cons rfl (fun K' hK => ?_) AllReadyH.nil
  go_simp
  refine hK.out _ _ ⟨(cell_set_ne _ _ hbox).trans s5.1, (cell_set_ne _ _ hpK).trans s5.2⟩ (fun hHeld2 => ?_)
  clear hK K'
  refine wpAnyH_done (by kernel_rfl) ?_ _
  have hl : Ints (mask K.bs (wd.setCell ⟨K.b, 15, none⟩ (.int .i64 nx))) A ar := HI3.out.only ((Only.refl _ _).setCell (a := ⟨K.b, 15, none⟩) HK.out.hb _)
  have HS1 := Lib.hid ((H3.out.set_next HK.out nx).set_args HK.out A c ar hl HCL.out)
  have HO1 := Lib.hid (((Only.of_below (bs := K.bs) HB3.out).setCell (a := ⟨K.b, 15, none⟩) HK.out.hb (.int .i64 nx)).setCell (a := ⟨K.b, 16, none⟩) HK.out.hb (.slice A ar.length c))
  have HC1 := Lib.hid hHeld2.1
  have hin : ((wd.setCell ⟨K.b, 15, none⟩ (.int .i64 nx)).setCell ⟨K.b, 16, none⟩ (.slice A ar.length c)).cell? ⟨p, 0, none⟩ = some (.int .u8 (op : Nat)) := (cell_set_ne _ _ hpK).trans ((cell_set_ne _ _ hpK).trans ((HX3.out.cell 0).trans rfl))
  clear hHeld1 hHeld2 s4 s5 c15 c16 fz hl H3 HX3 HBox3 HI3 HB3
  generalize (wd.setCell ⟨K.b, 15, none⟩ (.int .i64 nx)).setCell ⟨K.b, 16, none⟩ (.slice A ar.length c) = wS at *
  go_wp2_with fail
  refine (takes_any op wS).mono ?_
  rintro e w5 ⟨rfl, hb5⟩
  have HS5 := Lib.hid (HS1.out.grow hb5)
  have HO5 := Lib.hid (HO1.out.trans (Only.of_below hb5))
  have hc5 := (hb5.cell (lt_of_cell HC1.out)).trans HC1.out
  have hin5 := (hb5.cell (lt_of_cell hin)).trans hin
  clear hb5 HS1 HO1 HC1 hin
  by_cases ht : takesN op ≠ 0
  ·have hlt : (0 : Int) < (takesN op : Nat) := by omega
   go_wp2_with fail
   refine (G2.out (by simp) ht w5 HS5.out HO5.out).mono ?_
   rintro e w6 ⟨rfl, h6, ho6⟩
   go_wp2_with fail
   go_ret
   exact ⟨rfl, h6, HO5.out.trans ho6⟩
  have ht0 : takesN op = 0 := by omega
  rw [ht0]
  go_wp2_with fail
  have h6 := HS5.out.grow (drew_below w5)
  have ho6 := HO5.out.trans (Only.of_below (bs := K.bs) (drew_below w5))
  have hc6 := ((drew_below w5).cell (lt_of_cell hc5)).trans hc5
  have hin6 := ((drew_below w5).cell (lt_of_cell hin5)).trans hin5
  refine wp_region_inv (by kernel_rfl) (J8 K { S with next := nx, args := ar } W W.heap.size p (op : Int) _ _) (edges_wf (by kernel_rfl) rfl) (i8_step (by kernel_rfl) (by kernel_rfl) rfl rfl) (fun listed a w hJ hAll => ?_) ⟨0, ⟨rfl, rfl, fun _ _ _ => rfl, fun i k d hi hd hli => ?_, h6, ho6, hc6, hin6, fun h0 => ?_, HBQ.out⟩⟩
  ·obtain ⟨r, h⟩ := hJ
   have e0 : slot a 0 = .pointer (some ⟨K.b, 0, none⟩) := h.old 0 (by omega) (by omega)
   have e1 : slot a 1 = .pointer (some ⟨W.heap.size, 0, none⟩) := h.old 1 (by omega) (by omega)
   have e2 : slot a 2 = .int .u8 0 := h.old 2 (by omega) (by omega)
   have e3 : slot a 3 = .pointer (some ⟨p, 0, none⟩) := h.old 3 (by omega) (by omega)
   have e7 : slot a 7 = .map (some r) := h.done 142 .asg 7 rfl rfl (hAll 142 (by exact (by omega : (142 : Nat) < 143)))
   obtain ⟨hfar, l, hF, hnd, hin, hsp⟩ := h.map (hAll 0 (by exact (by omega : (0 : Nat) < 143)))
   obtain ⟨hop1, hop2⟩ := dec_there HD.out
   obtain ⟨kk, hkk, hkey⟩ := List.any_eq_true.1 (key_there op hop1 hop2 ht0)
   obtain ⟨i, hi, rfl⟩ := List.getElem_of_mem hkk
   have hi143 : i < 143 := by rw [kinds_len] at hi; exact hi
   obtain ⟨s2, j, hij⟩ : ∃ s2 j, kinds[i]? = some (Kd.ins op s2 j) := by
    rw [List.getElem?_eq_getElem hi]
    revert hkey
    generalize kinds[i] = k3
    intro hkey
    cases k3 <;> simp [Kd.key] at hkey
    subst hkey
    exact ⟨_, _, rfl⟩
   have hmem := (hin i op s2 j hij).1 (hAll i (by exact hi143))
   obtain ⟨⟨n0, v⟩, hv, rfl⟩ := List.mem_map.1 hmem
   obtain ⟨i4, s4, j4, k4, q1, q2, q3⟩ := hsp _ v hv
   have L : (Instr.lookup 142 (.map (some r)) (.int .u8 (n0 : Int)) false).run Tryz.prog w = .ok v w := (fm_look (P := Tryz.prog) Tryz.underlying142 Tryz.underlying5 w r l hF hnd n0 v hv).1
   obtain ⟨f, b, cp, rfl, hcf, hC⟩ := G3.out (by simp) ht0 w W.heap.size r i4 s4 j4 k4 v h.at_ h.only (fun hm => by have := H.out.old _ hm; omega) h.box q1 q2 q3
   have hin9 := h.ins
   have HO9 := Lib.hid h.only
   have hdf := h.defs
   have hlit := act_lit a h.size
   rw [e0, e1, e2, e3, e7, hdf] at hlit
   have HC9 := Lib.hid hC
   rw [hlit]
   clear h hsp hin hF hnd hfar hAll hlit e0 e1 e2 e3 e7 hdf q1 q2 q3 hC
   go_wp2_with fail
   refine (HC9.out).mono ?_
   rintro e w7 ⟨rfl, h7, ho7⟩
   go_wp2_with fail
   go_ret
   exact ⟨rfl, h7, HO9.out.trans ho7⟩
  ·rw [rep_false] at hli; cases hli
  ·rw [rep_false] at h0; cases h0
end Go.Proofs.YtabenhpjgjjgnaaGreatDoor
/- A machine's step, for the instructions that small programs have. -/
namespace Go.Proofs.YtabenhpjgjjgnaaGreatDoor
open Go.RowKit
set_option maxRecDepth 100000
attribute [local go_sem ↓] Go.wp_at_zero Go.wp_at_succ
theorem callsV {f : Nat} {b c a : Array Value} {w : World} {R : Ending → World → Prop} (ha : b ++ c = a) (hf : ∀ (vs : Array Value) (w : World), (callFunc f vs).run Tryz.prog w = .ok (.enter f vs) w) (h : Calls Tryz.prog f a w R) : CallsV (.func (.func f) b c) w R := ⟨f, b, c, rfl, hf, by rw [ha]; exact h⟩
theorem step_ok (K : MK) (k : KOk K) (S : St) (s : SOk K S) (op : Nat) (ar : List Int) (nx : Int) (hd : K16.decodeL (modOf K S).code S.at_ = ((op, ar), nx, 0)) (hdo : DoOk K op { S with next := nx, args := ar }) : StepOk K S (doM K op { S with next := nx, args := ar }) := by
 intro W h hen
 have s' : SOk K { S with next := nx, args := ar } := ⟨⟨s.mod0, s.mod1, s.proc0, s.proc1⟩, s.fp1, s.sp0, s.sp1, s.top⟩
 refine step_any K k S s op ar nx 0 hd W h hen _ (fun h0 => absurd rfl h0) (fun _ ht w' h' ho => ?_) (fun _ ht w' B0 r i s2 j k2 v h' ho hB hc q1 q2 q3 => ?_)
 ·have e : doM K op { S with next := nx, args := ar } = opM K op (takesN op) { S with next := nx, args := ar } := by unfold doM; rw [if_pos ht]
  rw [e]
  have h1 : 1 ≤ op ∧ op ≤ 31 ∧ (takesN op = 1 ∨ takesN op = 2) := by
   unfold takesN at ht ⊢
   split at ht
   ·exact absurd rfl ht
   ·rename_i h2
    refine ⟨by omega, by omega, ?_⟩
    rw [if_neg h2]
    split <;> simp
  rcases h1.2.2 with h2 | h2
  ·rw [h2]; exact op1_any K k _ s' op h1.1 h1.2.1 w' h'
  ·rw [h2]; exact op2_any K k _ s' op h1.1 h1.2.1 w' h'
 ·have hE := hen.only ho
  have hk := hdo.known
  rcases hk with hk | rfl | rfl | rfl | rfl | rfl | rfl | rfl | rfl
  ·exact absurd ht hk
  ·obtain rfl := tgt40 q1 q2
   obtain rfl := q3
   exact callsV rfl (fun vs w => by go_simp) (lit_any K k _ s' (hdo.args (by simp)).1 w' h')
  ·obtain rfl := tgt55 q1 q2
   obtain rfl := q3
   obtain ⟨a1, a2, a3⟩ := hdo.args (by simp)
   exact callsV rfl (fun vs w => by go_simp) (jmp_any K k _ s'.toROk a1 hdo.next0 hdo.next1 a2 a3 w' h')
  ·obtain rfl := tgt57 q1 q2
   obtain ⟨x, y, rfl, hx, hy, cx, cy⟩ := q3
   obtain ⟨a1, a2, a3⟩ := hdo.args (by simp)
   show CallsV (.func (.func 146) #[] _) _ _
   exact callsV rfl (fun vs w => by go_simp) (jumps1_any K k _ s' false a1 hdo.next0 hdo.next1 a2 a3 w' h' x y hx hy cx cy)
  ·obtain rfl := tgt65 q1 q2
   obtain rfl := q3
   obtain ⟨a1, a2, a3⟩ := hdo.body rfl
   exact callsV rfl (fun vs w => by go_simp) (ret_begins K k _ s' a1 hdo.ord0 hdo.ord1 hdo.few a2 a3 w' h')
  ·obtain rfl := tgt68 q1 q2
   obtain ⟨x, y, z, A, c, rfl, hx, hy, hz, cx, cy, cz, hI⟩ := q3
   exact callsV rfl (fun vs w => by go_simp) (turns1_any K k _ s' 1 (by omega) [0, 0] (by simp) (by simp) w' h' x y z hx hy hz A c cx cy cz hI)
  ·obtain rfl := tgt69 q1 q2
   obtain ⟨x, y, z, A, c, rfl, hx, hy, hz, cx, cy, cz, hI⟩ := q3
   exact callsV rfl (fun vs w => by go_simp) (turns1_any K k _ s' 1 (by omega) [] (by simp) (by simp) w' h' x y z hx hy hz A c cx cy cz hI)
  ·obtain rfl := tgt70 q1 q2
   obtain ⟨x, y, z, A, c, rfl, hx, hy, hz, cx, cy, cz, hI⟩ := q3
   exact callsV rfl (fun vs w => by go_simp) (turns1_any K k _ s' 2 (by omega) [0, 1] (by simp) (by simp) w' h' x y z hx hy hz A c cx cy cz hI)
  ·obtain rfl := tgt78 q1 q2
   obtain ⟨x, y, rfl, hx, hy, cx, cy⟩ := q3
   show CallsV (.func (.func 162) #[] _) _ _
   exact callsV rfl (fun vs w => by go_simp) (texts1_any K k _ s' false hdo.most0 hdo.most1 hdo.out w' (hE _ (Only.refl _ _)).p10 h' x y hx hy (fun W' ho' => (hE W' ho').p10) cx cy)
end Go.Proofs.YtabenhpjgjjgnaaGreatDoor
