/- code.All. -/
import Derived.Test.YtgcmenjpcgdikaaDoorCo
import Derived.Test.YtgcmenjpcgdikaaDoorPo
import Derived.Maps.AppendAt
namespace Go.Proofs.YtgcmenjpcgdikaaDoor
open Go.RowKit
set_option maxRecDepth 100000

/-- Ints under a slice's address, in a block of ints that is not v's own. -/
def IntsF (w : World) (v : Value) (A : Option Addr) (xs : List Int) : Prop :=
  xs = [] ∨ ∃ b off, A = some ⟨b, off, none⟩ ∧ (∃ cs fz, w.heap[b]? = some (.cells cs 3 fz)) ∧ v.ownBlock ≠ some b ∧ ∀ j, j < xs.length → w.cell? ⟨b, off + j, none⟩ = some (.int .i64 (xs.getD j 0))
theorem IntsF.ints {w : World} {v : Value} {A : Option Addr} {xs : List Int} (h : IntsF w v A xs) : Ints w A xs := by
  rcases h with h | ⟨b, off, e, ⟨cs, fz, hb⟩, _, hc⟩
  · exact .inl h
  · exact .inr ⟨b, off, e, lt_of_get hb, hc⟩
theorem IntsF.keep {w w' : World} {v v' : Value} {A : Option Addr} {xs : List Int} (h : IntsF w v A xs) (hk : ∀ b cs fz, w.heap[b]? = some (.cells cs 3 fz) → v.ownBlock ≠ some b → w'.heap[b]? = w.heap[b]? ∧ v'.ownBlock ≠ some b) : IntsF w' v' A xs := by
  rcases h with h | ⟨b, off, e, ⟨cs, fz, hb⟩, hv, hc⟩
  · exact .inl h
  · obtain ⟨h1, h2⟩ := hk b cs fz hb hv
    exact .inr ⟨b, off, e, ⟨cs, fz, h1.trans hb⟩, h2, fun j hj => (World.cell?_of_block (w := w) h1).trans (hc j hj)⟩
/-- A row of instructions as it lies: two cells each, their numbers elsewhere. -/
def RowsOf (w : World) (v : Value) (l : List InsL) (xs : List Value) : Prop :=
  ∀ j, j < l.length → ∃ A cap, xs[j * 2]? = some (.int .u8 (l.getD j (0, [])).1) ∧ xs[j * 2 + 1]? = some (.slice A (l.getD j (0, [])).2.length cap) ∧ IntsF w v A (l.getD j (0, [])).2 ∧ (l.getD j (0, [])).1 < 256 ∧ (l.getD j (0, [])).2.length ≤ 769
theorem RowsOf.keep {w w' : World} {v v' : Value} {l : List InsL} {xs : List Value} (h : RowsOf w v l xs) (hk : ∀ b cs fz, w.heap[b]? = some (.cells cs 3 fz) → v.ownBlock ≠ some b → w'.heap[b]? = w.heap[b]? ∧ v'.ownBlock ≠ some b) : RowsOf w' v' l xs := fun j hj => by
  obtain ⟨A, cap, h1, h2, h3, h4, h5⟩ := h j hj
  exact ⟨A, cap, h1, h2, h3.keep hk, h4, h5⟩
theorem RowsOf.snoc {w : World} {v : Value} {l : List InsL} {xs : List Value} (h : RowsOf w v l xs) (hx : xs.length = l.length * 2) (i : InsL) (A : Option Addr) (cap : Nat) (h3 : IntsF w v A i.2) (h4 : i.1 < 256) (h5 : i.2.length ≤ 769) :
    RowsOf w v (l ++ [i]) (xs ++ [.int .u8 i.1, .slice A i.2.length cap]) := fun j hj => by
  by_cases hlt : j < l.length
  · obtain ⟨A', cap', g1, g2, g3, g4, g5⟩ := h j hlt
    have e : (l ++ [i]).getD j (0, []) = l.getD j (0, []) := by simp [List.getD_eq_getElem?_getD, List.getElem?_append, hlt]
    rw [e]
    exact ⟨A', cap', by rw [List.getElem?_append_left (by omega)]; exact g1, by rw [List.getElem?_append_left (by omega)]; exact g2, g3, g4, g5⟩
  · have hj' : j = l.length := by simp at hj; omega
    subst hj'
    have e : (l ++ [i]).getD l.length (0, []) = i := by simp [List.getD_eq_getElem?_getD]
    rw [e]
    refine ⟨A, cap, ?_, ?_, h3, h4, h5⟩
    · rw [List.getElem?_append_right (by omega)]; simp [hx]
    · rw [List.getElem?_append_right (by omega)]; simp [hx]
/-- What holds while All reads. -/
structure AllInv (w : World) (l : List InsL) (p : List Int) (v2 v3 : Value) (wr : World) : Prop where
  row : ∃ xs, wr.ownsRow w.heap.size 25 2 v2 l.length xs ∧ RowsOf wr v3 l xs
  own : wr.ownsRow w.heap.size 3 1 v3 p.length (p.map (Value.int .i64))
  old : Below w.heap.size w wr
theorem own_size {w : World} {B : Nat} {e : TypeId} {size : Nat} {v : Value} {n : Nat} {xs : List Value} (h : w.ownsRow B e size v n xs) {b : Nat} (hb : v.ownBlock = some b) : b < w.heap.size ∧ B ≤ b ∧ ∃ cs, w.heap[b]? = some (.cells cs e (0, 0)) := by
  rcases h.2 with ⟨rfl, _⟩ | ⟨g, cap, cur, rfl, hB, hh, _⟩
  · simp [Value.ownBlock] at hb
  · have : g = b := by simpa [Value.ownBlock] using hb
    subst this
    exact ⟨lt_of_get hh, hB, cur, hh⟩
theorem AllInv.later {w wr wx : World} {l : List InsL} {p : List Int} {v2 v3 : Value} (h : AllInv w l p v2 v3 wr) (hb : Below wr.heap.size wr wx) : AllInv w l p v2 v3 wx := by
  obtain ⟨xs, h1, h2⟩ := h.row
  exact ⟨⟨xs, own_later h1 hb, h2.keep fun b cs fz hh hv => ⟨hb.block b (lt_of_get hh), hv⟩⟩, own_later h.own hb, h.old.trans (hb.mono h.old.size)⟩
/-- A row that Decode made, seen beside v. -/
theorem fresh_ints {wr w5 : World} {v v3 : Value} {args : List Int} (h : w5.ownsRow wr.heap.size 3 1 v args.length (args.map (Value.int .i64))) (hv3 : ∀ b, v3.ownBlock = some b → b < wr.heap.size) : ∃ A cap, v = .slice A args.length cap ∧ IntsF w5 v3 A args := by
  rcases h.2 with ⟨rfl, hn⟩ | ⟨g, cap, cur, rfl, hB, hh, hrest⟩
  · exact ⟨none, 0, by rw [hn], .inl (List.eq_nil_of_length_eq_zero hn)⟩
  · refine ⟨_, cap, rfl, .inr ⟨g, 0, rfl, ⟨cur, _, hh⟩, fun e => by have := hv3 g e; omega, fun j hj => ?_⟩⟩
    have := h.cells (g := g) rfl j (.int .i64 (args.getD j 0)) (by simp [List.getD_eq_getElem?_getD, hj])
    rw [← this]
    unfold Addr.add
    split
    · rename_i e; subst e; rfl
    · simp

/-- The state between the two appends. -/
structure MidInv (w : World) (l : List InsL) (p : List Int) (v2 v3 : Value) (wr : World) : Prop where
  row : ∃ xs, wr.ownsRow w.heap.size 25 2 v2 l.length xs ∧ RowsOf wr v3 l xs
  own : wr.ownsRow w.heap.size 3 1 v3 p.length (p.map (Value.int .i64))
  old : Below w.heap.size w wr
theorem own_ne {w : World} {B B' : Nat} {e e' : TypeId} {s s' : Nat} {v v' : Value} {n n' : Nat} {xs xs' : List Value} (h : w.ownsRow B e s v n xs) (h' : w.ownsRow B' e' s' v' n' xs') (hne : e ≠ e') : v.ownBlock = none ∨ v.ownBlock ≠ v'.ownBlock := by
  cases hv : v.ownBlock with
  | none => exact .inl rfl
  | some b =>
    refine .inr fun hb => ?_
    obtain ⟨_, _, cs, hc⟩ := own_size h hv
    exact own_type_ne h' hc (fun e1 => hne e1.symm) hb.symm
theorem type_ne_own {w : World} {B : Nat} {e t : TypeId} {s : Nat} {v : Value} {n : Nat} {xs : List Value} (h : w.ownsRow B e s v n xs) {b : Nat} {cs : Array Value} {fz : Nat × Nat} (hb : w.heap[b]? = some (.cells cs t fz)) (hne : e ≠ t) : v.ownBlock ≠ some b := by
  intro he
  obtain ⟨_, _, cs', hc⟩ := own_size h he
  rw [hc] at hb
  injection hb with hb
  injection hb with _ ht
  exact hne ht
theorem below_grown_own {w wr wx : World} {B : Nat} {e : TypeId} {s : Nat} {v : Value} {n : Nat} {xs : List Value} (hold : Below B w wr) (hB : B ≤ wr.heap.size) (h : wr.ownsRow B e s v n xs) (hg : wr.grownBy wx v.ownBlock) : Below B w wx :=
  hold.grown hg hB fun b hb => (own_size h hb).2.1
/-- The first append: an instruction more. -/
theorem AllInv.step1 {w W w6 : World} {l : List InsL} {p : List Int} {v2 v3 v2' : Value} {xs : List Value} (n : Nat) (args : List Int) (A : Option Addr) (cap : Nat)
    (h2 : W.ownsRow w.heap.size 25 2 v2 l.length xs) (hr : RowsOf W v3 l xs) (h3 : W.ownsRow w.heap.size 3 1 v3 p.length (p.map (Value.int .i64))) (hold : Below w.heap.size w W)
    (hA : IntsF W v3 A args) (hn : n < 256) (hl : args.length ≤ 769)
    (hown : w6.ownsRow w.heap.size 25 2 v2' (l.length + 1) (xs ++ [.int .u8 n, .slice A args.length cap])) (hg : W.grownBy w6 v2.ownBlock) : MidInv w (l ++ [(n, args)]) p v2' v3 w6 := by
  have hk : ∀ b cs fz, W.heap[b]? = some (.cells cs 3 fz) → v3.ownBlock ≠ some b → w6.heap[b]? = W.heap[b]? ∧ v3.ownBlock ≠ some b := fun b cs fz hb hv =>
    ⟨hg.block b (lt_of_get hb) (fun e => type_ne_own h2 hb (by decide) e.symm), hv⟩
  refine ⟨⟨xs ++ [.int .u8 n, .slice A args.length cap], by simpa using hown, (RowsOf.snoc hr h2.1 (n, args) A cap hA hn hl).keep hk⟩, h3.kept hg (own_ne h3 h2 (by decide)), below_grown_own hold hold.size h2 hg⟩
/-- The second append: its place. -/
theorem MidInv.step2 {w w6 w7 : World} {l : List InsL} {p : List Int} {v2 v3 v3' : Value} {a : Int} (h : MidInv w l p v2 v3 w6) (o : Obj)
    (hown : w7.ownsRow w.heap.size 3 1 v3' (p.length + 1) (p.map (Value.int .i64) ++ [.int .i64 a])) (hg : (w6.alloc o).grownBy w7 v3.ownBlock) (hat : v3'.ownBlock = v3.ownBlock ∨ v3'.ownBlock = some (w6.heap.size + 1)) : AllInv w l (p ++ [a]) v2 v3' w7 := by
  obtain ⟨xs, h2, hr⟩ := h.row
  have h3 := h.own.alloc o
  have hk : ∀ b cs fz, w6.heap[b]? = some (.cells cs 3 fz) → v3.ownBlock ≠ some b → w7.heap[b]? = w6.heap[b]? ∧ v3'.ownBlock ≠ some b := fun b cs fz hb hv => by
    have hlt := lt_of_get hb
    refine ⟨(hg.block b (by simp; omega) (fun e => hv e.symm)).trans (Below.heap_alloc w6 o b hlt), ?_⟩
    rcases hat with e | e
    · rw [e]; exact hv
    · rw [e]; intro e2; simp at e2; omega
  refine ⟨⟨xs, (h2.alloc o).kept hg (own_ne (h2.alloc o) h3 (by decide)), hr.keep hk⟩, by simpa using hown, ?_⟩
  exact below_grown_own (h.old.alloc h.old.size o) (by have := h.old.size; simp; omega) h3 hg
theorem ins_info : (Tryd.prog.info? 25).map (fun i => (i.zero, i.size, i.bytes)) = some (some (.agg #[.int .u8 0, .slice none 0 0]), 2, 32) := by kernel_rfl

theorem news2 (w : World) (o : Obj) (x y : Value) (t : TypeId) : ∀ j u, [x, y][j]? = some u → ((w.alloc o).alloc (.cells #[x, y] t)).cell? ((⟨w.heap.size + 1, 0, none⟩ : Addr).add j) = some u := by
  intro j u hj
  have hb : ((w.alloc o).alloc (.cells #[x, y] t)).heap[w.heap.size + 1]? = some (.cells #[x, y] t) := by
    have := heap_alloc_new (w.alloc o) (.cells #[x, y] t)
    rwa [World.size_alloc] at this
  rcases j with _ | _ | j
  · simp at hj; subst hj
    show World.cell? _ ⟨w.heap.size + 1, 0, none⟩ = _
    unfold World.cell?; rw [hb]; rfl
  · simp at hj; subst hj
    show World.cell? _ ⟨w.heap.size + 1, 0 + 1, none⟩ = _
    unfold World.cell?; rw [hb]; rfl
  · simp at hj
/-- How All ends. -/
def AllEnd (w : World) (r : List InsL × List Int × Int) (e : Ending) (w' : World) : Prop :=
  ∃ v2 v3, e = .returned (.tuple #[v2, v3, .int .i64 r.2.2]) ∧ AllInv w r.1 r.2.1 v2 v3 w'

set_option maxHeartbeats 1000000 in
theorem all_any (s : List UInt8) (hs : s.length ≤ 4294967296) (w : World) (ht : Tab w) :
    Calls Tryd.prog 11 #[.string ⟨s.toArray⟩] w (AllEnd w (allL s)) := by
  by_cases hlong : 65535 < s.length
  · have HR := Lib.hid (show allL s = ([], [], 5) by unfold allL; rw [if_pos hlong])
    go_enter Tryd.func11, Tryd.ntmps11
    go_wp2_with fail
    go_ret3
    rw [HR.out]
    exact ⟨_, _, rfl, ⟨[], ⟨rfl, .inl ⟨rfl, rfl⟩⟩, fun j hj => by simp at hj⟩, ⟨rfl, .inl ⟨rfl, rfl⟩⟩, Below.refl _ _⟩
  · have hd : decide (65535 < (s.length : Int)) = false := by simp; omega
    have HR := Lib.hid (show allL s = joinA [] [] (allGo s (s.length + 1) 0) by
      unfold allL; rw [if_neg hlong, join_nil])
    generalize allL s = res at *
    obtain ⟨i0, hi0, hz0, hz1, hz2⟩ := info_parts int_info
    obtain ⟨j0, hj0, hy0, hy1, hy2⟩ := info_parts ins_info
    go_enter Tryd.func11, Tryd.ntmps11
    go_wp2_with fail
    go_loopg [2, 3, 5] s.length (fun g v2 v3 i wr => ∃ (a f : Nat) (l : List InsL) (p : List Int), a + g = s.length ∧ s.length < a + f + 1 ∧ i = .int .i64 a ∧ res = joinA l p (allGo s (f + 1) a) ∧ l.length ≤ a ∧ p.length = l.length ∧ AllInv w l p v2 v3 wr)
    case atStart => exact ⟨0, s.length, [], [], by omega, by omega, rfl, HR.out, Nat.le_refl _, rfl, ⟨[], ⟨rfl, .inl ⟨rfl, rfl⟩⟩, fun j hj => by simp at hj⟩, ⟨rfl, .inl ⟨rfl, rfl⟩⟩, Below.refl _ _⟩
    case round =>
      clear HR
      obtain ⟨a, f, l, p, ha, hf, rfl, hres, hla, hpl, hI⟩ := hrel
      have HI := Lib.hid hI
      have HRES := Lib.hid hres
      have HP := Lib.hid hpl
      have htr := Lib.hid (ht.later hI.old)
      clear hI hres hpl
      by_cases hlt : a < s.length
      · have HERR := Lib.hid (fun h => join_err s f a hlt h l p)
        have HSTEP := Lib.hid (fun h => join_step s f a hlt h l p)
        have HNEXT := Lib.hid (decode_next s a hlt)
        go_wp2_with fail
        refine (decode_any s hs a _ htr.out).mono ?_
        rintro e w5 ⟨v, rfl, hv, hb5⟩
        obtain ⟨A, cap, hvv, hA⟩ := fresh_ints (v3 := u3) hv (fun b hb => (own_size HI.out.own hb).1)
        subst hvv
        have HA := Lib.hid hA
        have HI5 := Lib.hid (HI.out.later hb5)
        clear hv hA hb5 HI
        generalize hdd : decodeL s (a : Int) = d at *
        clear hdd
        obtain ⟨⟨n, args⟩, nx, er⟩ := d
        simp only at HERR HSTEP HNEXT HA ⊢
        by_cases her : er = 0
        · have e1 : (er != 0) = false := by simp [her]
          obtain ⟨b, hnb, hab, hbs, hn, hl⟩ := HNEXT.out her
          subst hnb
          have HS := Lib.hid (HSTEP.out her)
          clear HSTEP HERR her
          obtain ⟨xs, hx2, hxr⟩ := HI5.out.row
          have hx3 := HI5.out.own
          have hw5 := HI5.out.old.size
          have B2 := Lib.hid ((hx2.alloc (.cells #[.int .u8 n, .slice A args.length cap] 25)).alloc (.cells #[.int .u8 n, .slice A args.length cap] 25))
          have hbl : Below w5.heap.size w5 ((w5.alloc (.cells #[.int .u8 n, .slice A args.length cap] 25)).alloc (.cells #[.int .u8 n, .slice A args.length cap] 25)) := ((Below.refl _ _).alloc (Nat.le_refl _) _).alloc (by simp) _
          have B3 := Lib.hid (own_later hx3 hbl)
          have BR := Lib.hid (hxr.keep (v' := u3) fun b cs fz hh hv => ⟨hbl.block b (lt_of_get hh), hv⟩)
          have BA := Lib.hid (HA.out.keep (v' := u3) fun b cs fz hh hv => ⟨hbl.block b (lt_of_get hh), hv⟩)
          have BO := Lib.hid (HI5.out.old.trans (hbl.mono hw5))
          have hm1 : l.length + 1 ≤ maxLen := by unfold maxLen; omega
          have hm2 : (l.length + 1) * 32 ≤ 140737488355328 := by omega
          have hm3 : p.length + 1 ≤ maxLen := by rw [HP.out]; exact hm1
          have hm4 : (p.length + 1) * 8 ≤ 140737488355328 := by rw [HP.out]; omega
          clear hx2 hxr hx3 hbl HA HI5
          go_wp2_with (first
            | (at_builtin; refine wpList_append_own_at _ rfl (.tmp 26) (.tmp 28) 31 rfl w.heap.size 25 j0 _ 2 32 Tryd.underlying31 hj0 hy0 hy1 hy2 rfl (by omega) u2 l.length xs rfl B2.out ⟨w5.heap.size + 1, 0, none⟩ 1 1 [.int .u8 n, .slice A args.length cap] rfl rfl (news2 _ _ _ _ _) (by simp [Value.oneCell']) hm1 hm2 (by simp; omega) ?_; intro v2' w6 hown6 hg6 _ hat6; have M := Lib.hid (AllInv.step1 n args A cap B2.out BR.out B3.out BO.out BA.out hn hl hown6 hg6); clear hown6 hg6 hat6)
            | (at_builtin; refine wpList_append_own_at _ rfl (.tmp 30) (.tmp 32) 23 rfl w.heap.size 3 i0 _ 1 8 Tryd.underlying23 hi0 hz0 hz1 hz2 rfl (by omega) u3 p.length (p.map (Value.int .i64)) rfl (M.out.own.alloc _) ⟨w6.heap.size, 0, none⟩ 1 1 [.int .i64 a] rfl rfl (cell_one_new _ _ _) (by simp [Value.oneCell']) hm3 hm4 (by have := M.out.old.size; simp; omega) ?_; intro v3' w7 hown7 hg7 _ hat7; have N := Lib.hid (M.out.step2 _ hown7 hg7 (by simpa using hat7)); clear hown7 hg7 hat7))
          go_roundg (s.length - b)
          case measure => omega
          case rel =>
            obtain ⟨f', rfl⟩ : ∃ f', f = f' + 1 := ⟨f - 1, by omega⟩
            refine ⟨b, f', l ++ [(n, args)], p ++ [(a : Int)], by omega, by omega, rfl, ?_, by simp; omega, by simp [HP.out], N.out⟩
            rw [HRES.out, HS.out, Int.toNat_natCast]
        · have e1 : (er != 0) = true := by simp [her]
          have HE := Lib.hid (HERR.out her)
          have HO := Lib.hid (HI5.out.old)
          clear HERR HSTEP HNEXT her HA HI5
          go_wp2_with fail
          go_ret3
          rw [HRES.out, HE.out]
          exact ⟨_, _, rfl, ⟨[], ⟨rfl, .inl ⟨rfl, rfl⟩⟩, fun j hj => by simp at hj⟩, ⟨rfl, .inl ⟨rfl, rfl⟩⟩, HO.out.alloc HO.out.size _⟩
      · have HE := Lib.hid (join_end s f a hlt l p)
        have hge : s.length ≤ a := by omega
        clear hlt
        go_wp2_with fail
        go_ret3
        rw [HRES.out, HE.out]
        exact ⟨_, _, rfl, HI.out⟩
end Go.Proofs.YtgcmenjpcgdikaaDoor
