/- strings.Contains, as a hook of the engine. Condition: what each theorem says. -/
import Derived.Test.YtiibijhldlillaaGreatHa
import Derived.Test.YtiibijhldlillaaGreatShelf
import Derived.Test.YtiibijhldlillaaGreatHb
import Derived.Test.YtiibijhldlillaaGreatEh
namespace Go.Proofs.Tryz
open Go.Proofs.YtiibijhldlillaaGreat.Eng
set_option maxRecDepth 100000
theorem bys_size (l : List Nat) : (bys l).size = l.length := by
  show ((l.map UInt8.ofNat).toArray).size = _
  simp
theorem bys_list (l : List Nat) : (bys l).data.toList = l.map UInt8.ofNat := by
  show ((l.map UInt8.ofNat).toArray).toList = _
  simp
theorem contains_enters : Enters Tryz.prog 463 := enters_of Tryz.func463 (by kernel_rfl) rfl
/-- **strings.Contains, as the run tells it**: the block of the longest needle stands. -/
theorem contains_hook [FX] {s s' : St} {e : En} {w : World} {args : List AV} {v : AV} {vs : Array Value} (hx : contX s args = some (v, s')) (hr : Rep e s w) (hl : RL e s.next args vs.toList) {ob : Obj} {m : Int} (hf : FX.F 0 = some ob) (hm : ∀ w : World, w.heap[0]? = some ob → w.cell? ⟨0, 0, none⟩ = some (.int .i64 m))
    {o : Oper} {a : Act} {K : Act → World → Prop} {Q : Exit → Act → World → Prop} (hK : ∀ e' w' u, Stp e s w e' s' w' → R e' s'.next v u → K (a.put o.dst u) w') : o.upon Tryz.prog a K Q ((callFunc 463 vs).run Tryz.prog w) := by
  obtain ⟨x, y, rfl, hlt, rfl, rfl⟩ := contX_inv hx
  obtain ⟨h1, h2, rfl⟩ := two_strs hl
  rw [lenR_eq] at hlt
  have hc := Tryz.strings_Contains (bys x) (bys y) m w (by rw [bys_size]; exact hlt) (hm w (hr.fx 0 ob hf).1)
  refine pure_upon hr (contains_enters _ w) hc ?_ hK
  rw [bys_list, bys_list, ← cont_eq h2 h1]
  rfl

open Go.Proofs.YtiibijhldlillaaGreat.Eng
set_option maxRecDepth 100000
theorem b0_tb [FX] : TbOk Tryz.prog B0 := tb_ok _ _ _ (by kernel_rfl)
theorem b0_ext [FX] {ob : Obj} {m : Int} (hf : FX.F 0 = some ob) (hm : ∀ w : World, w.heap[0]? = some ob → w.cell? ⟨0, 0, none⟩ = some (.int .i64 m)) : ExtOk Tryz.prog B0 := by
  intro f c args s s' v e w vs h hx hr hgl hl o a K Q hK
  replace h : (T.set .leaf 463 0).at_ f = some c := h
  rw [T.at_set] at h
  by_cases hfe : 463 = f
  · rw [if_pos hfe] at h
    cases h
    subst hfe
    exact contains_hook (show contX s args = some (v, s') from hx) hr hl hf hm hK
  · rw [if_neg hfe, T.at_leaf] at h
    cases h
theorem mixed : Tryz.prog.follows .mixedOrders = true := by kernel_rfl
/-- Every run of the engine is told, at this program. -/
theorem b0_all [FX] {ob : Obj} {m : Int} (hf : FX.F 0 = some ob) (hm : ∀ w : World, w.heap[0]? = some ob → w.cell? ⟨0, 0, none⟩ = some (.int .i64 m)) (n : Nat) : (OpsOk Tryz.prog B0 n ∧ CodeOk Tryz.prog B0 n ∧ FnOk Tryz.prog B0 n) ∧ LvOk Tryz.prog B0 n ∧ RfnOk Tryz.prog B0 n ∧ RopsOk Tryz.prog B0 n ∧ RcodeOk Tryz.prog B0 n :=
  all_ok b0_tb (b0_ext hf hm) mixed n

open Go.Proofs.YtiibijhldlillaaGreat.Eng
set_option maxRecDepth 100000
open Go.RowKit (Below)
theorem heapN_at {c0 : Nat} {L : List (AV × AV)} {b : Nat} {o : AObj} (h : (heapN c0 L).at_ b = some o) : (b = c0 ∧ o = .map .str L) ∨ (b = c0 + 1 ∧ o = rowN c0) ∨ (b = c0 + 2 ∧ o = boxN c0) := by
  unfold heapN at h
  rw [T.at_set, T.at_set, T.at_set] at h
  by_cases h2 : c0 + 2 = b
  · rw [if_pos h2] at h; cases h; exact .inr (.inr ⟨h2.symm, rfl⟩)
  · rw [if_neg h2] at h
    by_cases h1 : c0 + 1 = b
    · rw [if_pos h1] at h; cases h; exact .inr (.inl ⟨h1.symm, rfl⟩)
    · rw [if_neg h1] at h
      by_cases h0 : c0 = b
      · rw [if_pos h0] at h; cases h; exact .inl ⟨h0.symm, rfl⟩
      · rw [if_neg h0, T.at_leaf] at h; cases h
theorem heapN_0 (c0 : Nat) (L : List (AV × AV)) : (heapN c0 L).at_ c0 = some (.map .str L) := by
  unfold heapN
  rw [T.at_set, T.at_set, T.at_set, if_neg (by omega), if_neg (by omega), if_pos rfl]
theorem heapN_1 (c0 : Nat) (L : List (AV × AV)) : (heapN c0 L).at_ (c0 + 1) = some (rowN c0) := by
  unfold heapN
  rw [T.at_set, T.at_set, if_neg (by omega), if_pos rfl]
theorem heapN_2 (c0 : Nat) (L : List (AV × AV)) : (heapN c0 L).at_ (c0 + 2) = some (boxN c0) := by
  unfold heapN
  rw [T.at_set, if_pos rfl]
/-- Down to what is wanted. -/
theorem toN [FX] {c0 : Nat} {L : List (AV × AV)} {s : St} (h0 : s.heap.at_ c0 = some (.map .str L)) (h1 : s.heap.at_ (c0 + 1) = some (rowN c0)) (h2 : s.heap.at_ (c0 + 2) = some (boxN c0)) : ∀ b o, (heapN c0 L).at_ b = some o → s.heap.at_ b = some o := fun b o h => by
  rcases heapN_at h with ⟨rfl, rfl⟩ | ⟨rfl, rfl⟩ | ⟨rfl, rfl⟩
  · exact h0
  · exact h1
  · exact h2
theorem five_plain : ∀ p ∈ five, plainP p := fun p h => by
  rcases in5 h with rfl | rfl | rfl | rfl | rfl <;> exact ⟨trivial, trivial⟩
theorem itemOf_fst (ps : List (AV × AV)) : (ps.map itemOf).map Prod.fst = ps.map Prod.fst := by
  rw [List.map_map]; rfl
/-- What holds at a round's start. -/
structure NI [FX] (e : En) (c0 : Nat) (w : World) (q it : Nat) (ents xs : List MapEntry) (a' : Act) (w' : World) : Prop where
  mk ::
  all : ∃ e', Far e c0 w e' (Sx c0 xs.length ((xs.map pOf).map itemOf)) w' ∧ Off e' (Sx c0 xs.length ((xs.map pOf).map itemOf)) w' q ∧ Off e' (Sx c0 xs.length ((xs.map pOf).map itemOf)) w' it ∧ RTm e' (c0 + 4 + 2 * xs.length) ns87 (tmL c0 it) a'
  wk : Wk q it ents xs w'
  far : w.heap.size ≤ q ∧ w.heap.size ≤ it
  ne : q ≠ it
  sz : a'.tmps.size = 52
  ds : a'.defers = []
theorem Wk.len {q it : Nat} {es xs : List MapEntry} {w : World} (h : Wk q it es xs w) : xs.length ≤ es.length := by
  obtain ⟨_, _, _, _, rfl, _, _, h⟩ := h
  rw [h.length_eq]
  exact List.length_filter_le _ _
theorem Wk.nodup {α : Type} {g : MapEntry → α} {q it : Nat} {es xs : List MapEntry} {w : World} (h : Wk q it es xs w) (hn : (es.map g).Nodup) : (xs.map g).Nodup := by
  obtain ⟨_, _, _, _, rfl, _, _, h⟩ := h
  exact ((h.map g).nodup_iff).2 ((List.filter_sublist.map g).nodup hn)
theorem Wk.mem {q it : Nat} {es xs : List MapEntry} {w : World} (h : Wk q it es xs w) {x : MapEntry} (hx : x ∈ xs) : x ∈ es := by
  obtain ⟨_, _, _, _, rfl, _, _, h⟩ := h
  exact (List.mem_filter.1 (h.mem_iff.1 hx)).1
theorem R_plain {e e' : En} {k k' : Nat} {p : AV} {v : Value} (hp : match p with | .str _ => True | .int _ _ => True | _ => False) (h : R e k p v) : R e' k' p v := by
  cases p <;> first | exact h | exact hp.elim
theorem RKV.pick {e : En} {k : Nat} : ∀ {ps : List (AV × AV)} {l : List MapEntry}, RKV e k ps (l.map fun x => (x.key, x.val)) → ∀ x ∈ l, ∃ p ∈ ps, R e k p.1 x.key ∧ R e k p.2 x.val
  | [], [], _, x, hx => by cases hx
  | [], _ :: _, h, _, _ => by cases h
  | p :: ps, [], h, x, hx => by cases hx
  | p :: ps, y :: l, h, x, hx => by
    obtain ⟨u, v, r, h1, h2, h3, h4⟩ := h
    injection h1 with h5 h6
    injection h5 with h7 h8
    subst h7 h8 h6
    rcases List.mem_cons.1 hx with rfl | hx
    · exact ⟨p, by simp, h2, h3⟩
    · obtain ⟨p', h5, h6⟩ := RKV.pick h4 x hx
      exact ⟨p', by simp [h5], h6⟩
theorem toL [FX] {e : En} {k k' : Nat} {tm : Tm} {a : Act} {it c0 : Nat} (t : RTm e k ns87 tm a) (h1 : ev (mvT ns87 1) tm = .ptr (c0 + 2) 0) (h13 : ev (mvT ns87 13) tm = .lit (.pointer (some ⟨it, 0, none⟩))) (hk : k ≤ k') : RTm e k' ns87 (tmL c0 it) a :=
  RTm.two (t.1.ext (Ext.refl _ _) hk) (by have h := t.2 1; rw [h1] at h; exact h.ext (Ext.refl _ _) hk) (by have h := t.2 13; rw [h13] at h; exact h)
theorem res87 : Tryz.f87.results.toList = [.tmp 0] := by kernel_rfl
theorem new_loc [FX] {c0 : Nat} (F : NewFacts c0) {ob : Obj} {m : Int} (hf : FX.F 0 = some ob) (hm : ∀ w : World, w.heap[0]? = some ob → w.cell? ⟨0, 0, none⟩ = some (.int .i64 m)) : Go.Proofs.YtiibijhldlillaaGreat.Eng.Loc Tryz.prog 87 [] c0 (c0 + 55) (.ptr (c0 + 2) 0) (nil3 c0) := by
  intro e w vs hr hgl hl o a K Q hK
  obtain ⟨⟨hO, hC, _⟩, _⟩ := b0_all hf hm 100000
  have hvs : vs = #[] := Array.toList_inj.1 (show vs.toList = [] from hl)
  subst hvs
  obtain ⟨hfn, hcall⟩ := callFunc_body b0_tb fn87 newB_eq #[] w
  rw [hcall, Oper.upon_enter]
  refine calls_of_wp_defers hfn newB_eq ?_
  generalize hA : ({ tmps := #[] ++ Array.replicate (Tryz.f87.ntmps - (#[] : Array Value).size) undef, defers := [] } : Act) = a0
  have hsz : a0.tmps.size = ntOf B0 87 := by rw [← hA, nt87]; kernel_rfl
  have hd : a0.defers = [] := by rw [← hA]
  have T0 : RTm e c0 (nsOf B0 87) ⟨.leaf, .nil⟩ a0 := RTm.none hgl
  refine wp_seq (code_now hC hr T0 hsz hd F.a0 fun e1 a1 w1 st1 t1 sz1 d1 => ?_)
  refine wp_seq (code_now hC st1.rep t1 sz1 d1 F.a1 fun e2 a2 w2 st2 t2 sz2 d2 => ?_)
  have F2 : Far e c0 w e2 (okS (A1 c0)) w2 := ((Far.start hr).step st1).step st2
  obtain ⟨tm3, s3, hA2, p0, p1, p2, pn, v1, _, v12⟩ := seeN_inv F.a2
  have pm : s3.heap.at_ (c0 + 3) = some (.map .str five) := by
    have := F.a2m
    rw [hA2] at this
    exact this
  refine wp_seq (wp_seq (wp_region_list (wpList_cut ops2_eq ?_)))
  refine ops_now hO st2.rep t2.fresh (by rw [sz2, nt87]) d2 hA2 fun e3 a3 w3 st3 t3 sz3 d3 => ?_
  have F3 := F2.step st3
  -- the map that is gone through
  obtain ⟨m1, m2, r, m3, m4⟩ := F3.rep.obj _ _ pm
  obtain ⟨ents, clock, es', rfl, k1, k2, k3⟩ := m4
  have hq := F3.far _ _ pm
  generalize hqe : e3.σ (c0 + 3) = q at *
  have hback : ents.toList.map pOf = es' := RKV.back k1 (fun p hp => five_plain p (k2.1.mem_iff.2 hp))
  have hlen5 : ents.toList.length = 5 := by
    have h1 := congrArg List.length hback
    have h2 := k2.1.length_eq
    rw [List.length_map] at h1
    rw [h1, ← h2]; rfl
  obtain ⟨kt, et, hmt⟩ := map268
  obtain ⟨x1, x2⟩ := wk_range (P := Tryz.prog) hmt m3 k3
  have hev12 : a3.eval (.tmp 12) = .map (some q) := by
    have h : R e3 s3.next (ev (mvT ns87 12) tm3) _ := t3.2 12
    rw [v12] at h
    rw [← hqe]
    exact h.2
  refine wpList_hand op27.2.2 (exec_range op27.1 hev12 x1) (wpList_nil ?_)
  rw [op27.2.1]
  -- the loop
  refine wp_block ?_
  have hS3 : ∀ b o, (heapN c0 []).at_ b = some o → s3.heap.at_ b = some o := toN p0 p1 p2
  have F4 : Far e c0 w e3 (Sx c0 0 []) (w3.alloc (.mapIter (some q) clock #[] clock)) := (F3.more _).drop (s' := Sx c0 0 []) hS3 (by show s3.next ≤ c0 + 4 + 2 * 0; omega)
  refine wp_walk (N := 5) (I := NI e c0 w q w3.heap.size ents.toList) (fun xs a w h => by rw [← hlen5]; exact Wk.len h.wk) ?_ ?_
  case refine_2 =>
    have hoff : Off e3 (Sx c0 0 []) (w3.alloc (.mapIter (some q) clock #[] clock)) q := ⟨by have := (Array.getElem?_eq_some_iff.1 m3).1; simp; omega, fun b o hb he => by
      have h1 := F3.rep.inj _ _ _ _ (hS3 b o hb) pm (by rw [he, hqe])
      rcases heapN_at hb with ⟨rfl, _⟩ | ⟨rfl, _⟩ | ⟨rfl, _⟩ <;> omega⟩
    refine ⟨⟨e3, F4, hoff, ⟨by simp, fun b o hb he => ?_⟩, ?_⟩, x2, ⟨hq, F3.below.size⟩, ?_, ?_, ?_⟩
    · have := (F3.rep.obj b o (hS3 b o hb)).2.1
      omega
    · refine RTm.two (t3.1.ext (Ext.refl _ _) (by show s3.next ≤ c0 + 4 + 2 * 0; omega)) ?_ ?_
      · have h : R e3 s3.next (ev (mvT ns87 1) tm3) _ := t3.2 1
        rw [v1] at h
        rw [(put_getD a3 (some 13) _ 1).2.2 (by decide)]
        exact h.ext (Ext.refl _ _) (by show s3.next ≤ c0 + 4 + 2 * 0; omega)
      · rw [(put_getD a3 (some 13) _ 13).1 rfl (by rw [sz3]; decide)]
        rfl
    · have := (Array.getElem?_eq_some_iff.1 m3).1
      omega
    · rw [put_size]; exact sz3
    · rw [put_defers]; exact d3
  case refine_1 =>
    intro xs a4 w4 I
    obtain ⟨⟨e4, G4, oq, oi, t4⟩, wk, ⟨fq, fi⟩, hne, sz4, d4⟩ := I
    generalize hit : w3.heap.size = it at *
    rw [newL_eq]
    have hev13 : a4.eval (.tmp 13) = .pointer (some ⟨it, 0, none⟩) := by
      have h := t4.2 13
      rw [show ev (mvT ns87 13) (tmL c0 it) = .lit (.pointer (some ⟨it, 0, none⟩)) from by kernel_rfl] at h
      exact h
    have ht4 : RTm e4 (Sx c0 xs.length ((xs.map pOf).map itemOf)).next ns87 (tmL c0 it) a4 := t4
    have hlt4 : ∀ d, (some 14 : Option Nat) = some d → d < a4.tmps.size := fun d hd => by cases hd; rw [sz4]; decide
    have hlt16 : ∀ {a : Act}, a.tmps.size = 52 → ∀ d, (some 16 : Option Nat) = some d → d < a.tmps.size := fun hs d hd => by cases hd; rw [hs]; decide
    refine wp_seq (wp_region_list ?_)
    rw [ops3_eq]
    rcases wk_next (P := Tryz.prog) wk hne (opN ops3 0).type with ⟨hp, hnx⟩ | ⟨x, hxe, hxn, w5, hnx, wk5, hbut, hen⟩
    · -- nothing is left
      have hlen : xs.length = 5 := by rw [hp.length_eq, hlen5]
      refine wpList_hand op30.2.2 (exec_next op30.1 hev13 hnx) ?_
      rw [op30.2.1]
      have tA : RTm e4 (Sx c0 xs.length ((xs.map pOf).map itemOf)).next ns87 (put (md ns87 (some 14)) (.tup (.bool false :: [])) (tmL c0 it)) (a4.put (some 14) (.tuple #[.bool false])) := RTm.put ht4 (show R e4 _ (.tup (.bool false :: [])) (.tuple #[.bool false]) from ⟨_, rfl, _, _, rfl, rfl, rfl⟩) (fun d hd => .inl (hlt4 d hd))
      obtain ⟨tm5, s5, hA3, q0, q1, q2, qn, y1, y13, y15⟩ := seeN_inv (F.a3 xs.length it (.bool false) [] ((xs.map pOf).map itemOf) (by omega) (.inr rfl))
      refine ops_now hO G4.rep tA (by rw [put_size]; exact sz4) (by rw [put_defers]; exact d4) hA3 fun e6 a6 w6 st6 t6 sz6 d6 => ?_
      have h15 : a6.eval (.tmp 15) = .bool false := by
        have h : R e6 s5.next (ev (mvT ns87 15) tm5) (a6.tmps.getD 15 undef) := t6.2 15
        rw [y15] at h
        exact h
      refine wp_seq (wp_cond_false h15 (wp_exit ?_))
      simp only [Exit.then, Exit.inBlock, if_true]
      have F6 : Far e c0 w e6 (Sx c0 5 ((xs.map pOf).map itemOf)) w6 := (G4.step st6).drop (toN q0 q1 q2) (by show s5.next ≤ c0 + 4 + 2 * 5; rw [hlen] at qn; exact qn)
      have hperm : (five.map itemOf).Perm ((xs.map pOf).map itemOf) := by
        refine List.Perm.map _ ?_
        refine k2.1.trans ?_
        rw [← hback]
        exact (hp.map pOf).symm
      have F7 : Far e c0 w e6 (Sx c0 5 (five.map itemOf)) w6 := F6.perm (heapN_0 _ _) hperm rfl fun c => by
        show (heapN c0 _).at_ c = if c0 = c then _ else (heapN c0 _).at_ c
        unfold heapN
        rw [T.at_set, T.at_set, T.at_set, T.at_set, T.at_set, T.at_set]
        by_cases hc : c0 = c
        · subst hc
          rw [if_pos rfl, if_neg (by omega), if_neg (by omega), if_pos rfl]
        · rw [if_neg hc, if_neg hc, if_neg hc]
      obtain ⟨tm9, s9, hA6, r0, r1, r2, rn, _, _, r00⟩ := seeR_inv (F.a6 it)
      refine code_now hC F7.rep (toL t6 y1 y13 (by show s5.next ≤ c0 + 4 + 2 * 5; rw [hlen] at qn; exact qn)) (by rw [sz6, nt87]) d6 hA6 fun e9 a9 w9 st9 t9 sz9 d9 => ?_
      show Leaves Tryz.prog Tryz.f87 a9.tmps _ a9.defers .returning w9
      rw [d9]
      let Z : Ending → World → Prop := fun
        | .returned v, w'' => K (a.put o.dst v) w''
        | .panicked chain, w'' => Q (.panic chain) a w''
        | .outgrown, _ => LetsOut Q
      suffices hz : EndQ e9 s9 w9 Z (ret1 87 Tryz.f87 B0 tm9 s9) from ret1_q (P := Tryz.prog) b0_tb st9.rep t9 hz
      unfold ret1
      rw [res87]
      intro e10 w10 x10 st10 hx10
      have F10 : Far e c0 w e10 ⟨heapN c0 items, c0 + 55, []⟩ w10 := ((F7.step st9).step st10).drop (toN r0 r1 r2) rn
      have hx11 : R e10 s9.next (.ptr (c0 + 2) 0) x10 := by
        have h : R e10 s9.next (ev (mvT ns87 0) tm9) x10 := hx10
        rw [r00] at h
        exact h
      refine hK e10 w10 x10 _ (F10.stp rfl fun b hb => ?_) (Nat.le_refl _) ?_ (hx11.ext (Ext.refl _ _) rn)
      · cases hh : (⟨heapN c0 items, c0 + 55, []⟩ : St).heap.at_ b with
        | none => rfl
        | some o => rcases heapN_at hh with ⟨rfl, _⟩ | ⟨rfl, _⟩ | ⟨rfl, _⟩ <;> omega
      · intro z hz
        rcases List.mem_cons.1 hz with rfl | hz
        · exact ⟨Nat.le_refl _, _, heapN_0 _ _, fun _ _ h => h⟩
        rcases List.mem_cons.1 hz with rfl | hz
        · exact ⟨Nat.le_succ _, _, heapN_1 _ _, fun _ _ h => h⟩
        rcases List.mem_cons.1 hz with rfl | hz
        · exact ⟨Nat.le_add_right _ _, _, heapN_2 _ _, fun _ _ h => h⟩
        cases hz
    · have hx5 : (xs ++ [x]).length ≤ 5 := by rw [← hlen5]; exact Wk.len wk5
      have hi5 : xs.length < 5 := by rw [List.length_append, List.length_singleton] at hx5; omega
      have hpf : pOf x ∈ five := by
        have : pOf x ∈ ents.toList.map pOf := List.mem_map.2 ⟨x, hxe, rfl⟩
        rw [hback] at this
        exact k2.1.mem_iff.2 this
      have hpl := five_plain _ hpf
      obtain ⟨p', hp', hk1, hk2⟩ := RKV.pick k1 x hxe
      have hpp : p' = pOf x := by
        have h5 := five_plain p' (k2.1.mem_iff.2 hp')
        unfold pOf
        rw [R_back h5.1 hk1, R_back h5.2 hk2]
      subst hpp
      refine wpList_hand op30.2.2 (exec_next op30.1 hev13 hnx) ?_
      rw [op30.2.1]
      have G5 : Far e c0 w e4 (Sx c0 xs.length ((xs.map pOf).map itemOf)) w5 := G4.side fi oi.2 hbut
      have tA : RTm e4 (Sx c0 xs.length ((xs.map pOf).map itemOf)).next ns87 (put (md ns87 (some 14)) (.tup (.bool true :: [.bot, .bot])) (tmL c0 it)) (a4.put (some 14) (.tuple #[.bool true, x.key, x.val])) := RTm.put ht4 (show R e4 _ (.tup (.bool true :: [.bot, .bot])) (.tuple #[.bool true, x.key, x.val]) from ⟨_, rfl, _, _, rfl, rfl, _, _, rfl, trivial, _, _, rfl, trivial, rfl⟩) (fun d hd => .inl (hlt4 d hd))
      obtain ⟨tm5, s5, hA3, q0, q1, q2, qn, y1, y13, y15⟩ := seeN_inv (F.a3 xs.length it (.bool true) [.bot, .bot] ((xs.map pOf).map itemOf) (by omega) (.inl rfl))
      refine ops_now hO G5.rep tA (by rw [put_size]; exact sz4) (by rw [put_defers]; exact d4) hA3 fun e6 a6 w6 st6 t6 sz6 d6 => ?_
      have h15 : a6.eval (.tmp 15) = .bool true := by
        have h : R e6 s5.next (ev (mvT ns87 15) tm5) (a6.tmps.getD 15 undef) := t6.2 15
        rw [y15] at h
        exact h
      have oq5 : Off e4 (Sx c0 xs.length ((xs.map pOf).map itemOf)) w5 q := ⟨by rw [hbut.size]; exact oq.1, oq.2⟩
      have oi5 : Off e4 (Sx c0 xs.length ((xs.map pOf).map itemOf)) w5 it := ⟨by rw [hbut.size]; exact oi.1, oi.2⟩
      have hN6 := toN q0 q1 q2
      have G6 : Far e c0 w e6 (Sx c0 xs.length ((xs.map pOf).map itemOf)) w6 := (G5.step st6).drop hN6 qn
      have oq6 : Off e6 (Sx c0 xs.length ((xs.map pOf).map itemOf)) w6 q := ⟨(oq5.step st6).1.1, fun b o hb => (oq5.step st6).1.2 b o (hN6 b o hb)⟩
      have oi6 : Off e6 (Sx c0 xs.length ((xs.map pOf).map itemOf)) w6 it := ⟨(oi5.step st6).1.1, fun b o hb => (oi5.step st6).1.2 b o (hN6 b o hb)⟩
      have hq6 := (oq5.step st6).2
      have hi6 := (oi5.step st6).2
      have wk6 := wk5.keep hq6 hi6
      refine wp_seq (wp_cond_true h15 (wp_skip ?_))
      refine wp_block (wp_seq (wp_region_list ?_))
      rw [ops4_eq]
      have hev6 : a6.eval (.tmp 13) = .pointer (some ⟨it, 0, none⟩) := by
        have h : R e6 s5.next (ev (mvT ns87 13) tm5) (a6.tmps.getD 13 undef) := t6.2 13
        rw [y13] at h
        exact h
      refine wpList_hand op40.2.2 (exec_entry op40.1 hev6 (hen w6 hq6 hi6)) ?_
      rw [op40.2.1]
      have tB : RTm e6 (Sx c0 xs.length ((xs.map pOf).map itemOf)).next ns87 (put (md ns87 (some 16)) (.tup [(pOf x).1, (pOf x).2]) (tmL c0 it)) (a6.put (some 16) (.tuple #[x.key, x.val])) :=
        RTm.put (toL t6 y1 y13 qn) (show R e6 _ (.tup [(pOf x).1, (pOf x).2]) (.tuple #[x.key, x.val]) from ⟨_, rfl, _, _, rfl, R_plain hpl.1 hk1, _, _, rfl, R_plain hpl.2 hk2, rfl⟩) (fun d hd => .inl (hlt16 sz6 d hd))
      obtain ⟨tm7, s7, hA4, u0, u1, u2, un, z1, z13, _⟩ := seeN_inv (F.a4 xs.length it (pOf x) ((xs.map pOf).map itemOf) hi5 hpf)
      refine ops_now hO G6.rep tB (by rw [put_size]; exact sz6) (by rw [put_defers]; exact d6) hA4 fun e7 a7 w7 st7 t7 sz7 d7 => ?_
      have hN7 := toN u0 u1 u2
      have G7 : Far e c0 w e7 (Sx c0 xs.length ((xs.map pOf).map itemOf)) w7 := (G6.step st7).drop hN7 un
      have oq7 : Off e7 (Sx c0 xs.length ((xs.map pOf).map itemOf)) w7 q := ⟨(oq6.step st7).1.1, fun b o hb => (oq6.step st7).1.2 b o (hN7 b o hb)⟩
      have oi7 : Off e7 (Sx c0 xs.length ((xs.map pOf).map itemOf)) w7 it := ⟨(oi6.step st7).1.1, fun b o hb => (oi6.step st7).1.2 b o (hN7 b o hb)⟩
      have wk7 := wk6.keep (oq6.step st7).2 (oi6.step st7).2
      obtain ⟨tm8, s8, hA5, b0, b1, b2, bn, c1, c13, _⟩ := seeN_inv (F.a5 xs.length it (pOf x) ((xs.map pOf).map itemOf) hi5 hpf)
      have hA5' : run B0 100000 (.code new5 87 tm7 [] (Sx c0 xs.length ((xs.map pOf).map itemOf))) = .ok .normal tm8 [] s8 := by
        have h : okTm (A4 c0 xs.length it (pOf x).1 (pOf x).2 ((xs.map pOf).map itemOf)) = tm7 := by rw [hA4]; rfl
        rw [← h]
        exact hA5
      have t7' : RTm e7 (Sx c0 xs.length ((xs.map pOf).map itemOf)).next (nsOf B0 87) tm7 a7 := t7.ext (Ext.refl _ _) un
      refine code_now hC G7.rep t7' (by rw [sz7, nt87]) d7 hA5' fun e8 a8 w8 st8 t8 sz8 d8 => ?_
      show ∃ x, NI e c0 w q it ents.toList (xs ++ [x]) a8 w8
      have hnd : ((xs ++ [x]).map fun x => (pOf x).1).Nodup := Wk.nodup wk5 (by
        have h := k2.2.2
        rw [← hback, List.map_map] at h
        exact h)
      rw [List.map_append, List.nodup_append] at hnd
      have hkeys : ((xs.map pOf).map itemOf).map Prod.fst = xs.map fun x => (pOf x).1 := by rw [itemOf_fst, List.map_map]; rfl
      have hfits : ∀ p ∈ (xs.map pOf).map itemOf, fits .str p.1 = true := fun p hp => by
        obtain ⟨p2, hp2, rfl⟩ := List.mem_map.1 hp
        obtain ⟨y, hy, rfl⟩ := List.mem_map.1 hp2
        have hy2 : pOf y ∈ ents.toList.map pOf := List.mem_map.2 ⟨y, Wk.mem wk5 (by simp [hy]), rfl⟩
        rw [hback] at hy2
        rcases in5 (k2.1.mem_iff.2 hy2) with h | h | h | h | h <;> (rw [h]; rfl)
      have hfx : fits .str (pOf x).1 = true := by rcases in5 hpf with h | h | h | h | h <;> (rw [h]; rfl)
      have hput : putM (pOf x).1 (itemOf (pOf x)).2 ((xs.map pOf).map itemOf) = ((xs ++ [x]).map pOf).map itemOf := by
        rw [(putM_eq hfx hfits (by rw [hkeys]; exact hnd.1)).2 (by
          rw [hkeys]
          intro hm
          exact hnd.2.2 _ hm _ (by simp) rfl), List.map_append, List.map_append]
        rfl
      rw [hput] at b0
      have hN8 := toN b0 b1 b2
      have hlen8 : (xs ++ [x]).length = xs.length + 1 := by simp
      have bn' : s8.next ≤ (Sx c0 (xs ++ [x]).length (((xs ++ [x]).map pOf).map itemOf)).next := by rw [hlen8]; exact bn
      have G8 : Far e c0 w e8 (Sx c0 (xs ++ [x]).length (((xs ++ [x]).map pOf).map itemOf)) w8 := (G7.step st8).drop hN8 bn'
      refine ⟨x, ⟨e8, G8, ⟨(oq7.step st8).1.1, fun b o hb => (oq7.step st8).1.2 b o (hN8 b o hb)⟩, ⟨(oi7.step st8).1.1, fun b o hb => (oi7.step st8).1.2 b o (hN8 b o hb)⟩, toL t8 c1 c13 bn'⟩, wk7.keep (oq7.step st8).2 (oi7.step st8).2, ⟨fq, fi⟩, hne, by rw [sz8, nt87], d8⟩
end Go.Proofs.Tryz
namespace Go.Proofs.YtiibijhldlillaaGreat.Eng
theorem rounds_now [FX] {P : Program} {B : Tb} {n : Nat} {e : En} {s s' : St} {w : World} {tm tm' : Tm} {a : Act} {Q : Exit → Act → World → Prop} (hC : CodeOk P B n) {c : Code} {f : Nat} (hr : Rep e s w) (hm : RTm e s.next (nsOf B f) tm a) (hsz : a.tmps.size = ntOf B f) (hd : a.defers = []) {ex : Ex} (h : run B n (.code (.loop c) f tm [] s) = .ok ex tm' [] s')
    (hQ : ∀ e' a' w', Stp e s w e' s' w' → RTm e' s'.next (nsOf B f) tm' a' → a'.tmps.size = ntOf B f → a'.defers = [] → Q ex.out a' w') : Code.rounds P c Q n a w :=
  (hC (.loop c) f tm [] s e w a Q hr hm hsz hd (by rw [h]; exact fun e' a' w' h1 h2 h3 h4 => hQ e' a' w' h1 h2 h3 h4)).2 c rfl
end Go.Proofs.YtiibijhldlillaaGreat.Eng
namespace Go.Proofs.Tryz
open Go.Proofs.YtiibijhldlillaaGreat.Eng
set_option maxRecDepth 100000
theorem setAll_at {α : Type} : ∀ (l : List (Nat × AV)) (t : Nat) (P : Option AV → Prop), P none → (∀ p ∈ l, p.1 = t → P (some p.2)) → P ((setAll l).at_ t)
  | [], t, P, h0, _ => by rw [show setAll [] = .leaf from rfl, T.at_leaf]; exact h0
  | p :: l, t, P, h0, h => by
    rw [show setAll (p :: l) = (setAll l).set p.1 p.2 from rfl, T.at_set]
    by_cases hp : p.1 = t
    · rw [if_pos hp]; exact h p (by simp) hp
    · rw [if_neg hp]; exact setAll_at (α := α) l t P h0 fun q hq => h q (by simp [hq])
theorem RTm.keep [FX] {e : En} {k : Nat} {ns : NS} {a : Act} {l : List (Nat × AV)} (hg : Gl e k) (h : ∀ p ∈ l, R e k p.2 (a.tmps.getD p.1 undef)) : RTm e k ns ⟨setAll l, .nil⟩ a := ⟨hg, fun t => by
  unfold mvT
  cases hd : ns.at_ t with
  | none => exact trivial
  | some u =>
    show R e k (orUnd ((setAll l).at_ t)) _
    exact setAll_at (α := Unit) l t (fun o => R e k (orUnd o) (a.tmps.getD t undef)) trivial fun p hp he => by subst he; exact h p hp⟩
theorem nameless_loc [FX] {ob : Obj} {m : Int} (hf : FX.F 0 = some ob) (hm : ∀ w : World, w.heap[0]? = some ob → w.cell? ⟨0, 0, none⟩ = some (.int .i64 m)) : LocF Tryz.prog 110 args110 foot110 60254 60300 (.bool false) := by
  intro e w vs hr hgl hl o a K Q hK
  obtain ⟨⟨hO, hC, _⟩, _⟩ := b0_all hf hm 100000
  obtain ⟨hfn, hcall⟩ := callFunc_body b0_tb fn110 nlB_eq vs w
  rw [hcall, Oper.upon_enter]
  refine calls_of_wp_defers hfn nlB_eq ?_
  have hsz : ({ tmps := vs ++ Array.replicate (Tryz.f110.ntmps - vs.size) undef, defers := [] } : Act).tmps.size = ntOf B0 110 := enter_size fn110 hl (by rw [nt110']; decide)
  have T0 : RTm e s110.next (nsOf B0 110) (argsT args110 0 ⟨.leaf, .nil⟩) { tmps := vs ++ Array.replicate (Tryz.f110.ntmps - vs.size) undef, defers := [] } := args_RTm hgl hl _
  have hd : ({ tmps := vs ++ Array.replicate (Tryz.f110.ntmps - vs.size) undef, defers := [] } : Act).defers = [] := rfl
  generalize ({ tmps := vs ++ Array.replicate (Tryz.f110.ntmps - vs.size) undef, defers := [] } : Act) = a0 at *
  have hr0 : Rep e s110 w := hr
  refine wp_seq (code_now hC hr0 T0 hsz hd c0_ok fun e1 a1 w1 st1 t1 sz1 d1 => ?_)
  refine wp_seq (code_now hC st1.rep t1 sz1 d1 c1_ok fun e2 a2 w2 st2 t2 sz2 d2 => ?_)
  refine wp_seq (wp_block (wp_loop_rounds 100001 ?_))
  rw [rounds_succ]
  generalize hQ : Exit.inBlock 0 (Exit.then (Code.wp Tryz.prog nlE _) _) = Q0
  refine (congrArg (fun c : Code => c.wp Tryz.prog (Exit.then (Code.rounds Tryz.prog nlL Q0 100000) Q0) a2 w2) nlL_eq).mpr ?_
  refine wp_seq (code_now hC st2.rep t2 sz2 d2 c2_ok fun e3 a3 w3 st3 t3 sz3 d3 => ?_)
  refine wp_seq (code_now hC st3.rep t3 sz3 d3 c3_ok fun e4 a4 w4 st4 t4 sz4 d4 => ?_)
  have st04 := ((st1.trans st2).trans st3).trans st4
  obtain ⟨_, _, r, _, cs, fz, rfl, hfz, hcs, hle, _⟩ := st4.rep.obj _ _ c3_row
  have hκ : 4 ≤ e4.κ 60258 := hle rfl
  have hF := kf_all hκ
  have h1 : R e4 (okS C3).next (ev (mvT ns110 1) (okTm C3)) (a4.tmps.getD 1 undef) := t4.2 1
  have h2 : R e4 (okS C3).next (ev (mvT ns110 2) (okTm C3)) (a4.tmps.getD 2 undef) := t4.2 2
  have h4 : R e4 (okS C3).next (ev (mvT ns110 4) (okTm C3)) (a4.tmps.getD 4 undef) := t4.2 4
  have h5 : R e4 (okS C3).next (ev (mvT ns110 5) (okTm C3)) (a4.tmps.getD 5 undef) := t4.2 5
  rw [c3_1] at h1
  rw [c3_2] at h2
  rw [c3_4] at h4
  rw [c3_5] at h5
  obtain ⟨⟨hlt, _⟩, hv1⟩ := h1
  have T4 : RTm e4 (s3K (e4.κ 60258)).next (nsOf B0 110) ⟨setAll (keep (e4.κ 60258)), .nil⟩ a4 := RTm.keep t4.1 fun p hp => by
    rcases List.mem_cons.1 hp with rfl | hp
    · refine ⟨⟨hlt, trivial⟩, ?_⟩
      rw [hv1]
      rfl
    rcases List.mem_cons.1 hp with rfl | hp
    · exact h2
    rcases List.mem_cons.1 hp with rfl | hp
    · exact h4
    rcases List.mem_cons.1 hp with rfl | hp
    · exact h5
    cases hp
  have st5 : Stp e s110 w e4 (s3K (e4.κ 60258)) w4 := st04.trim (s' := s3K (e4.κ 60258)) (Nat.le_refl _) rfl (fun b o hb => by
    replace hb : ((okS C3).heap.set 60258 (.cells row3 (e4.κ 60258) 1 3 false)).at_ b = some o := hb
    rw [T.at_set] at hb
    by_cases hbb : 60258 = b
    · rw [if_pos hbb] at hb
      cases hb
      subst hbb
      refine ⟨_, c3_row, fun k r hro => ?_⟩
      obtain ⟨cs2, fz2, g1, g2, g3, g4, g5⟩ := hro
      refine ⟨cs2, fz2, g1, g2, by rw [if_pos rfl] at g3; rw [if_neg (by decide)]; exact g3, (fun h => (by cases h)), fun i l hi => ?_⟩
      obtain ⟨g6, g7⟩ := g5 i l hi
      exact ⟨by omega, g7⟩
    · rw [if_neg hbb] at hb
      exact ⟨o, hb, fun _ _ h => h⟩) (fun b hb => by
    show ((okS C3).heap.set 60258 _).at_ b = _
    rw [T.at_set, if_neg]
    have : b < 60254 := hb
    omega)
  refine code_now hC st5.rep T4 sz4 d4 hF.k4 fun e6 a6 w6 st6 t6 sz6 d6 => ?_
  show Code.rounds Tryz.prog nlL Q0 100000 a6 w6
  refine rounds_now hC st6.rep t6 sz6 d6 hF.k5 fun e7 a7 w7 st7 t7 sz7 d7 => ?_
  subst hQ
  simp only [Ex.out, Exit.inBlock, Exit.then, if_true]
  refine code_now hC st7.rep t7 sz7 d7 hF.k6 fun e8 a8 w8 st8 t8 sz8 d8 => ?_
  show Leaves Tryz.prog Tryz.f110 a8.tmps _ a8.defers .returning w8
  rw [d8]
  let Z : Ending → World → Prop := fun
    | .returned v, w'' => K (a.put o.dst v) w''
    | .panicked chain, w'' => Q (.panic chain) a w''
    | .outgrown, _ => LetsOut Q
  suffices hz : EndQ e8 (okS (C6 (e4.κ 60258))) w8 Z (ret1 110 Tryz.f110 B0 (okTm (C6 (e4.κ 60258))) (okS (C6 (e4.κ 60258)))) from ret1_q (P := Tryz.prog) b0_tb st8.rep t8 hz
  unfold ret1
  rw [res110]
  intro e9 w9 x9 st9 hx9
  have hx10 : R e9 (okS (C6 (e4.κ 60258))).next (ev (mvT ns110 4) (okTm (C6 (e4.κ 60258)))) x9 := hx9
  rw [hF.v] at hx10
  exact hK e9 w9 x9 _ ((((st5.trans st6).trans st7).trans st8).trans st9) (Nat.le_of_ble_eq_true hF.n) hF.ft hx10
end Go.Proofs.Tryz
