/- obj.list at procedures, ints, words. Condition: what lies in memory can lie there. (Printed by gen_vc.py.) -/
import Derived.Test.YtckbfocbainlpaaVb
namespace Go.Proofs.Ytckbfocbainlpaa
open Go.RowKit
set_option maxRecDepth 100000

def cellsP (p : ProcL) : List Value := [.int .i64 p.at_, .int .i64 p.params, .int .i64 p.locals, .int .i64 p.depth, .int .i64 p.level, .bool p.fn]
def cellsI (i : Int) : List Value := [.int .i64 i]
def cellsW (n : Nat) : List Value := [.int .u16 n]
theorem etProcs : ET Try.prog 38 90 6 48 := et_of (z := .agg #[.int .i64 0, .int .i64 0, .int .i64 0, .int .i64 0, .int .i64 0, .bool false]) Try.underlying38 (by kernel_rfl) rfl (by omega)
theorem etInts : ET Try.prog 24 3 1 8 := et_of (z := .int .i64 0) Try.underlying24 (by kernel_rfl) rfl (by omega)
theorem etWords : ET Try.prog 39 50 1 2 := et_of (z := .int .u16 0) Try.underlying39 (by kernel_rfl) rfl (by omega)
theorem own_other {w w' : World} {B r : Nat} {e : TypeId} {size : Nat} {v : Value} {n : Nat} {xs : List Value} (h : w.ownsRow B e size v n xs) (hg : w.grownBy w' (some r)) (hr : r < B) : w'.ownsRow B e size v n xs := by
  refine ⟨h.1, ?_⟩
  rcases h.2 with hn | ⟨g, cap, cur, rfl, hB, hgg, rest⟩
  · exact .inl hn
  · exact .inr ⟨g, cap, cur, rfl, hB, (hg.block g (lt_of_get hgg) (fun e => by have := Option.some.inj e; omega)).trans hgg, rest⟩
theorem RdAt.app {r : Nat} {q : Rs} {w w' : World} {B : Nat} {e : TypeId} {size : Nat} {v : Value} {n : Nat} {xs : List Value} (h : RdAt r q w) (hown : w.ownsRow B e size v n xs) (hg : w.grownBy w' v.ownBlock) (hr : r < B) : RdAt r q w' :=
  ⟨(hg.block r (Box.lt h) (fun e => by have := (hown.lt r e.symm).1; omega)).trans h.1, h.2⟩
theorem grown_app {a w w' : World} {r : Option Nat} {B : Nat} {e : TypeId} {size : Nat} {v : Value} {n : Nat} {xs : List Value} (h : a.grownBy w r) (hown : w.ownsRow B e size v n xs) (hg : w.grownBy w' v.ownBlock) (hB : a.heap.size ≤ B) : a.grownBy w' r :=
  h.andThen hg fun j hj => .inl (Nat.le_trans hB (hown.lt j hj).1)
theorem listTo_s {α : Type} (one : Rs → α × Rs) (h1 : ∀ q, (one q).2.s.length ≤ q.s.length) (k : Nat) (q : Rs) : (listTo one k q).2.s.length ≤ q.s.length := by
  induction k with
  | zero => exact Nat.le_refl _
  | succ k ih =>
    cases h : (listTo one k q).2.bad
    · rw [listTo_succ_ok _ _ _ h]; exact Nat.le_trans (h1 _) ih
    · rw [listTo_succ_bad _ _ _ h]; exact ih
theorem truthS_len (q : Rs) : (truthS q).s.length ≤ q.s.length := rawS_len q 1
theorem procR_len (q : Rs) : (procR q).2.s.length ≤ q.s.length :=
  Nat.le_trans (truthS_len _) (Nat.le_trans (rawS_len _ _) (Nat.le_trans (rawS_len _ _) (Nat.le_trans (rawS_len _ _) (Nat.le_trans (rawS_len _ _) (rawS_len _ _)))))
/-- How a list's reading ends. -/
def ListEnd (w : World) (r : Nat) (T : TypeId) (size : Nat) (n : Nat) (cells : List Value) (q : Rs) (e : Ending) (w' : World) : Prop := ∃ v, e = .returned v ∧ w'.ownsRow w.heap.size T size v n cells ∧ RdAt r q w' ∧ w.grownBy w' (some r)
set_option maxHeartbeats 2000000 in
theorem listProcs (r : Nat) (q : Rs) (n : Nat) (hn : n ≤ 65535) (hs : q.s.length ≤ 140737488355328) (w : World) (hR : RdAt r q w) :
    Calls Try.prog 66 #[.pointer (some ⟨r, 0, none⟩), .int .i64 n, .func (.func 67) #[.pointer (some ⟨r, 0, none⟩)] #[]] w (ListEnd w r 90 6 (listTo procR n q).1.length ((listTo procR n q).1.flatMap cellsP) (listTo procR n q).2) := by
  have hrl := Box.lt hR
  have HR := Lib.hid hR
  clear hR
  go_enter Try.func66, Try.ntmps66
  go_wp2_with fail
  go_loopg [1, 6] (n + 1) (fun g i v wr => ∃ k : Nat, k + g = n + 1 ∧ k ≤ n ∧ i = .int .i64 ((n : Int) - k) ∧ wr.ownsRow w.heap.size 90 6 v (listTo procR k q).1.length ((listTo procR k q).1.flatMap cellsP) ∧ RdAt r (listTo procR k q).2 wr ∧ w.grownBy wr (some r))
  case atStart => exact ⟨0, by omega, by omega, by simp, World.ownsRow_nil .., HR.out, grown_refl _ _⟩
  case round =>
    clear HR
    obtain ⟨k, hk, hkn, rfl, hown, hr, hg⟩ := hrel
    have HO := Lib.hid hown
    have HR := Lib.hid hr
    have HG := Lib.hid hg
    have hsk : (listTo procR k q).2.s.length ≤ 140737488355328 := Nat.le_trans (listTo_s procR procR_len k q) hs
    have hlk := listTo_len procR k q
    have HSu := Lib.hid (listTo_succ_ok procR k q)
    have HBd := Lib.hid (listTo_bad procR k n hkn q)
    clear hown hr hg
    obtain ⟨A0, cap0, hv0⟩ := own_slice' HO.out
    subst hv0
    by_cases hlt : k < n
    · have hpos : (0 : Int) < (n : Int) - k := by omega
      generalize hL : listTo procR k q = L at *
      obtain ⟨l, ⟨s1, bad⟩⟩ := L
      simp only at HO HR hsk hlk HSu HBd
      have c1 : wr.cell? ⟨r, 1, none⟩ = some (.bool bad) := (HR.out.cell 1).trans rfl
      cases bad
      case true =>
        have HE := Lib.hid (HBd.out rfl)
        go_wp2_with fail
        go_ret
        rw [HE.out]
        exact ⟨_, rfl, HO.out, HR.out, HG.out⟩
      case false =>
        have HE := Lib.hid (HSu.out rfl)
        go_wp2_with fail
        refine (rdProc_any r ⟨s1, false⟩ hsk _ HR.out).mono ?_
        rintro e w1 ⟨rfl, hr1, hg1⟩
        have HR1 := Lib.hid hr1
        have HG1 := Lib.hid (HG.out.trans hg1)
        have HO1 := Lib.hid (own_other HO.out hg1 hrl)
        have hws : w.heap.size ≤ w1.heap.size := HG1.out.size
        clear hr1 hg1 HR HG HO c1
        generalize (procR ⟨s1, false⟩).1 = x at *
        generalize (procR ⟨s1, false⟩).2 = q1 at *
        unfold procV
        go_wp2_with (at_builtin; refine wpList_app etProcs rfl _ _ rfl w.heap.size _ l.length (l.flatMap cellsP) rfl (own_later HO1.out (alloc_below _ _)) _ 1 (cellsP x) rfl (src_new etProcs _ (cellsP x).toArray _ 1 1 rfl (by simp [cellsP, Value.oneCell'])) (by omega) (by unfold maxLen; omega) (by simp; omega) ?_; intro u9 x9 hA9)
        have HA := Lib.hid (alloc_below w1 (.cells (cellsP x).toArray 90))
        have HO9 := Lib.hid hA9.own
        have HR9 := Lib.hid ((HR1.out.other HA.out).app (own_later HO1.out HA.out) hA9.grown hrl)
        have HG9 := Lib.hid (grown_app (HG1.out.trans (grown_below HA.out)) (own_later HO1.out HA.out) hA9.grown (Nat.le_refl _))
        clear hA9
        go_roundg (gk - 1)
        case measure => omega
        case rel =>
          refine ⟨k + 1, by omega, by omega, ?_, ?_, ?_, HG9.out⟩
          · go_num
          · rw [HE.out, List.flatMap_append]
            simpa using HO9.out
          · rw [HE.out]; exact HR9.out
    · obtain rfl : k = n := by omega
      have hz : (k : Int) - k = 0 := by omega
      rw [hz]
      go_wp2_with fail
      go_ret
      exact ⟨_, rfl, HO.out, HR.out, HG.out⟩
set_option maxHeartbeats 2000000 in
theorem listInts (r : Nat) (q : Rs) (n : Nat) (hn : n ≤ 65535) (hs : q.s.length ≤ 140737488355328) (w : World) (hR : RdAt r q w) :
    Calls Try.prog 68 #[.pointer (some ⟨r, 0, none⟩), .int .i64 n, .func (.func 69) #[.pointer (some ⟨r, 0, none⟩)] #[]] w (ListEnd w r 3 1 (listTo impR n q).1.length ((listTo impR n q).1.flatMap cellsI) (listTo impR n q).2) := by
  have hrl := Box.lt hR
  have HR := Lib.hid hR
  clear hR
  go_enter Try.func68, Try.ntmps68
  go_wp2_with fail
  go_loopg [1, 6] (n + 1) (fun g i v wr => ∃ k : Nat, k + g = n + 1 ∧ k ≤ n ∧ i = .int .i64 ((n : Int) - k) ∧ wr.ownsRow w.heap.size 3 1 v (listTo impR k q).1.length ((listTo impR k q).1.flatMap cellsI) ∧ RdAt r (listTo impR k q).2 wr ∧ w.grownBy wr (some r))
  case atStart => exact ⟨0, by omega, by omega, by simp, World.ownsRow_nil .., HR.out, grown_refl _ _⟩
  case round =>
    clear HR
    obtain ⟨k, hk, hkn, rfl, hown, hr, hg⟩ := hrel
    have HO := Lib.hid hown
    have HR := Lib.hid hr
    have HG := Lib.hid hg
    have hsk : (listTo impR k q).2.s.length ≤ 140737488355328 := Nat.le_trans (listTo_s impR (fun q => rawS_len q 1) k q) hs
    have hlk := listTo_len impR k q
    have HSu := Lib.hid (listTo_succ_ok impR k q)
    have HBd := Lib.hid (listTo_bad impR k n hkn q)
    clear hown hr hg
    obtain ⟨A0, cap0, hv0⟩ := own_slice' HO.out
    subst hv0
    by_cases hlt : k < n
    · have hpos : (0 : Int) < (n : Int) - k := by omega
      generalize hL : listTo impR k q = L at *
      obtain ⟨l, ⟨s1, bad⟩⟩ := L
      simp only at HO HR hsk hlk HSu HBd
      have c1 : wr.cell? ⟨r, 1, none⟩ = some (.bool bad) := (HR.out.cell 1).trans rfl
      cases bad
      case true =>
        have HE := Lib.hid (HBd.out rfl)
        go_wp2_with fail
        go_ret
        rw [HE.out]
        exact ⟨_, rfl, HO.out, HR.out, HG.out⟩
      case false =>
        have HE := Lib.hid (HSu.out rfl)
        go_wp2_with fail
        refine (one_any r ⟨s1, false⟩ hsk _ HR.out).mono ?_
        rintro e w1 ⟨rfl, hr1, hg1⟩
        have HR1 := Lib.hid hr1
        have HG1 := Lib.hid (HG.out.trans hg1)
        have HO1 := Lib.hid (own_other HO.out hg1 hrl)
        have hws : w.heap.size ≤ w1.heap.size := HG1.out.size
        clear hr1 hg1 HR HG HO c1
        have HIm := Lib.hid (show impR ⟨s1, false⟩ = ((numV ⟨s1, false⟩ 1 : Int), rawS ⟨s1, false⟩ 1) from rfl)
        rw [HIm.out] at HE
        generalize ((numV ⟨s1, false⟩ 1 : Nat) : Int) = x at *
        generalize rawS ⟨s1, false⟩ 1 = q1 at *
        go_wp2_with (at_builtin; refine wpList_app etInts rfl _ _ rfl w.heap.size _ l.length (l.flatMap cellsI) rfl (own_later HO1.out (alloc_below _ _)) _ 1 (cellsI x) rfl (src_new etInts _ (cellsI x).toArray _ 1 1 rfl (by simp [cellsI, Value.oneCell'])) (by omega) (by unfold maxLen; omega) (by simp; omega) ?_; intro u9 x9 hA9)
        have HA := Lib.hid (alloc_below w1 (.cells (cellsI x).toArray 3))
        have HO9 := Lib.hid hA9.own
        have HR9 := Lib.hid ((HR1.out.other HA.out).app (own_later HO1.out HA.out) hA9.grown hrl)
        have HG9 := Lib.hid (grown_app (HG1.out.trans (grown_below HA.out)) (own_later HO1.out HA.out) hA9.grown (Nat.le_refl _))
        clear hA9
        go_roundg (gk - 1)
        case measure => omega
        case rel =>
          refine ⟨k + 1, by omega, by omega, ?_, ?_, ?_, HG9.out⟩
          · go_num
          · rw [HE.out, List.flatMap_append]
            simpa using HO9.out
          · rw [HE.out]; exact HR9.out
    · obtain rfl : k = n := by omega
      have hz : (k : Int) - k = 0 := by omega
      rw [hz]
      go_wp2_with fail
      go_ret
      exact ⟨_, rfl, HO.out, HR.out, HG.out⟩
set_option maxHeartbeats 2000000 in
theorem listWords (r : Nat) (q : Rs) (n : Nat) (hn : n ≤ 65535) (hs : q.s.length ≤ 140737488355328) (w : World) (hR : RdAt r q w) :
    Calls Try.prog 70 #[.pointer (some ⟨r, 0, none⟩), .int .i64 n, .func (.func 71) #[.pointer (some ⟨r, 0, none⟩)] #[]] w (ListEnd w r 50 1 (listTo wordR n q).1.length ((listTo wordR n q).1.flatMap cellsW) (listTo wordR n q).2) := by
  have hrl := Box.lt hR
  have HR := Lib.hid hR
  clear hR
  go_enter Try.func70, Try.ntmps70
  go_wp2_with fail
  go_loopg [1, 6] (n + 1) (fun g i v wr => ∃ k : Nat, k + g = n + 1 ∧ k ≤ n ∧ i = .int .i64 ((n : Int) - k) ∧ wr.ownsRow w.heap.size 50 1 v (listTo wordR k q).1.length ((listTo wordR k q).1.flatMap cellsW) ∧ RdAt r (listTo wordR k q).2 wr ∧ w.grownBy wr (some r))
  case atStart => exact ⟨0, by omega, by omega, by simp, World.ownsRow_nil .., HR.out, grown_refl _ _⟩
  case round =>
    clear HR
    obtain ⟨k, hk, hkn, rfl, hown, hr, hg⟩ := hrel
    have HO := Lib.hid hown
    have HR := Lib.hid hr
    have HG := Lib.hid hg
    have hsk : (listTo wordR k q).2.s.length ≤ 140737488355328 := Nat.le_trans (listTo_s wordR (fun q => rawS_len q 2) k q) hs
    have hlk := listTo_len wordR k q
    have HSu := Lib.hid (listTo_succ_ok wordR k q)
    have HBd := Lib.hid (listTo_bad wordR k n hkn q)
    clear hown hr hg
    obtain ⟨A0, cap0, hv0⟩ := own_slice' HO.out
    subst hv0
    by_cases hlt : k < n
    · have hpos : (0 : Int) < (n : Int) - k := by omega
      generalize hL : listTo wordR k q = L at *
      obtain ⟨l, ⟨s1, bad⟩⟩ := L
      simp only at HO HR hsk hlk HSu HBd
      have c1 : wr.cell? ⟨r, 1, none⟩ = some (.bool bad) := (HR.out.cell 1).trans rfl
      cases bad
      case true =>
        have HE := Lib.hid (HBd.out rfl)
        go_wp2_with fail
        go_ret
        rw [HE.out]
        exact ⟨_, rfl, HO.out, HR.out, HG.out⟩
      case false =>
        have HE := Lib.hid (HSu.out rfl)
        go_wp2_with fail
        refine (word_any r ⟨s1, false⟩ hsk _ HR.out).mono ?_
        rintro e w1 ⟨rfl, hr1, hg1⟩
        have HR1 := Lib.hid hr1
        have HG1 := Lib.hid (HG.out.trans hg1)
        have HO1 := Lib.hid (own_other HO.out hg1 hrl)
        have hws : w.heap.size ≤ w1.heap.size := HG1.out.size
        clear hr1 hg1 HR HG HO c1
        have HIm := Lib.hid (show wordR ⟨s1, false⟩ = (numV ⟨s1, false⟩ 2, rawS ⟨s1, false⟩ 2) from rfl)
        rw [HIm.out] at HE
        generalize numV ⟨s1, false⟩ 2 = x at *
        generalize rawS ⟨s1, false⟩ 2 = q1 at *
        go_wp2_with (at_builtin; refine wpList_app etWords rfl _ _ rfl w.heap.size _ l.length (l.flatMap cellsW) rfl (own_later HO1.out (alloc_below _ _)) _ 1 (cellsW x) rfl (src_new etWords _ (cellsW x).toArray _ 1 1 rfl (by simp [cellsW, Value.oneCell'])) (by omega) (by unfold maxLen; omega) (by simp; omega) ?_; intro u9 x9 hA9)
        have HA := Lib.hid (alloc_below w1 (.cells (cellsW x).toArray 50))
        have HO9 := Lib.hid hA9.own
        have HR9 := Lib.hid ((HR1.out.other HA.out).app (own_later HO1.out HA.out) hA9.grown hrl)
        have HG9 := Lib.hid (grown_app (HG1.out.trans (grown_below HA.out)) (own_later HO1.out HA.out) hA9.grown (Nat.le_refl _))
        clear hA9
        go_roundg (gk - 1)
        case measure => omega
        case rel =>
          refine ⟨k + 1, by omega, by omega, ?_, ?_, ?_, HG9.out⟩
          · go_num
          · rw [HE.out, List.flatMap_append]
            simpa using HO9.out
          · rw [HE.out]; exact HR9.out
    · obtain rfl : k = n := by omega
      have hz : (k : Int) - k = 0 := by omega
      rw [hz]
      go_wp2_with fail
      go_ret
      exact ⟨_, rfl, HO.out, HR.out, HG.out⟩
end Go.Proofs.Ytckbfocbainlpaa
