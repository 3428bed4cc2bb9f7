/- slices.Sorted of maps.Keys, as a hook of the engine. Condition: what each theorem says. -/
import Derived.Test.YtiibijhldlillaaGreatHn
import Derived.Test.YtiibijhldlillaaGreatIt
import Derived.Shelf.SlIter.Nil
import Derived.Shelf.SortM.Plain
import Derived.Shelf.SortM.SortNone
namespace Go.Proofs
open Go.RowKit Go.Maps Go.Sort Go.Shelf
theorem Tryz.sortsI_any (m : Nat) : AnyZ.SortsIn Tryz.prog Tryz.sortedI_ren Fence.wide m :=
  ⟨fun blk off cap ss W hH hblk hsz => callsIn_wide.2 (AnyM.slices_Sort_string Tryz.sortI blk off cap ss W hH hblk hsz),
   fun p cap W => callsIn_wide.2 (AnyM.slices_Sort_string_none Tryz.sortI p cap W)⟩
theorem Tryz.sorted_ok : Go.Proofs.YtiibijhldlillaaGreat.Eng.SortedOk Tryz.prog 184 262 9 := by
  intro Bm b nn D0 R w hBm hm hown hmax hbytes
  have hseq : SeqGives Fence.wide 2 Tryz.prog 262 #[.pointer (some ⟨Bm, 0, none⟩)] encStr (fun ss => ss.Perm (strKeys D0)) (Maps.size D0) w :=
    AnyZ.keys_gives (ρ := Tryz.keysI_ren) { Tryz.keysI with } Fence.wide _ trivial rfl (by omega) Bm b nn D0 w hBm hm hown
  exact callsIn_wide.1 (AnyZ.sorted_in Tryz.sortedI Fence.wide 5 trivial trivial trivial trivial rfl (by omega) (Tryz.sortsI_any _) (enters_of Tryz.func261 (by kernel_rfl) rfl) 262 #[.pointer (some ⟨Bm, 0, none⟩)] trivial (enters_of Tryz.func262 (by kernel_rfl) rfl) _ _ hmax hbytes w hseq)
theorem Tryz.under9 : Tryz.prog.underlying 9 = some .string := by kernel_rfl
theorem Tryz.enters184 : ∀ args w, (callFunc 184 args).run Tryz.prog w = .ok (.enter 184 args) w := enters_of Tryz.func184 (by kernel_rfl) rfl
end Go.Proofs
