/- slices.Sorted(maps.Keys(m)) at this seat. -/
import Derived.Shelf.SlIter.Nil
import Derived.Shelf.SortM.Plain
import Derived.Shelf.SortM.SortNone
import Derived.Ground.GgzProg
import Derived.Ground.SlgmProg
import Derived.Test.YtidigkielipghaaDoorProg
namespace Go.Proofs
open Go.RowKit Go.Maps Go.Sort Go.Shelf
shelf_lay_g SlLaysZ.n7 Ggz 7 at Tryd 23 as Tryd.keysN
shelf_lay_g SlLaysZ.n6 Ggz 6 at Tryd 22 as Tryd.sortedN
shelf_lay_g SlLaysM.n6 Slgm 6 at Tryd 36 as Tryd.sortN
/-- slices.Sort's two contracts, at the fence that asks nothing. -/
theorem Tryd.sortsN (m : Nat) : AnyZ.SortsIn Tryd.prog Tryd.sortedN_ren Fence.wide m :=
  ⟨fun blk off cap ss W hH hblk hsz => callsIn_wide.2 (AnyM.slices_Sort_string Tryd.sortN blk off cap ss W hH hblk hsz),
   fun p cap W => callsIn_wide.2 (AnyM.slices_Sort_string_none Tryd.sortN p cap W)⟩
set_option maxHeartbeats 1000000 in
/-- slices.Sorted at what maps.Keys hands out. -/
theorem Tryd.sortedKeys {H : Type} (blk mb nn : Nat) (D0 : DataW H) (R : Value → Option (DataW H × List MemPlace)) (w : World) (hblk : blk < w.heap.size) (hc : w.cell? ⟨blk, 0, none⟩ = some (.map (some mb))) (hown : w.ownsMap Tryd.prog 9 R mb nn D0) (hmax : Maps.size D0 ≤ maxLen) (hbytes : Maps.size D0 * 16 ≤ 140737488355328) :
    Calls Tryd.prog 22 #[.func (.func 37) #[] #[.pointer (some ⟨blk, 0, none⟩)]] w fun e w' => ∃ (v : Value) (ss : List (List UInt8)), e = .returned v ∧ ss.Perm (strKeys D0) ∧
      w'.ownsRow w.heap.size 9 1 v ss.length ((ss.mergeSort (fun x y => decide (x ≤ y))).map encStr) ∧ (v = .slice none 0 0 ↔ ss = []) ∧ Below w.heap.size w w' := by
  refine (callsIn_wide (n := 5)).1 ?_
  have hseq : SeqGives Fence.wide 2 Tryd.prog 37 #[.pointer (some ⟨blk, 0, none⟩)] encStr (fun ss => ss.Perm (strKeys D0)) (Maps.size D0) w :=
    AnyZ.keys_gives (ρ := Tryd.keysN_ren) { Tryd.keysN with } Fence.wide _ trivial rfl (by omega) blk mb nn D0 _ hblk hc hown
  exact AnyZ.sorted_in Tryd.sortedN Fence.wide 5 trivial trivial trivial trivial rfl (by omega) (Tryd.sortsN _) (enters_of Tryd.func36 (by kernel_rfl) rfl) 37 #[.pointer (some ⟨blk, 0, none⟩)] trivial (enters_of Tryd.func37 (by kernel_rfl) rfl) _ _ hmax hbytes _ hseq
end Go.Proofs
