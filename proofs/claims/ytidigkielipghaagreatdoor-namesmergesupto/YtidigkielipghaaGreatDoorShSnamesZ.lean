/- Part of the proof. -/
import Derived.Shelf.SlIter.Nil
import Derived.Shelf.SortM.Plain
import Derived.Shelf.SortM.SortNone
import Derived.Ground.GgzProg
import Derived.Ground.SlgmProg
import Derived.Test.YtidigkielipghaaGreatDoorProg
namespace Go.Proofs
open Go.RowKit Go.Maps Go.Sort Go.Shelf
def Tryz.keysN_ren:Go.Shelf.Ren:=⟨fun | 7=> 19 | 10=> 40 | n=> n,fun | 23=> 60 | 26=> 9 | 3=> 66 | 28=> 64 | 0=> 0 | 27=> 63 | 33=> 89 | 4=> 4 | n=> n,fun | n=> n⟩
theorem Tryz.keysN:Go.Proofs.SlLaysZ.n7 Tryz.prog Tryz.keysN_ren:={
  mixed:=by kernel_rfl
  f7:=⟨Tryz.f19.name,by decide,Tryz.func19.trans (congrArg some (by kernel_rfl))⟩
  f10:=⟨Tryz.f40.name,by decide,Tryz.func40.trans (congrArg some (by kernel_rfl))⟩
  t0:=Tryz.underlying0
  a0:=Tryz.isAgg0
  z0:=Tryz.sizeOf0
  v0:=Tryz.zeroValue0
  t4:=Tryz.underlying4
  a4:=Tryz.isAgg4
  z4:=Tryz.sizeOf4
  v4:=Tryz.zeroValue4
  t23:=Tryz.underlying60
  a23:=Tryz.isAgg60
  z23:=Tryz.sizeOf60
  v23:=Tryz.zeroValue60
  t26:=Tryz.underlying9
  a26:=Tryz.isAgg9
  z26:=Tryz.sizeOf9
  v26:=Tryz.zeroValue9
  t27:=Tryz.underlying63
  a27:=Tryz.isAgg63
  z27:=Tryz.sizeOf63
  v27:=Tryz.zeroValue63
  t28:=Tryz.underlying64
  a28:=Tryz.isAgg64
  z28:=Tryz.sizeOf64
  v28:=Tryz.zeroValue64
  t33:=Tryz.underlying89
  a33:=Tryz.isAgg89
  z33:=Tryz.sizeOf89
  v33:=Tryz.zeroValue89}
def Tryz.sortedN_ren:Go.Shelf.Ren:=⟨fun | 6=> 18 | 8=> 38 | 9=> 39 | 11=> 61 | 13=> 63 | 12=> 62 | 23=> 83 | 24=> 84 | 14=> 74 | 15=> 75 | 16=> 76 | 17=> 77 | 18=> 78 | 19=> 79 | 20=> 80 | 21=> 81 | 22=> 82 | 25=> 92 | 26=> 93 | 27=> 94 | 28=> 95 | 29=> 96 | 30=> 97 | 31=> 105 | n=> n,fun | 26=> 9 | 28=> 64 | 24=> 41 | 0=> 0 | 3=> 3 | 37=> 113 | 48=> 129 | 50=> 131 | 4=> 4 | 40=> 122 | 39=> 121 | 45=> 91 | 5=> 5 | 9=> 9 | 51=> 143 | 55=> 147 | 57=> 156 | 58=> 76 | 33=> 89 | n=> n,fun | n=> n⟩
theorem Tryz.sortedN:Go.Proofs.SlLaysZ.n6 Tryz.prog Tryz.sortedN_ren:={
  mixed:=by kernel_rfl
  f6:=⟨Tryz.f18.name,by decide,Tryz.func18.trans (congrArg some (by kernel_rfl))⟩
  f8:=⟨Tryz.f38.name,by decide,Tryz.func38.trans (congrArg some (by kernel_rfl))⟩
  f11:=⟨Tryz.f61.name,by decide,Tryz.func61.trans (congrArg some (by kernel_rfl))⟩
  t0:=Tryz.underlying0
  a0:=Tryz.isAgg0
  z0:=Tryz.sizeOf0
  v0:=Tryz.zeroValue0
  t24:=Tryz.underlying41
  a24:=Tryz.isAgg41
  z24:=Tryz.sizeOf41
  v24:=Tryz.zeroValue41
  t26:=Tryz.underlying9
  a26:=Tryz.isAgg9
  z26:=Tryz.sizeOf9
  v26:=Tryz.zeroValue9
  t28:=Tryz.underlying64
  a28:=Tryz.isAgg64
  z28:=Tryz.sizeOf64
  v28:=Tryz.zeroValue64
  i26:=by kernel_rfl}
def Tryz.sortN_ren:Go.Shelf.Ren:=⟨fun | 6=> 39 | 8=> 63 | 9=> 62 | 19=> 83 | 20=> 84 | 21=> 74 | 22=> 75 | 23=> 76 | 24=> 77 | 25=> 78 | 26=> 79 | 27=> 80 | 28=> 81 | 29=> 82 | 36=> 92 | 31=> 93 | 32=> 94 | 37=> 95 | 38=> 96 | 39=> 97 | 41=> 105 | n=> n,fun | 27=> 41 | 29=> 9 | 3=> 3 | 32=> 113 | 26=> 41 | 0=> 0 | 44=> 129 | 46=> 131 | 4=> 4 | 36=> 122 | 35=> 121 | 41=> 91 | 5=> 5 | 9=> 9 | 53=> 143 | 57=> 147 | 63=> 156 | 64=> 76 | n=> n,fun | n=> n⟩
theorem Tryz.sortN:Go.Proofs.SlLaysM.n6 Tryz.prog Tryz.sortN_ren:={
  mixed:=by kernel_rfl
  f6:=⟨Tryz.f39.name,by decide,Tryz.func39.trans (congrArg some (by kernel_rfl))⟩
  f8:=Tryz.func63.trans (congrArg some (by kernel_rfl))
  f9:=⟨Tryz.f62.name,by decide,Tryz.func62.trans (congrArg some (by kernel_rfl))⟩
  f19:=Tryz.func83.trans (congrArg some (by kernel_rfl))
  f20:=Tryz.func84.trans (congrArg some (by kernel_rfl))
  f21:=⟨Tryz.f74.name,by decide,Tryz.func74.trans (congrArg some (by kernel_rfl))⟩
  f22:=⟨Tryz.f75.name,by decide,Tryz.func75.trans (congrArg some (by kernel_rfl))⟩
  f23:=⟨Tryz.f76.name,by decide,Tryz.func76.trans (congrArg some (by kernel_rfl))⟩
  f24:=⟨Tryz.f77.name,by decide,Tryz.func77.trans (congrArg some (by kernel_rfl))⟩
  f25:=⟨Tryz.f78.name,by decide,Tryz.func78.trans (congrArg some (by kernel_rfl))⟩
  f26:=⟨Tryz.f79.name,by decide,Tryz.func79.trans (congrArg some (by kernel_rfl))⟩
  f27:=⟨Tryz.f80.name,by decide,Tryz.func80.trans (congrArg some (by kernel_rfl))⟩
  f28:=⟨Tryz.f81.name,by decide,Tryz.func81.trans (congrArg some (by kernel_rfl))⟩
  f29:=⟨Tryz.f82.name,by decide,Tryz.func82.trans (congrArg some (by kernel_rfl))⟩
  f31:=Tryz.func93.trans (congrArg some (by kernel_rfl))
  f32:=Tryz.func94.trans (congrArg some (by kernel_rfl))
  f36:=⟨Tryz.f92.name,by decide,Tryz.func92.trans (congrArg some (by kernel_rfl))⟩
  f37:=⟨Tryz.f95.name,by decide,Tryz.func95.trans (congrArg some (by kernel_rfl))⟩
  f38:=⟨Tryz.f96.name,by decide,Tryz.func96.trans (congrArg some (by kernel_rfl))⟩
  f39:=⟨Tryz.f97.name,by decide,Tryz.func97.trans (congrArg some (by kernel_rfl))⟩
  f41:=⟨Tryz.f105.name,by decide,Tryz.func105.trans (congrArg some (by kernel_rfl))⟩
  t0:=Tryz.underlying0
  a0:=Tryz.isAgg0
  z0:=Tryz.sizeOf0
  v0:=Tryz.zeroValue0
  t3:=Tryz.underlying3
  a3:=Tryz.isAgg3
  z3:=Tryz.sizeOf3
  v3:=Tryz.zeroValue3
  t4:=Tryz.underlying4
  a4:=Tryz.isAgg4
  z4:=Tryz.sizeOf4
  v4:=Tryz.zeroValue4
  t5:=Tryz.underlying5
  a5:=Tryz.isAgg5
  z5:=Tryz.sizeOf5
  v5:=Tryz.zeroValue5
  t9:=Tryz.underlying9
  a9:=Tryz.isAgg9
  z9:=Tryz.sizeOf9
  v9:=Tryz.zeroValue9
  t26:=Tryz.underlying41
  a26:=Tryz.isAgg41
  z26:=Tryz.sizeOf41
  v26:=Tryz.zeroValue41
  t27:=Tryz.underlying41
  a27:=Tryz.isAgg41
  z27:=Tryz.sizeOf41
  v27:=Tryz.zeroValue41
  t29:=Tryz.underlying9
  a29:=Tryz.isAgg9
  z29:=Tryz.sizeOf9
  v29:=Tryz.zeroValue9
  t32:=Tryz.underlying113
  a32:=Tryz.isAgg113
  z32:=Tryz.sizeOf113
  v32:=Tryz.zeroValue113
  t35:=Tryz.underlying121
  a35:=Tryz.isAgg121
  z35:=Tryz.sizeOf121
  v35:=Tryz.zeroValue121
  t36:=Tryz.underlying122
  a36:=Tryz.isAgg122
  z36:=Tryz.sizeOf122
  v36:=Tryz.zeroValue122
  t41:=Tryz.underlying91
  a41:=Tryz.isAgg91
  z41:=Tryz.sizeOf91
  v41:=Tryz.zeroValue91
  t44:=Tryz.underlying129
  a44:=Tryz.isAgg129
  z44:=Tryz.sizeOf129
  v44:=Tryz.zeroValue129
  t46:=Tryz.underlying131
  a46:=Tryz.isAgg131
  z46:=Tryz.sizeOf131
  v46:=Tryz.zeroValue131
  t53:=Tryz.underlying143
  a53:=Tryz.isAgg143
  z53:=Tryz.sizeOf143
  v53:=Tryz.zeroValue143
  t57:=Tryz.underlying147
  a57:=Tryz.isAgg147
  z57:=Tryz.sizeOf147
  v57:=Tryz.zeroValue147
  t63:=Tryz.underlying156
  a63:=Tryz.isAgg156
  z63:=Tryz.sizeOf156
  v63:=Tryz.zeroValue156
  t64:=Tryz.underlying76
  a64:=Tryz.isAgg76
  z64:=Tryz.sizeOf76
  v64:=Tryz.zeroValue76}
theorem Tryz.sortsN (m:Nat):AnyZ.SortsIn Tryz.prog Tryz.sortedN_ren Fence.wide m:=
  ⟨fun blk off cap ss W hH hblk hsz=> callsIn_wide.2 (AnyM.slices_Sort_string Tryz.sortN blk off cap ss W hH hblk hsz),
   fun p cap W=> callsIn_wide.2 (AnyM.slices_Sort_string_none Tryz.sortN p cap W)⟩
set_option maxHeartbeats 1000000 in
theorem Tryz.sortedKeys {H:Type}(blk mb nn:Nat)(D0:DataW H)(R:Value→Option (DataW H×List MemPlace))(w:World)(hblk:blk < w.heap.size)(hc:w.cell? ⟨blk,0,none⟩=some (.map (some mb)))(hown:w.ownsMap Tryz.prog 9 R mb nn D0)(hmax:Maps.size D0≤maxLen)(hbytes:Maps.size D0 * 16≤140737488355328):
    Calls Tryz.prog 18 #[.func (.func 40) #[] #[.pointer (some ⟨blk,0,none⟩)]] w fun e w'=> ∃ (v:Value) (ss:List (List UInt8)),e= .returned v∧ss.Perm (strKeys D0)∧
      w'.ownsRow w.heap.size 9 1 v ss.length ((ss.mergeSort (fun x y=> decide (x≤y))).map encStr)∧(v= .slice none 0 0↔ss= [])∧Below w.heap.size w w':=by
  refine(callsIn_wide (n:=5)).1 ?_
  have hseq:SeqGives Fence.wide 2 Tryz.prog 40 #[.pointer (some ⟨blk,0,none⟩)] encStr (fun ss=> ss.Perm (strKeys D0)) (Maps.size D0) w:=
    AnyZ.keys_gives (ρ:=Tryz.keysN_ren) {Tryz.keysN with} Fence.wide _ trivial rfl (by omega) blk mb nn D0 _ hblk hc hown
  exact AnyZ.sorted_in Tryz.sortedN Fence.wide 5 trivial trivial trivial trivial rfl (by omega) (Tryz.sortsN _) (enters_of Tryz.func39 (by kernel_rfl) rfl) 40 #[.pointer (some ⟨blk,0,none⟩)] trivial (enters_of Tryz.func40 (by kernel_rfl) rfl) _ _ hmax hbytes _ hseq
end Go.Proofs
