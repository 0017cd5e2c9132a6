/- The shadow functions of elf are the functions of the program. -/
import Derived.Test.YtpgipjjhapapjabProg
import Derived.Test.YtpgipjjhapapjabShFbytes
import Derived.Test.YtpgipjjhapapjabShFcmp
import Derived.Test.YtpgipjjhapapjabShFelf
import Derived.Test.YtpgipjjhapapjabShFlaw0
import Derived.Test.YtpgipjjhapapjabShFlaw9
import Derived.Test.YtpgipjjhapapjabShFref9
import Derived.Test.YtpgipjjhapapjabShFslices
import Derived.Test.YtpgipjjhapapjabShFstrings
import Derived.Test.YtpgipjjhapapjabShFstrs
import Derived.Test.YtpgipjjhapapjabShBe
import Derived.Lib.Strings
import Derived.Lib.Slices
import Derived.Lib.Walk
import Derived.Lib.BufferWrite
import Derived.Lib.UnsafeStr
import Derived.Lib.Hide
import Derived.Laws.MakeOwn
import Derived.WalkKit
import Derived.KernelRfl
namespace Go.Proofs.Ytpgipjjhapapjab.elf
open Go.Sh Go.RowKit
def fns : List (Nat × SFn) := [(180, F180_spindlelaw9_ElfBack), (181, F181_spindlelaw9_ElfForm), (182, F182_spindlelaw9_ElfTurned), (183, F183_spindlelaw9_ElfCut), (175, F175_spindlelaw9_awake), (177, F177_elf_Write), (176, F176_spindleref9_CopySections), (12, F12_spindlelaw0_Num), (178, F178_elf_Read), (179, F179_spindleref9_SameSections), (35, F35_spindlelaw0_CopyBytes), (73, F73_spindlelaw0_SameBytes), (81, F81_spindlelaw0_CopyBytes_own), (184, F184_spindlelaw9_plain), (185, F185_spindleref9_SameSection), (139, F139_strs_New), (186, F186_elf_may), (140, F140_strs_Table_Add), (142, F142_strs_Table_Bytes), (187, F187_elf_round), (189, F189_elf_laid), (202, F202_elf_laid_own), (188, F188_elf_header), (190, F190_elf_entry), (191, F191_elf_file_head), (192, F192_elf_file_fields), (193, F193_elf_file_padding), (194, F194_elf_file_names), (196, F196_elf_Read_1), (198, F198_bytes_Clone), (197, F197_elf_file_data), (150, F150_strings_IndexByte), (195, F195_elf_small), (146, F146_strs_isName), (147, F147_strs_Table_put), (199, F199_elf_told), (200, F200_elf_file_wrong), (201, F201_elf_file_size), (143, F143_strs_Read), (144, F144_strs_Table_At), (151, F151_strings_Clone), (149, F149_slices_BinarySearch_int_int), (105, F105_cmp_Less_int), (152, F152_slices_isNaN_int), (115, F115_cmp_isNaN_int)]
def prims : List (Nat × (List V → St → Option V)) := [(153, pIdxS), (148, pIdxB), (154, pCln)]
def pr : Prog := ⟨fun f => fns.lookup f, fun _ => none, fun f => prims.lookup f⟩
def fnNo : List (Nat × Nat) := [(180, 3), (181, 4), (182, 5), (183, 6), (175, 7), (177, 8), (176, 9), (12, 10), (178, 11), (179, 12), (35, 13), (73, 14), (81, 13), (184, 15), (185, 16), (139, 17), (186, 18), (140, 19), (142, 20), (187, 21), (189, 22), (202, 22), (188, 23), (190, 24), (191, 25), (192, 26), (193, 27), (194, 28), (196, 29), (198, 30), (197, 31), (150, 32), (195, 33), (146, 34), (147, 35), (199, 36), (200, 37), (201, 38), (143, 39), (144, 40), (151, 42), (149, 44), (105, 48), (152, 49), (115, 50), (153, 41), (148, 43), (154, 46)]
def glNo : List (Nat × Nat) := []
def tyNo : List (Nat × Nat) := []
def link : Link := ⟨fun t => (tyNo.lookup t).getD 0, fun f => (fnNo.lookup f).getD 0, fun g => (glNo.lookup g).getD 0⟩
theorem ok180 : okFn Try.prog pr link Try.f3 F180_spindlelaw9_ElfBack = true := by kernel_rfl
theorem ok181 : okFn Try.prog pr link Try.f4 F181_spindlelaw9_ElfForm = true := by kernel_rfl
theorem ok182 : okFn Try.prog pr link Try.f5 F182_spindlelaw9_ElfTurned = true := by kernel_rfl
theorem ok183 : okFn Try.prog pr link Try.f6 F183_spindlelaw9_ElfCut = true := by kernel_rfl
theorem ok175 : okFn Try.prog pr link Try.f7 F175_spindlelaw9_awake = true := by kernel_rfl
theorem ok177 : okFn Try.prog pr link Try.f8 F177_elf_Write = true := by kernel_rfl
theorem ok176 : okFn Try.prog pr link Try.f9 F176_spindleref9_CopySections = true := by kernel_rfl
theorem ok12 : okFn Try.prog pr link Try.f10 F12_spindlelaw0_Num = true := by kernel_rfl
theorem ok178 : okFn Try.prog pr link Try.f11 F178_elf_Read = true := by kernel_rfl
theorem ok179 : okFn Try.prog pr link Try.f12 F179_spindleref9_SameSections = true := by kernel_rfl
theorem ok35 : okFn Try.prog pr link Try.f13 F35_spindlelaw0_CopyBytes = true := by kernel_rfl
theorem ok73 : okFn Try.prog pr link Try.f14 F73_spindlelaw0_SameBytes = true := by kernel_rfl
theorem ok81 : okFn Try.prog pr link Try.f13 F81_spindlelaw0_CopyBytes_own = true := by kernel_rfl
theorem ok184 : okFn Try.prog pr link Try.f15 F184_spindlelaw9_plain = true := by kernel_rfl
theorem ok185 : okFn Try.prog pr link Try.f16 F185_spindleref9_SameSection = true := by kernel_rfl
theorem ok139 : okFn Try.prog pr link Try.f17 F139_strs_New = true := by kernel_rfl
theorem ok186 : okFn Try.prog pr link Try.f18 F186_elf_may = true := by kernel_rfl
theorem ok140 : okFn Try.prog pr link Try.f19 F140_strs_Table_Add = true := by kernel_rfl
theorem ok142 : okFn Try.prog pr link Try.f20 F142_strs_Table_Bytes = true := by kernel_rfl
theorem ok187 : okFn Try.prog pr link Try.f21 F187_elf_round = true := by kernel_rfl
theorem ok189 : okFn Try.prog pr link Try.f22 F189_elf_laid = true := by kernel_rfl
theorem ok202 : okFn Try.prog pr link Try.f22 F202_elf_laid_own = true := by kernel_rfl
theorem ok188 : okFn Try.prog pr link Try.f23 F188_elf_header = true := by kernel_rfl
theorem ok190 : okFn Try.prog pr link Try.f24 F190_elf_entry = true := by kernel_rfl
theorem ok191 : okFn Try.prog pr link Try.f25 F191_elf_file_head = true := by kernel_rfl
theorem ok192 : okFn Try.prog pr link Try.f26 F192_elf_file_fields = true := by kernel_rfl
theorem ok193 : okFn Try.prog pr link Try.f27 F193_elf_file_padding = true := by kernel_rfl
theorem ok194 : okFn Try.prog pr link Try.f28 F194_elf_file_names = true := by kernel_rfl
theorem ok196 : okFn Try.prog pr link Try.f29 F196_elf_Read_1 = true := by kernel_rfl
theorem ok198 : okFn Try.prog pr link Try.f30 F198_bytes_Clone = true := by kernel_rfl
theorem ok197 : okFn Try.prog pr link Try.f31 F197_elf_file_data = true := by kernel_rfl
theorem ok150 : okFn Try.prog pr link Try.f32 F150_strings_IndexByte = true := by kernel_rfl
theorem ok195 : okFn Try.prog pr link Try.f33 F195_elf_small = true := by kernel_rfl
theorem ok146 : okFn Try.prog pr link Try.f34 F146_strs_isName = true := by kernel_rfl
theorem ok147 : okFn Try.prog pr link Try.f35 F147_strs_Table_put = true := by kernel_rfl
theorem ok199 : okFn Try.prog pr link Try.f36 F199_elf_told = true := by kernel_rfl
theorem ok200 : okFn Try.prog pr link Try.f37 F200_elf_file_wrong = true := by kernel_rfl
theorem ok201 : okFn Try.prog pr link Try.f38 F201_elf_file_size = true := by kernel_rfl
theorem ok143 : okFn Try.prog pr link Try.f39 F143_strs_Read = true := by kernel_rfl
theorem ok144 : okFn Try.prog pr link Try.f40 F144_strs_Table_At = true := by kernel_rfl
theorem ok151 : okFn Try.prog pr link Try.f42 F151_strings_Clone = true := by kernel_rfl
theorem ok149 : okFn Try.prog pr link Try.f44 F149_slices_BinarySearch_int_int = true := by kernel_rfl
theorem ok105 : okFn Try.prog pr link Try.f48 F105_cmp_Less_int = true := by kernel_rfl
theorem ok152 : okFn Try.prog pr link Try.f49 F152_slices_isNaN_int = true := by kernel_rfl
theorem ok115 : okFn Try.prog pr link Try.f50 F115_cmp_isNaN_int = true := by kernel_rfl
set_option maxHeartbeats 1000000 in
set_option maxRecDepth 100000 in
theorem walk153 (s : ByteArray) (c : Int) (w : World) :
    Calls Try.prog 41 #[.string s, .int .u8 c] w fun e w' => e = .returned (.int .i64 (Lib.indexByte s.data.toList c.toNat.toUInt8)) ∧ w' = w := by
  go_enter Try.func41, Try.ntmps41
  go_wp2
  rw [run_callFunc_extern Try.func45 (by kernel_rfl) (by kernel_rfl) (by kernel_rfl) (e := Extern.BytealgIndexByte.indexByte) (by kernel_rfl), Lib.run_indexByteString]
  simp only [Result.andThen]
  rw [Oper.upon_value]
  go_wp2
  go_ret
  exact ⟨rfl, rfl⟩
theorem prim153 : PrimOk Try.prog pr link 153 pIdxS := primOk_idxS walk153
set_option maxHeartbeats 1000000 in
set_option maxRecDepth 100000 in
theorem walk148 (A : Option Addr) (n cap : Nat) (xs : List Int) (c : Int) (w : World) (hx : xs.length = n) (hA : n = 0 ∨ ∃ b o, A = some ⟨b, o, none⟩ ∧ ∀ (i : Nat) x, xs[i]? = some x → w.cell? ⟨b, o + i, none⟩ = some (.int .u8 x)) :
    Calls Try.prog 43 #[.slice A n cap, .int .u8 c] w fun e w' => e = .returned (.int .i64 (Lib.indexByte (xs.map fun x => UInt8.ofNat x.toNat) c.toNat.toUInt8)) ∧ w' = w := by
  have hrun : (Extern.BytealgIndexByte.indexByte #[.slice A n cap, .int .u8 c]).run Try.prog w = .ok (.int .i64 (Lib.indexByte (xs.map fun x => UInt8.ofNat x.toNat) c.toNat.toUInt8)) w := run_idxB hx hA
  go_enter Try.func43, Try.ntmps43
  go_wp2
  rw [run_callFunc_extern Try.func47 (by kernel_rfl) (by kernel_rfl) (by kernel_rfl) (e := Extern.BytealgIndexByte.indexByte) (by kernel_rfl), hrun]
  simp only [Result.andThen]
  rw [Oper.upon_value]
  go_wp2
  go_ret
  exact ⟨rfl, rfl⟩
theorem prim148 : PrimOk Try.prog pr link 148 pIdxB := primOk_idxB walk148
set_option maxHeartbeats 4000000 in
set_option maxRecDepth 100000 in
theorem walk154 (s : ByteArray) (w : World) (hlim : s.size ≤ 281474976710656) : Calls Try.prog 46 #[.string s] w fun e w' => e = .returned (.string s) ∧ Below w.heap.size w w' := by
  by_cases h0 : s.size = 0
  · have hs : s = ⟨#[]⟩ := by
      apply ByteArray.ext
      exact Array.eq_empty_of_size_eq_zero h0
    subst hs
    go_enter Try.func46, Try.ntmps46
    go_wp2
    go_ret
    exact ⟨rfl, Below.refl _ _⟩
  · obtain ⟨i0, hi, hz0, hz1, hz2⟩ : ∃ i0, Try.prog.info? 5 = some i0 ∧ i0.zero = some (.int .u8 0) ∧ i0.size = 1 ∧ i0.bytes = 1 := ⟨_, rfl, rfl, rfl, rfl⟩
    have hinfo : (Try.prog.info? 5).map (·.size) = some 1 := by rw [hi]; simp [hz1]
    have hco : Try.prog.cellsOf 5 = 1 := by simp [Program.cellsOf, hi, hz1]
    obtain ⟨M, hM⟩ : ∃ M, M = madeCells (Value.int .u8 0).cells (((s.size : Nat) : Int).toNat * i0.size) := ⟨_, rfl⟩
    have hMs : M.size = s.size := by rw [hM, size_madeCells, hz1]; simp
    have hmk : ∀ W : World, (Instr.makeSlice 24 (.int .i64 (s.size : Int)) (.int .i64 (s.size : Int))).run Try.prog W = .ok (.slice (some ⟨W.heap.size, 0, none⟩) s.size s.size) (W.alloc (.cells M 5)) := fun W => by
      have h := run_make (P := Try.prog) W 24 5 i0 (.int .u8 0) Try.underlying24 hi hz0 .i64 .i64 (s.size : Int) (s.size : Int) (by omega) (by omega) (by rw [hz2]; omega) (by omega)
      rw [← hM] at h
      simpa using h
    clear hM
    have hcp := Lib.run_copy_row_string (P := Try.prog) (w.alloc (.cells M 5)) 24 9 3 5 w.heap.size 0 s.size s.size s M 5 Try.underlying24 hinfo (heap_alloc_new w _) (Nat.le_refl _) (by omega)
    obtain ⟨Y, hY⟩ : ∃ Y, Y = (M.toList.take 0 ++ Lib.byteCells s.data.toList ++ M.toList.drop (0 + s.size)).toArray := ⟨_, rfl⟩
    rw [← hY] at hcp
    have hYl : Y.toList = Lib.byteCells s.data.toList := by
      rw [hY, List.toList_toArray, List.take_zero, List.nil_append, List.drop_of_length_le (by rw [Array.length_toList]; omega), List.append_nil]
    have hYs : Y.size = s.size := by rw [← Array.length_toList, hYl, Lib.byteCells_length, ← Lib.size_eq]
    have hgY : ((w.alloc (.cells M 5)).setRow w.heap.size Y).heap[w.heap.size]? = some (.cells Y 5 (0, 0)) := setRow_heap _ _ M _ 5 (0, 0) (heap_alloc_new w _)
    have hne : s.data.toList ≠ [] := fun e => h0 (by rw [Lib.size_eq, e]; rfl)
    have hUS := Lib.run_unsafeString_row (P := Try.prog) ((w.alloc (.cells M 5)).setRow w.heap.size Y) 87 3 9 5 Try.underlying87 hco w.heap.size Y.size (by unfold World.shape?; rw [hgY]) s.data.toList hne (by rw [← Lib.size_eq]; omega) (by rw [← Lib.size_eq]; omega)
      (fun j x hx => Lib.cells_of_row hgY Y.size j _ (by rw [List.take_of_length_le (by rw [Array.length_toList]; exact Nat.le_refl _), hYl]; simp [Lib.byteCells, hx]))
    rw [← Lib.size_eq] at hUS
    clear hY
    go_enter Try.func46, Try.ntmps46
    go_wp2
    go_ret
    have hb1 : Below w.heap.size w (w.alloc (.cells M 5)) := (Below.refl _ w).alloc (Nat.le_refl _) _
    have hb2 : Below w.heap.size (w.alloc (.cells M 5)) ((w.alloc (.cells M 5)).setRow w.heap.size Y) := ⟨rfl, rfl, rfl, by simp, fun k hk => setRow_other _ _ _ _ (by omega)⟩
    exact ⟨rfl, Lib.below_freeze (hb1.trans hb2) (p := ⟨w.heap.size, 0, none⟩) (Nat.le_refl _) _⟩
theorem prim154 : PrimOk Try.prog pr link 154 pCln := primOk_cln walk154
theorem fns_ok (x : Nat × SFn) (hx : x ∈ fns) : ∃ fn, Try.prog.funcs[link.fn x.1]? = some fn ∧ okFn Try.prog pr link fn x.2 = true := by
  simp only [fns, List.mem_cons, List.not_mem_nil, or_false] at hx
  rcases hx with rfl | rfl | rfl | rfl | rfl | rfl | rfl | rfl | rfl | rfl | rfl | rfl | rfl | rfl | rfl | rfl | rfl | rfl | rfl | rfl | rfl | rfl | rfl | rfl | rfl | rfl | rfl | rfl | rfl | rfl | rfl | rfl | rfl | rfl | rfl | rfl | rfl | rfl | rfl | rfl | rfl | rfl | rfl | rfl | rfl
  · exact ⟨Try.f3, Try.func3, ok180⟩
  · exact ⟨Try.f4, Try.func4, ok181⟩
  · exact ⟨Try.f5, Try.func5, ok182⟩
  · exact ⟨Try.f6, Try.func6, ok183⟩
  · exact ⟨Try.f7, Try.func7, ok175⟩
  · exact ⟨Try.f8, Try.func8, ok177⟩
  · exact ⟨Try.f9, Try.func9, ok176⟩
  · exact ⟨Try.f10, Try.func10, ok12⟩
  · exact ⟨Try.f11, Try.func11, ok178⟩
  · exact ⟨Try.f12, Try.func12, ok179⟩
  · exact ⟨Try.f13, Try.func13, ok35⟩
  · exact ⟨Try.f14, Try.func14, ok73⟩
  · exact ⟨Try.f13, Try.func13, ok81⟩
  · exact ⟨Try.f15, Try.func15, ok184⟩
  · exact ⟨Try.f16, Try.func16, ok185⟩
  · exact ⟨Try.f17, Try.func17, ok139⟩
  · exact ⟨Try.f18, Try.func18, ok186⟩
  · exact ⟨Try.f19, Try.func19, ok140⟩
  · exact ⟨Try.f20, Try.func20, ok142⟩
  · exact ⟨Try.f21, Try.func21, ok187⟩
  · exact ⟨Try.f22, Try.func22, ok189⟩
  · exact ⟨Try.f22, Try.func22, ok202⟩
  · exact ⟨Try.f23, Try.func23, ok188⟩
  · exact ⟨Try.f24, Try.func24, ok190⟩
  · exact ⟨Try.f25, Try.func25, ok191⟩
  · exact ⟨Try.f26, Try.func26, ok192⟩
  · exact ⟨Try.f27, Try.func27, ok193⟩
  · exact ⟨Try.f28, Try.func28, ok194⟩
  · exact ⟨Try.f29, Try.func29, ok196⟩
  · exact ⟨Try.f30, Try.func30, ok198⟩
  · exact ⟨Try.f31, Try.func31, ok197⟩
  · exact ⟨Try.f32, Try.func32, ok150⟩
  · exact ⟨Try.f33, Try.func33, ok195⟩
  · exact ⟨Try.f34, Try.func34, ok146⟩
  · exact ⟨Try.f35, Try.func35, ok147⟩
  · exact ⟨Try.f36, Try.func36, ok199⟩
  · exact ⟨Try.f37, Try.func37, ok200⟩
  · exact ⟨Try.f38, Try.func38, ok201⟩
  · exact ⟨Try.f39, Try.func39, ok143⟩
  · exact ⟨Try.f40, Try.func40, ok144⟩
  · exact ⟨Try.f42, Try.func42, ok151⟩
  · exact ⟨Try.f44, Try.func44, ok149⟩
  · exact ⟨Try.f48, Try.func48, ok105⟩
  · exact ⟨Try.f49, Try.func49, ok152⟩
  · exact ⟨Try.f50, Try.func50, ok115⟩
theorem prims_ok (x : Nat × (List V → St → Option V)) (hx : x ∈ prims) : PrimOk Try.prog pr link x.1 x.2 := by
  simp only [prims, List.mem_cons, List.not_mem_nil, or_false] at hx
  rcases hx with rfl | rfl | rfl
  · exact prim153
  · exact prim148
  · exact prim154
theorem tied : Tied Try.prog pr link := tied_of2 (fns := fns) (prims := prims) (fun _ => rfl) (fun _ => rfl) fns_ok prims_ok
theorem tie : Tie Try.prog pr link := ⟨by kernel_rfl, tied⟩
end Go.Proofs.Ytpgipjjhapapjab.elf
