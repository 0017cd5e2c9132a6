/- The shadow functions of elfw are the functions of the program. -/
import Derived.Test.YtpgipjjhapapjaaProg
import Derived.Test.YtpgipjjhapapjaaShFbytes
import Derived.Test.YtpgipjjhapapjaaShFcmp
import Derived.Test.YtpgipjjhapapjaaShFelf
import Derived.Test.YtpgipjjhapapjaaShFlaw0
import Derived.Test.YtpgipjjhapapjaaShFlaw9
import Derived.Test.YtpgipjjhapapjaaShFref8
import Derived.Test.YtpgipjjhapapjaaShFref9
import Derived.Test.YtpgipjjhapapjaaShFslices
import Derived.Test.YtpgipjjhapapjaaShFstrings
import Derived.Test.YtpgipjjhapapjaaShFstrs
import Derived.Test.YtpgipjjhapapjaaShBe
import Derived.Lib.Strings
import Derived.Lib.Slices
import Derived.Lib.Walk
import Derived.Lib.BufferWrite
import Derived.Lib.UnsafeStr
import Derived.Lib.Hide
import Derived.Laws.MakeOwn
import Derived.WalkKit
import Derived.KernelRfl
namespace Go.Proofs.Ytpgipjjhapapjaa.elfw
open Go.Sh Go.RowKit
def fns : List (Nat × SFn) := [(351, F351_spindlelaw9_ElfWrites), (169, F169_spindlelaw0_Lender_Lend), (175, F175_spindlelaw9_awake), (350, F350_spindlelaw9_written), (174, F174_spindlelaw0_Lender_mark), (12, F12_spindlelaw0_Num), (178, F178_elf_Read), (177, F177_elf_Write), (184, F184_spindlelaw9_plain), (185, F185_spindleref9_SameSection), (73, F73_spindlelaw0_SameBytes), (126, F126_spindlelaw0_Book_Own), (123, F123_spindlelaw0_Book_Holds), (352, F352_spindleref9_Write), (353, F353_spindlelaw9_Rack_lend), (354, F354_spindlelaw9_Rack_back), (191, F191_elf_file_head), (192, F192_elf_file_fields), (193, F193_elf_file_padding), (194, F194_elf_file_names), (196, F196_elf_Read_1), (198, F198_bytes_Clone), (197, F197_elf_file_data), (139, F139_strs_New), (140, F140_strs_Table_Add), (142, F142_strs_Table_Bytes), (186, F186_elf_may), (187, F187_elf_round), (189, F189_elf_laid), (202, F202_elf_laid_own), (188, F188_elf_header), (190, F190_elf_entry), (35, F35_spindlelaw0_CopyBytes), (130, F130_spindlelaw0_Book_write), (127, F127_spindlelaw0_Book_untouched), (128, F128_spindlelaw0_Book_same), (355, F355_spindleref9_all), (356, F356_spindleref9_place), (357, F357_spindleref9_table), (358, F358_spindleref9_padded), (359, F359_spindleref9_entry), (360, F360_spindleref9_head), (363, F363_spindlelaw0_Lender_Lend_row), (170, F170_spindlelaw0_Lender_Back), (179, F179_spindleref9_SameSections), (199, F199_elf_told), (200, F200_elf_file_wrong), (201, F201_elf_file_size), (143, F143_strs_Read), (144, F144_strs_Table_At), (146, F146_strs_isName), (147, F147_strs_Table_put), (150, F150_strings_IndexByte), (195, F195_elf_small), (131, F131_spindlelaw0_marked), (133, F133_spindlelaw0_marked_own), (132, F132_spindlelaw0_Book_keep), (361, F361_spindleref9_May), (362, F362_spindleref9_num), (149, F149_slices_BinarySearch_int_int), (151, F151_strings_Clone), (171, F171_spindleref8_Named), (105, F105_cmp_Less_int), (152, F152_slices_isNaN_int), (115, F115_cmp_isNaN_int)]
def prims : List (Nat × (List V → St → Option V)) := [(148, pIdxB), (153, pIdxS), (154, pCln)]
def pr : Prog := ⟨fun f => fns.lookup f, fun _ => none, fun f => prims.lookup f⟩
def fnNo : List (Nat × Nat) := [(351, 7), (169, 42), (175, 26), (350, 27), (174, 69), (12, 35), (178, 50), (177, 51), (184, 52), (185, 53), (73, 15), (126, 22), (123, 24), (352, 54), (353, 55), (354, 56), (191, 74), (192, 75), (193, 76), (194, 77), (196, 78), (198, 79), (197, 80), (139, 10), (140, 11), (142, 12), (186, 81), (187, 82), (189, 83), (202, 83), (188, 84), (190, 85), (35, 34), (130, 44), (127, 47), (128, 48), (355, 86), (356, 87), (357, 88), (358, 89), (359, 90), (360, 91), (363, 42), (170, 43), (179, 58), (199, 103), (200, 104), (201, 105), (143, 13), (144, 14), (146, 29), (147, 30), (150, 61), (195, 106), (131, 70), (133, 70), (132, 71), (361, 107), (362, 108), (149, 32), (151, 62), (171, 66), (105, 64), (152, 65), (115, 102), (148, 31), (153, 100), (154, 101)]
def glNo : List (Nat × Nat) := []
def tyNo : List (Nat × Nat) := []
def link : Link := ⟨fun t => (tyNo.lookup t).getD 0, fun f => (fnNo.lookup f).getD 0, fun g => (glNo.lookup g).getD 0, fun _ => True⟩
theorem ok351 : okFn Try.prog pr link Try.f7 F351_spindlelaw9_ElfWrites = true := by kernel_rfl
theorem ok169 : okFn Try.prog pr link Try.f42 F169_spindlelaw0_Lender_Lend = true := by kernel_rfl
theorem ok175 : okFn Try.prog pr link Try.f26 F175_spindlelaw9_awake = true := by kernel_rfl
theorem ok350 : okFn Try.prog pr link Try.f27 F350_spindlelaw9_written = true := by kernel_rfl
theorem ok174 : okFn Try.prog pr link Try.f69 F174_spindlelaw0_Lender_mark = true := by kernel_rfl
theorem ok12 : okFn Try.prog pr link Try.f35 F12_spindlelaw0_Num = true := by kernel_rfl
theorem ok178 : okFn Try.prog pr link Try.f50 F178_elf_Read = true := by kernel_rfl
theorem ok177 : okFn Try.prog pr link Try.f51 F177_elf_Write = true := by kernel_rfl
theorem ok184 : okFn Try.prog pr link Try.f52 F184_spindlelaw9_plain = true := by kernel_rfl
theorem ok185 : okFn Try.prog pr link Try.f53 F185_spindleref9_SameSection = true := by kernel_rfl
theorem ok73 : okFn Try.prog pr link Try.f15 F73_spindlelaw0_SameBytes = true := by kernel_rfl
theorem ok126 : okFn Try.prog pr link Try.f22 F126_spindlelaw0_Book_Own = true := by kernel_rfl
theorem ok123 : okFn Try.prog pr link Try.f24 F123_spindlelaw0_Book_Holds = true := by kernel_rfl
theorem ok352 : okFn Try.prog pr link Try.f54 F352_spindleref9_Write = true := by kernel_rfl
theorem ok353 : okFn Try.prog pr link Try.f55 F353_spindlelaw9_Rack_lend = true := by kernel_rfl
theorem ok354 : okFn Try.prog pr link Try.f56 F354_spindlelaw9_Rack_back = true := by kernel_rfl
theorem ok191 : okFn Try.prog pr link Try.f74 F191_elf_file_head = true := by kernel_rfl
theorem ok192 : okFn Try.prog pr link Try.f75 F192_elf_file_fields = true := by kernel_rfl
theorem ok193 : okFn Try.prog pr link Try.f76 F193_elf_file_padding = true := by kernel_rfl
theorem ok194 : okFn Try.prog pr link Try.f77 F194_elf_file_names = true := by kernel_rfl
theorem ok196 : okFn Try.prog pr link Try.f78 F196_elf_Read_1 = true := by kernel_rfl
theorem ok198 : okFn Try.prog pr link Try.f79 F198_bytes_Clone = true := by kernel_rfl
theorem ok197 : okFn Try.prog pr link Try.f80 F197_elf_file_data = true := by kernel_rfl
theorem ok139 : okFn Try.prog pr link Try.f10 F139_strs_New = true := by kernel_rfl
theorem ok140 : okFn Try.prog pr link Try.f11 F140_strs_Table_Add = true := by kernel_rfl
theorem ok142 : okFn Try.prog pr link Try.f12 F142_strs_Table_Bytes = true := by kernel_rfl
theorem ok186 : okFn Try.prog pr link Try.f81 F186_elf_may = true := by kernel_rfl
theorem ok187 : okFn Try.prog pr link Try.f82 F187_elf_round = true := by kernel_rfl
theorem ok189 : okFn Try.prog pr link Try.f83 F189_elf_laid = true := by kernel_rfl
theorem ok202 : okFn Try.prog pr link Try.f83 F202_elf_laid_own = true := by kernel_rfl
theorem ok188 : okFn Try.prog pr link Try.f84 F188_elf_header = true := by kernel_rfl
theorem ok190 : okFn Try.prog pr link Try.f85 F190_elf_entry = true := by kernel_rfl
theorem ok35 : okFn Try.prog pr link Try.f34 F35_spindlelaw0_CopyBytes = true := by kernel_rfl
theorem ok130 : okFn Try.prog pr link Try.f44 F130_spindlelaw0_Book_write = true := by kernel_rfl
theorem ok127 : okFn Try.prog pr link Try.f47 F127_spindlelaw0_Book_untouched = true := by kernel_rfl
theorem ok128 : okFn Try.prog pr link Try.f48 F128_spindlelaw0_Book_same = true := by kernel_rfl
theorem ok355 : okFn Try.prog pr link Try.f86 F355_spindleref9_all = true := by kernel_rfl
theorem ok356 : okFn Try.prog pr link Try.f87 F356_spindleref9_place = true := by kernel_rfl
theorem ok357 : okFn Try.prog pr link Try.f88 F357_spindleref9_table = true := by kernel_rfl
theorem ok358 : okFn Try.prog pr link Try.f89 F358_spindleref9_padded = true := by kernel_rfl
theorem ok359 : okFn Try.prog pr link Try.f90 F359_spindleref9_entry = true := by kernel_rfl
theorem ok360 : okFn Try.prog pr link Try.f91 F360_spindleref9_head = true := by kernel_rfl
theorem ok363 : okFn Try.prog pr link Try.f42 F363_spindlelaw0_Lender_Lend_row = true := by kernel_rfl
theorem ok170 : okFn Try.prog pr link Try.f43 F170_spindlelaw0_Lender_Back = true := by kernel_rfl
theorem ok179 : okFn Try.prog pr link Try.f58 F179_spindleref9_SameSections = true := by kernel_rfl
theorem ok199 : okFn Try.prog pr link Try.f103 F199_elf_told = true := by kernel_rfl
theorem ok200 : okFn Try.prog pr link Try.f104 F200_elf_file_wrong = true := by kernel_rfl
theorem ok201 : okFn Try.prog pr link Try.f105 F201_elf_file_size = true := by kernel_rfl
theorem ok143 : okFn Try.prog pr link Try.f13 F143_strs_Read = true := by kernel_rfl
theorem ok144 : okFn Try.prog pr link Try.f14 F144_strs_Table_At = true := by kernel_rfl
theorem ok146 : okFn Try.prog pr link Try.f29 F146_strs_isName = true := by kernel_rfl
theorem ok147 : okFn Try.prog pr link Try.f30 F147_strs_Table_put = true := by kernel_rfl
theorem ok150 : okFn Try.prog pr link Try.f61 F150_strings_IndexByte = true := by kernel_rfl
theorem ok195 : okFn Try.prog pr link Try.f106 F195_elf_small = true := by kernel_rfl
theorem ok131 : okFn Try.prog pr link Try.f70 F131_spindlelaw0_marked = true := by kernel_rfl
theorem ok133 : okFn Try.prog pr link Try.f70 F133_spindlelaw0_marked_own = true := by kernel_rfl
theorem ok132 : okFn Try.prog pr link Try.f71 F132_spindlelaw0_Book_keep = true := by kernel_rfl
theorem ok361 : okFn Try.prog pr link Try.f107 F361_spindleref9_May = true := by kernel_rfl
theorem ok362 : okFn Try.prog pr link Try.f108 F362_spindleref9_num = true := by kernel_rfl
theorem ok149 : okFn Try.prog pr link Try.f32 F149_slices_BinarySearch_int_int = true := by kernel_rfl
theorem ok151 : okFn Try.prog pr link Try.f62 F151_strings_Clone = true := by kernel_rfl
theorem ok171 : okFn Try.prog pr link Try.f66 F171_spindleref8_Named = true := by kernel_rfl
theorem ok105 : okFn Try.prog pr link Try.f64 F105_cmp_Less_int = true := by kernel_rfl
theorem ok152 : okFn Try.prog pr link Try.f65 F152_slices_isNaN_int = true := by kernel_rfl
theorem ok115 : okFn Try.prog pr link Try.f102 F115_cmp_isNaN_int = true := by kernel_rfl
set_option maxHeartbeats 1000000 in
set_option maxRecDepth 100000 in
theorem walk148 (A : Option Addr) (n cap : Nat) (xs : List Int) (c : Int) (w : World) (hx : xs.length = n) (hA : n = 0 ∨ ∃ b o, A = some ⟨b, o, none⟩ ∧ ∀ (i : Nat) x, xs[i]? = some x → w.cell? ⟨b, o + i, none⟩ = some (.int .u8 x)) :
    Calls Try.prog 31 #[.slice A n cap, .int .u8 c] w fun e w' => e = .returned (.int .i64 (Lib.indexByte (xs.map fun x => UInt8.ofNat x.toNat) c.toNat.toUInt8)) ∧ w' = w := by
  have hrun : (Extern.BytealgIndexByte.indexByte #[.slice A n cap, .int .u8 c]).run Try.prog w = .ok (.int .i64 (Lib.indexByte (xs.map fun x => UInt8.ofNat x.toNat) c.toNat.toUInt8)) w := run_idxB hx hA
  go_enter Try.func31, Try.ntmps31
  go_wp2
  rw [run_callFunc_extern Try.func63 (by kernel_rfl) (by kernel_rfl) (by kernel_rfl) (e := Extern.BytealgIndexByte.indexByte) (by kernel_rfl), hrun]
  simp only [Result.andThen]
  rw [Oper.upon_value]
  go_wp2
  go_ret
  exact ⟨rfl, rfl⟩
theorem prim148 : PrimOk Try.prog pr link 148 pIdxB := primOk_idxB walk148
set_option maxHeartbeats 1000000 in
set_option maxRecDepth 100000 in
theorem walk153 (s : ByteArray) (c : Int) (w : World) :
    Calls Try.prog 100 #[.string s, .int .u8 c] w fun e w' => e = .returned (.int .i64 (Lib.indexByte s.data.toList c.toNat.toUInt8)) ∧ w' = w := by
  go_enter Try.func100, Try.ntmps100
  go_wp2
  rw [run_callFunc_extern Try.func115 (by kernel_rfl) (by kernel_rfl) (by kernel_rfl) (e := Extern.BytealgIndexByte.indexByte) (by kernel_rfl), Lib.run_indexByteString]
  simp only [Result.andThen]
  rw [Oper.upon_value]
  go_wp2
  go_ret
  exact ⟨rfl, rfl⟩
theorem prim153 : PrimOk Try.prog pr link 153 pIdxS := primOk_idxS walk153
set_option maxHeartbeats 4000000 in
set_option maxRecDepth 100000 in
theorem walk154 (s : ByteArray) (w : World) (hlim : s.size ≤ 281474976710656) : Calls Try.prog 101 #[.string s] w fun e w' => e = .returned (.string s) ∧ Below w.heap.size w w' := by
  by_cases h0 : s.size = 0
  · have hs : s = ⟨#[]⟩ := by
      apply ByteArray.ext
      exact Array.eq_empty_of_size_eq_zero h0
    subst hs
    go_enter Try.func101, Try.ntmps101
    go_wp2
    go_ret
    exact ⟨rfl, Below.refl _ _⟩
  · obtain ⟨i0, hi, hz0, hz1, hz2⟩ : ∃ i0, Try.prog.info? 5 = some i0 ∧ i0.zero = some (.int .u8 0) ∧ i0.size = 1 ∧ i0.bytes = 1 := ⟨_, rfl, rfl, rfl, rfl⟩
    have hinfo : (Try.prog.info? 5).map (·.size) = some 1 := by rw [hi]; simp [hz1]
    have hco : Try.prog.cellsOf 5 = 1 := by simp [Program.cellsOf, hi, hz1]
    obtain ⟨M, hM⟩ : ∃ M, M = madeCells (Value.int .u8 0).cells (((s.size : Nat) : Int).toNat * i0.size) := ⟨_, rfl⟩
    have hMs : M.size = s.size := by rw [hM, size_madeCells, hz1]; simp
    have hmk : ∀ W : World, (Instr.makeSlice 30 (.int .i64 (s.size : Int)) (.int .i64 (s.size : Int))).run Try.prog W = .ok (.slice (some ⟨W.heap.size, 0, none⟩) s.size s.size) (W.alloc (.cells M 5)) := fun W => by
      have h := run_make (P := Try.prog) W 30 5 i0 (.int .u8 0) Try.underlying30 hi hz0 .i64 .i64 (s.size : Int) (s.size : Int) (by omega) (by omega) (by rw [hz2]; omega) (by omega)
      rw [← hM] at h
      simpa using h
    clear hM
    have hcp := Lib.run_copy_row_string (P := Try.prog) (w.alloc (.cells M 5)) 30 9 3 5 w.heap.size 0 s.size s.size s M 5 Try.underlying30 hinfo (heap_alloc_new w _) (Nat.le_refl _) (by omega)
    obtain ⟨Y, hY⟩ : ∃ Y, Y = (M.toList.take 0 ++ Lib.byteCells s.data.toList ++ M.toList.drop (0 + s.size)).toArray := ⟨_, rfl⟩
    rw [← hY] at hcp
    have hYl : Y.toList = Lib.byteCells s.data.toList := by
      rw [hY, List.toList_toArray, List.take_zero, List.nil_append, List.drop_of_length_le (by rw [Array.length_toList]; omega), List.append_nil]
    have hYs : Y.size = s.size := by rw [← Array.length_toList, hYl, Lib.byteCells_length, ← Lib.size_eq]
    have hgY : ((w.alloc (.cells M 5)).setRow w.heap.size Y).heap[w.heap.size]? = some (.cells Y 5 (0, 0)) := setRow_heap _ _ M _ 5 (0, 0) (heap_alloc_new w _)
    have hne : s.data.toList ≠ [] := fun e => h0 (by rw [Lib.size_eq, e]; rfl)
    have hUS := Lib.run_unsafeString_row (P := Try.prog) ((w.alloc (.cells M 5)).setRow w.heap.size Y) 164 3 9 5 Try.underlying164 hco w.heap.size Y.size (by unfold World.shape?; rw [hgY]) s.data.toList hne (by rw [← Lib.size_eq]; omega) (by rw [← Lib.size_eq]; omega)
      (fun j x hx => Lib.cells_of_row hgY Y.size j _ (by rw [List.take_of_length_le (by rw [Array.length_toList]; exact Nat.le_refl _), hYl]; simp [Lib.byteCells, hx]))
    rw [← Lib.size_eq] at hUS
    clear hY
    go_enter Try.func101, Try.ntmps101
    go_wp2
    go_ret
    have hb1 : Below w.heap.size w (w.alloc (.cells M 5)) := (Below.refl _ w).alloc (Nat.le_refl _) _
    have hb2 : Below w.heap.size (w.alloc (.cells M 5)) ((w.alloc (.cells M 5)).setRow w.heap.size Y) := ⟨rfl, rfl, rfl, by simp, fun k hk => setRow_other _ _ _ _ (by omega)⟩
    exact ⟨rfl, Lib.below_freeze (hb1.trans hb2) (p := ⟨w.heap.size, 0, none⟩) (Nat.le_refl _) _⟩
theorem prim154 : PrimOk Try.prog pr link 154 pCln := primOk_cln walk154
theorem fns_ok (x : Nat × SFn) (hx : x ∈ fns) : ∃ fn, Try.prog.funcs[link.fn x.1]? = some fn ∧ okFn Try.prog pr link fn x.2 = true := by
  simp only [fns, List.mem_cons, List.not_mem_nil, or_false] at hx
  rcases hx with rfl | rfl | rfl | rfl | rfl | rfl | rfl | rfl | rfl | rfl | rfl | rfl | rfl | rfl | rfl | rfl | rfl | rfl | rfl | rfl | rfl | rfl | rfl | rfl | rfl | rfl | rfl | rfl | rfl | rfl | rfl | rfl | rfl | rfl | rfl | rfl | rfl | rfl | rfl | rfl | rfl | rfl | rfl | rfl | rfl | rfl | rfl | rfl | rfl | rfl | rfl | rfl | rfl | rfl | rfl | rfl | rfl | rfl | rfl | rfl | rfl | rfl | rfl | rfl | rfl
  · exact ⟨Try.f7, Try.func7, ok351⟩
  · exact ⟨Try.f42, Try.func42, ok169⟩
  · exact ⟨Try.f26, Try.func26, ok175⟩
  · exact ⟨Try.f27, Try.func27, ok350⟩
  · exact ⟨Try.f69, Try.func69, ok174⟩
  · exact ⟨Try.f35, Try.func35, ok12⟩
  · exact ⟨Try.f50, Try.func50, ok178⟩
  · exact ⟨Try.f51, Try.func51, ok177⟩
  · exact ⟨Try.f52, Try.func52, ok184⟩
  · exact ⟨Try.f53, Try.func53, ok185⟩
  · exact ⟨Try.f15, Try.func15, ok73⟩
  · exact ⟨Try.f22, Try.func22, ok126⟩
  · exact ⟨Try.f24, Try.func24, ok123⟩
  · exact ⟨Try.f54, Try.func54, ok352⟩
  · exact ⟨Try.f55, Try.func55, ok353⟩
  · exact ⟨Try.f56, Try.func56, ok354⟩
  · exact ⟨Try.f74, Try.func74, ok191⟩
  · exact ⟨Try.f75, Try.func75, ok192⟩
  · exact ⟨Try.f76, Try.func76, ok193⟩
  · exact ⟨Try.f77, Try.func77, ok194⟩
  · exact ⟨Try.f78, Try.func78, ok196⟩
  · exact ⟨Try.f79, Try.func79, ok198⟩
  · exact ⟨Try.f80, Try.func80, ok197⟩
  · exact ⟨Try.f10, Try.func10, ok139⟩
  · exact ⟨Try.f11, Try.func11, ok140⟩
  · exact ⟨Try.f12, Try.func12, ok142⟩
  · exact ⟨Try.f81, Try.func81, ok186⟩
  · exact ⟨Try.f82, Try.func82, ok187⟩
  · exact ⟨Try.f83, Try.func83, ok189⟩
  · exact ⟨Try.f83, Try.func83, ok202⟩
  · exact ⟨Try.f84, Try.func84, ok188⟩
  · exact ⟨Try.f85, Try.func85, ok190⟩
  · exact ⟨Try.f34, Try.func34, ok35⟩
  · exact ⟨Try.f44, Try.func44, ok130⟩
  · exact ⟨Try.f47, Try.func47, ok127⟩
  · exact ⟨Try.f48, Try.func48, ok128⟩
  · exact ⟨Try.f86, Try.func86, ok355⟩
  · exact ⟨Try.f87, Try.func87, ok356⟩
  · exact ⟨Try.f88, Try.func88, ok357⟩
  · exact ⟨Try.f89, Try.func89, ok358⟩
  · exact ⟨Try.f90, Try.func90, ok359⟩
  · exact ⟨Try.f91, Try.func91, ok360⟩
  · exact ⟨Try.f42, Try.func42, ok363⟩
  · exact ⟨Try.f43, Try.func43, ok170⟩
  · exact ⟨Try.f58, Try.func58, ok179⟩
  · exact ⟨Try.f103, Try.func103, ok199⟩
  · exact ⟨Try.f104, Try.func104, ok200⟩
  · exact ⟨Try.f105, Try.func105, ok201⟩
  · exact ⟨Try.f13, Try.func13, ok143⟩
  · exact ⟨Try.f14, Try.func14, ok144⟩
  · exact ⟨Try.f29, Try.func29, ok146⟩
  · exact ⟨Try.f30, Try.func30, ok147⟩
  · exact ⟨Try.f61, Try.func61, ok150⟩
  · exact ⟨Try.f106, Try.func106, ok195⟩
  · exact ⟨Try.f70, Try.func70, ok131⟩
  · exact ⟨Try.f70, Try.func70, ok133⟩
  · exact ⟨Try.f71, Try.func71, ok132⟩
  · exact ⟨Try.f107, Try.func107, ok361⟩
  · exact ⟨Try.f108, Try.func108, ok362⟩
  · exact ⟨Try.f32, Try.func32, ok149⟩
  · exact ⟨Try.f62, Try.func62, ok151⟩
  · exact ⟨Try.f66, Try.func66, ok171⟩
  · exact ⟨Try.f64, Try.func64, ok105⟩
  · exact ⟨Try.f65, Try.func65, ok152⟩
  · exact ⟨Try.f102, Try.func102, ok115⟩
theorem prims_ok (x : Nat × (List V → St → Option V)) (hx : x ∈ prims) : PrimOk Try.prog pr link x.1 x.2 := by
  simp only [prims, List.mem_cons, List.not_mem_nil, or_false] at hx
  rcases hx with rfl | rfl | rfl
  · exact prim148
  · exact prim153
  · exact prim154
theorem tied : Tied Try.prog pr link := tied_of2 (fns := fns) (prims := prims) (fun _ => rfl) (fun _ => rfl) fns_ok prims_ok
theorem tie : Tie Try.prog pr link := ⟨by kernel_rfl, tied⟩
end Go.Proofs.Ytpgipjjhapapjaa.elfw
