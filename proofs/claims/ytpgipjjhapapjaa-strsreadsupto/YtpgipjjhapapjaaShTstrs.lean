/- The shadow functions of strs are the functions of the program. -/
import Derived.Test.YtpgipjjhapapjaaProg
import Derived.Test.YtpgipjjhapapjaaShFcmp
import Derived.Test.YtpgipjjhapapjaaShFlaw0
import Derived.Test.YtpgipjjhapapjaaShFlaw8
import Derived.Test.YtpgipjjhapapjaaShFref8
import Derived.Test.YtpgipjjhapapjaaShFslices
import Derived.Test.YtpgipjjhapapjaaShFstrings
import Derived.Test.YtpgipjjhapapjaaShFstrs
import Derived.Test.YtpgipjjhapapjaaShBe
import Derived.Lib.Strings
import Derived.Lib.Slices
import Derived.Lib.Walk
import Derived.Lib.BufferWrite
import Derived.Lib.UnsafeStr
import Derived.Lib.Hide
import Derived.Laws.MakeOwn
import Derived.WalkKit
import Derived.KernelRfl
namespace Go.Proofs.Ytpgipjjhapapjaa.strs
open Go.Sh Go.RowKit
def fns : List (Nat × SFn) := [(141, F141_spindlelaw8_StrsBack), (158, F158_spindlelaw8_StrsAll), (161, F161_spindlelaw8_StrsReads), (138, F138_spindlelaw8_few), (139, F139_strs_New), (140, F140_strs_Table_Add), (142, F142_strs_Table_Bytes), (143, F143_strs_Read), (144, F144_strs_Table_At), (73, F73_spindlelaw0_SameBytes), (145, F145_spindlelaw8_awake), (155, F155_spindlelaw8_open), (156, F156_spindlelaw8_nils), (157, F157_spindlelaw8_Desk_act), (160, F160_spindlelaw8_read), (159, F159_spindlelaw8_turned), (146, F146_strs_isName), (147, F147_strs_Table_put), (149, F149_slices_BinarySearch_int_int), (162, F162_spindleref8_Read), (35, F35_spindlelaw0_CopyBytes), (12, F12_spindlelaw0_Num), (163, F163_spindlelaw8_Desk_nothing), (164, F164_spindleref8_Table_Add), (165, F165_spindleref8_Table_At), (166, F166_strs_Table_Names), (167, F167_spindlelaw0_SameTexts), (168, F168_spindleref8_Table_Bytes), (169, F169_spindlelaw0_Lender_Lend), (170, F170_spindlelaw0_Lender_Back), (150, F150_strings_IndexByte), (151, F151_strings_Clone), (105, F105_cmp_Less_int), (152, F152_slices_isNaN_int), (171, F171_spindleref8_Named), (172, F172_spindleref8_Table_place), (173, F173_slices_Clone_string_string), (174, F174_spindlelaw0_Lender_mark), (115, F115_cmp_isNaN_int)]
def prims : List (Nat × (List V → St → Option V)) := [(148, pIdxB), (153, pIdxS), (154, pCln)]
def pr : Prog := ⟨fun f => fns.lookup f, fun _ => none, fun f => prims.lookup f⟩
def fnNo : List (Nat × Nat) := [(141, 3), (158, 4), (161, 5), (138, 9), (139, 10), (140, 11), (142, 12), (143, 13), (144, 14), (73, 15), (145, 16), (155, 17), (156, 18), (157, 19), (160, 20), (159, 21), (146, 29), (147, 30), (149, 32), (162, 33), (35, 34), (12, 35), (163, 36), (164, 37), (165, 38), (166, 39), (167, 40), (168, 41), (169, 42), (170, 43), (150, 61), (151, 62), (105, 64), (152, 65), (171, 66), (172, 67), (173, 68), (174, 69), (115, 102), (148, 31), (153, 100), (154, 101)]
def glNo : List (Nat × Nat) := []
def tyNo : List (Nat × Nat) := []
def link : Link := ⟨fun t => (tyNo.lookup t).getD 0, fun f => (fnNo.lookup f).getD 0, fun g => (glNo.lookup g).getD 0⟩
theorem ok141 : okFn Try.prog pr link Try.f3 F141_spindlelaw8_StrsBack = true := by kernel_rfl
theorem ok158 : okFn Try.prog pr link Try.f4 F158_spindlelaw8_StrsAll = true := by kernel_rfl
theorem ok161 : okFn Try.prog pr link Try.f5 F161_spindlelaw8_StrsReads = true := by kernel_rfl
theorem ok138 : okFn Try.prog pr link Try.f9 F138_spindlelaw8_few = true := by kernel_rfl
theorem ok139 : okFn Try.prog pr link Try.f10 F139_strs_New = true := by kernel_rfl
theorem ok140 : okFn Try.prog pr link Try.f11 F140_strs_Table_Add = true := by kernel_rfl
theorem ok142 : okFn Try.prog pr link Try.f12 F142_strs_Table_Bytes = true := by kernel_rfl
theorem ok143 : okFn Try.prog pr link Try.f13 F143_strs_Read = true := by kernel_rfl
theorem ok144 : okFn Try.prog pr link Try.f14 F144_strs_Table_At = true := by kernel_rfl
theorem ok73 : okFn Try.prog pr link Try.f15 F73_spindlelaw0_SameBytes = true := by kernel_rfl
theorem ok145 : okFn Try.prog pr link Try.f16 F145_spindlelaw8_awake = true := by kernel_rfl
theorem ok155 : okFn Try.prog pr link Try.f17 F155_spindlelaw8_open = true := by kernel_rfl
theorem ok156 : okFn Try.prog pr link Try.f18 F156_spindlelaw8_nils = true := by kernel_rfl
theorem ok157 : okFn Try.prog pr link Try.f19 F157_spindlelaw8_Desk_act = true := by kernel_rfl
theorem ok160 : okFn Try.prog pr link Try.f20 F160_spindlelaw8_read = true := by kernel_rfl
theorem ok159 : okFn Try.prog pr link Try.f21 F159_spindlelaw8_turned = true := by kernel_rfl
theorem ok146 : okFn Try.prog pr link Try.f29 F146_strs_isName = true := by kernel_rfl
theorem ok147 : okFn Try.prog pr link Try.f30 F147_strs_Table_put = true := by kernel_rfl
theorem ok149 : okFn Try.prog pr link Try.f32 F149_slices_BinarySearch_int_int = true := by kernel_rfl
theorem ok162 : okFn Try.prog pr link Try.f33 F162_spindleref8_Read = true := by kernel_rfl
theorem ok35 : okFn Try.prog pr link Try.f34 F35_spindlelaw0_CopyBytes = true := by kernel_rfl
theorem ok12 : okFn Try.prog pr link Try.f35 F12_spindlelaw0_Num = true := by kernel_rfl
theorem ok163 : okFn Try.prog pr link Try.f36 F163_spindlelaw8_Desk_nothing = true := by kernel_rfl
theorem ok164 : okFn Try.prog pr link Try.f37 F164_spindleref8_Table_Add = true := by kernel_rfl
theorem ok165 : okFn Try.prog pr link Try.f38 F165_spindleref8_Table_At = true := by kernel_rfl
theorem ok166 : okFn Try.prog pr link Try.f39 F166_strs_Table_Names = true := by kernel_rfl
theorem ok167 : okFn Try.prog pr link Try.f40 F167_spindlelaw0_SameTexts = true := by kernel_rfl
theorem ok168 : okFn Try.prog pr link Try.f41 F168_spindleref8_Table_Bytes = true := by kernel_rfl
theorem ok169 : okFn Try.prog pr link Try.f42 F169_spindlelaw0_Lender_Lend = true := by kernel_rfl
theorem ok170 : okFn Try.prog pr link Try.f43 F170_spindlelaw0_Lender_Back = true := by kernel_rfl
theorem ok150 : okFn Try.prog pr link Try.f61 F150_strings_IndexByte = true := by kernel_rfl
theorem ok151 : okFn Try.prog pr link Try.f62 F151_strings_Clone = true := by kernel_rfl
theorem ok105 : okFn Try.prog pr link Try.f64 F105_cmp_Less_int = true := by kernel_rfl
theorem ok152 : okFn Try.prog pr link Try.f65 F152_slices_isNaN_int = true := by kernel_rfl
theorem ok171 : okFn Try.prog pr link Try.f66 F171_spindleref8_Named = true := by kernel_rfl
theorem ok172 : okFn Try.prog pr link Try.f67 F172_spindleref8_Table_place = true := by kernel_rfl
theorem ok173 : okFn Try.prog pr link Try.f68 F173_slices_Clone_string_string = true := by kernel_rfl
theorem ok174 : okFn Try.prog pr link Try.f69 F174_spindlelaw0_Lender_mark = true := by kernel_rfl
theorem ok115 : okFn Try.prog pr link Try.f102 F115_cmp_isNaN_int = true := by kernel_rfl
set_option maxHeartbeats 1000000 in
set_option maxRecDepth 100000 in
theorem walk148 (A : Option Addr) (n cap : Nat) (xs : List Int) (c : Int) (w : World) (hx : xs.length = n) (hA : n = 0 ∨ ∃ b o, A = some ⟨b, o, none⟩ ∧ ∀ (i : Nat) x, xs[i]? = some x → w.cell? ⟨b, o + i, none⟩ = some (.int .u8 x)) :
    Calls Try.prog 31 #[.slice A n cap, .int .u8 c] w fun e w' => e = .returned (.int .i64 (Lib.indexByte (xs.map fun x => UInt8.ofNat x.toNat) c.toNat.toUInt8)) ∧ w' = w := by
  have hrun : (Extern.BytealgIndexByte.indexByte #[.slice A n cap, .int .u8 c]).run Try.prog w = .ok (.int .i64 (Lib.indexByte (xs.map fun x => UInt8.ofNat x.toNat) c.toNat.toUInt8)) w := run_idxB hx hA
  go_enter Try.func31, Try.ntmps31
  go_wp2
  rw [run_callFunc_extern Try.func63 (by kernel_rfl) (by kernel_rfl) (by kernel_rfl) (e := Extern.BytealgIndexByte.indexByte) (by kernel_rfl), hrun]
  simp only [Result.andThen]
  rw [Oper.upon_value]
  go_wp2
  go_ret
  exact ⟨rfl, rfl⟩
theorem prim148 : PrimOk Try.prog pr link 148 pIdxB := primOk_idxB walk148
set_option maxHeartbeats 1000000 in
set_option maxRecDepth 100000 in
theorem walk153 (s : ByteArray) (c : Int) (w : World) :
    Calls Try.prog 100 #[.string s, .int .u8 c] w fun e w' => e = .returned (.int .i64 (Lib.indexByte s.data.toList c.toNat.toUInt8)) ∧ w' = w := by
  go_enter Try.func100, Try.ntmps100
  go_wp2
  rw [run_callFunc_extern Try.func115 (by kernel_rfl) (by kernel_rfl) (by kernel_rfl) (e := Extern.BytealgIndexByte.indexByte) (by kernel_rfl), Lib.run_indexByteString]
  simp only [Result.andThen]
  rw [Oper.upon_value]
  go_wp2
  go_ret
  exact ⟨rfl, rfl⟩
theorem prim153 : PrimOk Try.prog pr link 153 pIdxS := primOk_idxS walk153
set_option maxHeartbeats 4000000 in
set_option maxRecDepth 100000 in
theorem walk154 (s : ByteArray) (w : World) (hlim : s.size ≤ 281474976710656) : Calls Try.prog 101 #[.string s] w fun e w' => e = .returned (.string s) ∧ Below w.heap.size w w' := by
  by_cases h0 : s.size = 0
  · have hs : s = ⟨#[]⟩ := by
      apply ByteArray.ext
      exact Array.eq_empty_of_size_eq_zero h0
    subst hs
    go_enter Try.func101, Try.ntmps101
    go_wp2
    go_ret
    exact ⟨rfl, Below.refl _ _⟩
  · obtain ⟨i0, hi, hz0, hz1, hz2⟩ : ∃ i0, Try.prog.info? 5 = some i0 ∧ i0.zero = some (.int .u8 0) ∧ i0.size = 1 ∧ i0.bytes = 1 := ⟨_, rfl, rfl, rfl, rfl⟩
    have hinfo : (Try.prog.info? 5).map (·.size) = some 1 := by rw [hi]; simp [hz1]
    have hco : Try.prog.cellsOf 5 = 1 := by simp [Program.cellsOf, hi, hz1]
    obtain ⟨M, hM⟩ : ∃ M, M = madeCells (Value.int .u8 0).cells (((s.size : Nat) : Int).toNat * i0.size) := ⟨_, rfl⟩
    have hMs : M.size = s.size := by rw [hM, size_madeCells, hz1]; simp
    have hmk : ∀ W : World, (Instr.makeSlice 30 (.int .i64 (s.size : Int)) (.int .i64 (s.size : Int))).run Try.prog W = .ok (.slice (some ⟨W.heap.size, 0, none⟩) s.size s.size) (W.alloc (.cells M 5)) := fun W => by
      have h := run_make (P := Try.prog) W 30 5 i0 (.int .u8 0) Try.underlying30 hi hz0 .i64 .i64 (s.size : Int) (s.size : Int) (by omega) (by omega) (by rw [hz2]; omega) (by omega)
      rw [← hM] at h
      simpa using h
    clear hM
    have hcp := Lib.run_copy_row_string (P := Try.prog) (w.alloc (.cells M 5)) 30 9 3 5 w.heap.size 0 s.size s.size s M 5 Try.underlying30 hinfo (heap_alloc_new w _) (Nat.le_refl _) (by omega)
    obtain ⟨Y, hY⟩ : ∃ Y, Y = (M.toList.take 0 ++ Lib.byteCells s.data.toList ++ M.toList.drop (0 + s.size)).toArray := ⟨_, rfl⟩
    rw [← hY] at hcp
    have hYl : Y.toList = Lib.byteCells s.data.toList := by
      rw [hY, List.toList_toArray, List.take_zero, List.nil_append, List.drop_of_length_le (by rw [Array.length_toList]; omega), List.append_nil]
    have hYs : Y.size = s.size := by rw [← Array.length_toList, hYl, Lib.byteCells_length, ← Lib.size_eq]
    have hgY : ((w.alloc (.cells M 5)).setRow w.heap.size Y).heap[w.heap.size]? = some (.cells Y 5 (0, 0)) := setRow_heap _ _ M _ 5 (0, 0) (heap_alloc_new w _)
    have hne : s.data.toList ≠ [] := fun e => h0 (by rw [Lib.size_eq, e]; rfl)
    have hUS := Lib.run_unsafeString_row (P := Try.prog) ((w.alloc (.cells M 5)).setRow w.heap.size Y) 164 3 9 5 Try.underlying164 hco w.heap.size Y.size (by unfold World.shape?; rw [hgY]) s.data.toList hne (by rw [← Lib.size_eq]; omega) (by rw [← Lib.size_eq]; omega)
      (fun j x hx => Lib.cells_of_row hgY Y.size j _ (by rw [List.take_of_length_le (by rw [Array.length_toList]; exact Nat.le_refl _), hYl]; simp [Lib.byteCells, hx]))
    rw [← Lib.size_eq] at hUS
    clear hY
    go_enter Try.func101, Try.ntmps101
    go_wp2
    go_ret
    have hb1 : Below w.heap.size w (w.alloc (.cells M 5)) := (Below.refl _ w).alloc (Nat.le_refl _) _
    have hb2 : Below w.heap.size (w.alloc (.cells M 5)) ((w.alloc (.cells M 5)).setRow w.heap.size Y) := ⟨rfl, rfl, rfl, by simp, fun k hk => setRow_other _ _ _ _ (by omega)⟩
    exact ⟨rfl, Lib.below_freeze (hb1.trans hb2) (p := ⟨w.heap.size, 0, none⟩) (Nat.le_refl _) _⟩
theorem prim154 : PrimOk Try.prog pr link 154 pCln := primOk_cln walk154
theorem fns_ok (x : Nat × SFn) (hx : x ∈ fns) : ∃ fn, Try.prog.funcs[link.fn x.1]? = some fn ∧ okFn Try.prog pr link fn x.2 = true := by
  simp only [fns, List.mem_cons, List.not_mem_nil, or_false] at hx
  rcases hx with rfl | rfl | rfl | rfl | rfl | rfl | rfl | rfl | rfl | rfl | rfl | rfl | rfl | rfl | rfl | rfl | rfl | rfl | rfl | rfl | rfl | rfl | rfl | rfl | rfl | rfl | rfl | rfl | rfl | rfl | rfl | rfl | rfl | rfl | rfl | rfl | rfl | rfl | rfl
  · exact ⟨Try.f3, Try.func3, ok141⟩
  · exact ⟨Try.f4, Try.func4, ok158⟩
  · exact ⟨Try.f5, Try.func5, ok161⟩
  · exact ⟨Try.f9, Try.func9, ok138⟩
  · exact ⟨Try.f10, Try.func10, ok139⟩
  · exact ⟨Try.f11, Try.func11, ok140⟩
  · exact ⟨Try.f12, Try.func12, ok142⟩
  · exact ⟨Try.f13, Try.func13, ok143⟩
  · exact ⟨Try.f14, Try.func14, ok144⟩
  · exact ⟨Try.f15, Try.func15, ok73⟩
  · exact ⟨Try.f16, Try.func16, ok145⟩
  · exact ⟨Try.f17, Try.func17, ok155⟩
  · exact ⟨Try.f18, Try.func18, ok156⟩
  · exact ⟨Try.f19, Try.func19, ok157⟩
  · exact ⟨Try.f20, Try.func20, ok160⟩
  · exact ⟨Try.f21, Try.func21, ok159⟩
  · exact ⟨Try.f29, Try.func29, ok146⟩
  · exact ⟨Try.f30, Try.func30, ok147⟩
  · exact ⟨Try.f32, Try.func32, ok149⟩
  · exact ⟨Try.f33, Try.func33, ok162⟩
  · exact ⟨Try.f34, Try.func34, ok35⟩
  · exact ⟨Try.f35, Try.func35, ok12⟩
  · exact ⟨Try.f36, Try.func36, ok163⟩
  · exact ⟨Try.f37, Try.func37, ok164⟩
  · exact ⟨Try.f38, Try.func38, ok165⟩
  · exact ⟨Try.f39, Try.func39, ok166⟩
  · exact ⟨Try.f40, Try.func40, ok167⟩
  · exact ⟨Try.f41, Try.func41, ok168⟩
  · exact ⟨Try.f42, Try.func42, ok169⟩
  · exact ⟨Try.f43, Try.func43, ok170⟩
  · exact ⟨Try.f61, Try.func61, ok150⟩
  · exact ⟨Try.f62, Try.func62, ok151⟩
  · exact ⟨Try.f64, Try.func64, ok105⟩
  · exact ⟨Try.f65, Try.func65, ok152⟩
  · exact ⟨Try.f66, Try.func66, ok171⟩
  · exact ⟨Try.f67, Try.func67, ok172⟩
  · exact ⟨Try.f68, Try.func68, ok173⟩
  · exact ⟨Try.f69, Try.func69, ok174⟩
  · exact ⟨Try.f102, Try.func102, ok115⟩
theorem prims_ok (x : Nat × (List V → St → Option V)) (hx : x ∈ prims) : PrimOk Try.prog pr link x.1 x.2 := by
  simp only [prims, List.mem_cons, List.not_mem_nil, or_false] at hx
  rcases hx with rfl | rfl | rfl
  · exact prim148
  · exact prim153
  · exact prim154
theorem tied : Tied Try.prog pr link := tied_of2 (fns := fns) (prims := prims) (fun _ => rfl) (fun _ => rfl) fns_ok prims_ok
theorem tie : Tie Try.prog pr link := ⟨by kernel_rfl, tied⟩
end Go.Proofs.Ytpgipjjhapapjaa.strs
