/- Part of the proof. -/
import Derived.Test.YtpgipjjhapapjaaProg
import Derived.Lib.Strings
import Derived.Lib.Slices
import Derived.Lib.Walk
import Derived.Lib.BufferWrite
import Derived.Lib.UnsafeStr
import Derived.Lib.Hide
import Derived.Laws.MakeOwn
import Derived.WalkKit
import Derived.KernelRfl
import Derived.Test.YtpgipjjhapapjaaShFcmp
import Derived.Test.YtpgipjjhapapjaaShFlaw0
import Derived.Test.YtpgipjjhapapjaaShFlaw8
import Derived.Test.YtpgipjjhapapjaaShFref8
import Derived.Test.YtpgipjjhapapjaaShFslices
import Derived.Test.YtpgipjjhapapjaaShFstrings
import Derived.Test.YtpgipjjhapapjaaShFstrs
import Derived.Test.YtpgipjjhapapjaaShBe
namespace Go.Proofs.Ytpgipjjhapapjaa.strso
open Go.Sh Go.RowKit
def fns:List (Nat×SFn):= [(391,F391),(158,F158),(141,F141),(145,F145),(155,F155),(389,F389),(126,F126),(390,F390),(123,F123),(392,F392),(156,F156),(157,F157),(138,F138),(139,F139),(140,F140),(142,F142),(143,F143),(144,F144),(73,F73),(162,F162),(35,F35),(12,F12),(394,F394),(163,F163),(164,F164),(165,F165),(393,F393),(167,F167),(168,F168),(130,F130),(328,F328),(395,F395),(127,F127),(128,F128),(396,F396),(166,F166),(146,F146),(147,F147),(149,F149),(171,F171),(172,F172),(397,F397),(131,F131),(133,F133),(132,F132),(398,F398),(399,F399),(173,F173),(150,F150),(151,F151),(105,F105),(152,F152),(115,F115)]
def prims:List (Nat×(List V→St→Option V)):= [(148,pIdxB),(153,pIdxS),(154,pCln)]
def pr:Prog:=⟨fun f=> fns.lookup f,fun _=> none,fun f=> prims.lookup f⟩
def fnNo:List (Nat×Nat):= [(391,6),(158,4),(141,3),(145,16),(155,17),(389,19),(126,22),(390,23),(123,24),(392,25),(156,18),(157,19),(138,9),(139,10),(140,11),(142,12),(143,13),(144,14),(73,15),(162,33),(35,34),(12,35),(394,12),(163,36),(164,37),(165,38),(393,39),(167,40),(168,41),(130,44),(328,45),(395,46),(127,47),(128,48),(396,49),(166,39),(146,29),(147,30),(149,32),(171,66),(172,67),(397,68),(131,70),(133,70),(132,71),(398,72),(399,73),(173,68),(150,61),(151,62),(105,64),(152,65),(115,102),(148,31),(153,100),(154,101)]
def glNo:List (Nat×Nat):= []
def tyNo:List (Nat×Nat):= []
def link:Link:=⟨fun t=> (tyNo.lookup t).getD 0,fun f=> (fnNo.lookup f).getD 0,fun g=> (glNo.lookup g).getD 0,fun _=> True⟩
theorem ok391:okFn Try.prog pr link Try.f6 F391=true:=by kernel_rfl
theorem ok158:okFn Try.prog pr link Try.f4 F158=true:=by kernel_rfl
theorem ok141:okFn Try.prog pr link Try.f3 F141=true:=by kernel_rfl
theorem ok145:okFn Try.prog pr link Try.f16 F145=true:=by kernel_rfl
theorem ok155:okFn Try.prog pr link Try.f17 F155=true:=by kernel_rfl
theorem ok389:okFn Try.prog pr link Try.f19 F389=true:=by kernel_rfl
theorem ok126:okFn Try.prog pr link Try.f22 F126=true:=by kernel_rfl
theorem ok390:okFn Try.prog pr link Try.f23 F390=true:=by kernel_rfl
theorem ok123:okFn Try.prog pr link Try.f24 F123=true:=by kernel_rfl
theorem ok392:okFn Try.prog pr link Try.f25 F392=true:=by kernel_rfl
theorem ok156:okFn Try.prog pr link Try.f18 F156=true:=by kernel_rfl
theorem ok157:okFn Try.prog pr link Try.f19 F157=true:=by kernel_rfl
theorem ok138:okFn Try.prog pr link Try.f9 F138=true:=by kernel_rfl
theorem ok139:okFn Try.prog pr link Try.f10 F139=true:=by kernel_rfl
theorem ok140:okFn Try.prog pr link Try.f11 F140=true:=by kernel_rfl
theorem ok142:okFn Try.prog pr link Try.f12 F142=true:=by kernel_rfl
theorem ok143:okFn Try.prog pr link Try.f13 F143=true:=by kernel_rfl
theorem ok144:okFn Try.prog pr link Try.f14 F144=true:=by kernel_rfl
theorem ok73:okFn Try.prog pr link Try.f15 F73=true:=by kernel_rfl
theorem ok162:okFn Try.prog pr link Try.f33 F162=true:=by kernel_rfl
theorem ok35:okFn Try.prog pr link Try.f34 F35=true:=by kernel_rfl
theorem ok12:okFn Try.prog pr link Try.f35 F12=true:=by kernel_rfl
theorem ok394:okFn Try.prog pr link Try.f12 F394=true:=by kernel_rfl
theorem ok163:okFn Try.prog pr link Try.f36 F163=true:=by kernel_rfl
theorem ok164:okFn Try.prog pr link Try.f37 F164=true:=by kernel_rfl
theorem ok165:okFn Try.prog pr link Try.f38 F165=true:=by kernel_rfl
theorem ok393:okFn Try.prog pr link Try.f39 F393=true:=by kernel_rfl
theorem ok167:okFn Try.prog pr link Try.f40 F167=true:=by kernel_rfl
theorem ok168:okFn Try.prog pr link Try.f41 F168=true:=by kernel_rfl
theorem ok130:okFn Try.prog pr link Try.f44 F130=true:=by kernel_rfl
theorem ok328:okFn Try.prog pr link Try.f45 F328=true:=by kernel_rfl
theorem ok395:okFn Try.prog pr link Try.f46 F395=true:=by kernel_rfl
theorem ok127:okFn Try.prog pr link Try.f47 F127=true:=by kernel_rfl
theorem ok128:okFn Try.prog pr link Try.f48 F128=true:=by kernel_rfl
theorem ok396:okFn Try.prog pr link Try.f49 F396=true:=by kernel_rfl
theorem ok166:okFn Try.prog pr link Try.f39 F166=true:=by kernel_rfl
theorem ok146:okFn Try.prog pr link Try.f29 F146=true:=by kernel_rfl
theorem ok147:okFn Try.prog pr link Try.f30 F147=true:=by kernel_rfl
theorem ok149:okFn Try.prog pr link Try.f32 F149=true:=by kernel_rfl
theorem ok171:okFn Try.prog pr link Try.f66 F171=true:=by kernel_rfl
theorem ok172:okFn Try.prog pr link Try.f67 F172=true:=by kernel_rfl
theorem ok397:okFn Try.prog pr link Try.f68 F397=true:=by kernel_rfl
theorem ok131:okFn Try.prog pr link Try.f70 F131=true:=by kernel_rfl
theorem ok133:okFn Try.prog pr link Try.f70 F133=true:=by kernel_rfl
theorem ok132:okFn Try.prog pr link Try.f71 F132=true:=by kernel_rfl
theorem ok398:okFn Try.prog pr link Try.f72 F398=true:=by kernel_rfl
theorem ok399:okFn Try.prog pr link Try.f73 F399=true:=by kernel_rfl
theorem ok173:okFn Try.prog pr link Try.f68 F173=true:=by kernel_rfl
theorem ok150:okFn Try.prog pr link Try.f61 F150=true:=by kernel_rfl
theorem ok151:okFn Try.prog pr link Try.f62 F151=true:=by kernel_rfl
theorem ok105:okFn Try.prog pr link Try.f64 F105=true:=by kernel_rfl
theorem ok152:okFn Try.prog pr link Try.f65 F152=true:=by kernel_rfl
theorem ok115:okFn Try.prog pr link Try.f102 F115=true:=by kernel_rfl
set_option maxHeartbeats 1000000 in
set_option maxRecDepth 100000 in
theorem walk148 (A:Option Addr)(n cap:Nat)(xs:List Int)(c:Int)(w:World)(hx:xs.length=n)(hA:n=0∨∃ b o,A=some ⟨b,o,none⟩∧∀ (i:Nat) x,xs[i]? =some x→w.cell? ⟨b,o+i,none⟩=some (.int .u8 x)):
    Calls Try.prog 31 #[.slice A n cap,.int .u8 c] w fun e w'=> e= .returned (.int .i64 (Lib.indexByte (xs.map fun x=> UInt8.ofNat x.toNat) c.toNat.toUInt8))∧w'=w:=by
  have hrun:(Extern.BytealgIndexByte.indexByte #[.slice A n cap,.int .u8 c]).run Try.prog w= .ok (.int .i64 (Lib.indexByte (xs.map fun x=> UInt8.ofNat x.toNat) c.toNat.toUInt8)) w:=run_idxB hx hA
  go_enter Try.func31,Try.ntmps31
  go_wp2
  rw[run_callFunc_extern Try.func63 (by kernel_rfl) (by kernel_rfl) (by kernel_rfl) (e:=Extern.BytealgIndexByte.indexByte) (by kernel_rfl),hrun]
  simp only[Result.andThen]
  rw[Oper.upon_value]
  go_wp2
  go_ret
  exact⟨rfl,rfl⟩
theorem prim148:PrimOk Try.prog pr link 148 pIdxB:=primOk_idxB walk148
set_option maxHeartbeats 1000000 in
set_option maxRecDepth 100000 in
theorem walk153 (s:ByteArray)(c:Int)(w:World):
    Calls Try.prog 100 #[.string s,.int .u8 c] w fun e w'=> e= .returned (.int .i64 (Lib.indexByte s.data.toList c.toNat.toUInt8))∧w'=w:=by
  go_enter Try.func100,Try.ntmps100
  go_wp2
  rw[run_callFunc_extern Try.func115 (by kernel_rfl) (by kernel_rfl) (by kernel_rfl) (e:=Extern.BytealgIndexByte.indexByte) (by kernel_rfl),Lib.run_indexByteString]
  simp only[Result.andThen]
  rw[Oper.upon_value]
  go_wp2
  go_ret
  exact⟨rfl,rfl⟩
theorem prim153:PrimOk Try.prog pr link 153 pIdxS:=primOk_idxS walk153
set_option maxHeartbeats 4000000 in
set_option maxRecDepth 100000 in
theorem walk154 (s:ByteArray)(w:World)(hlim:s.size≤281474976710656):Calls Try.prog 101 #[.string s] w fun e w'=> e= .returned (.string s)∧Below w.heap.size w w':=by
  by_cases h0:s.size=0
  · have hs:s=⟨#[]⟩:=by
      apply ByteArray.ext
      exact Array.eq_empty_of_size_eq_zero h0
    subst hs
    go_enter Try.func101,Try.ntmps101
    go_wp2
    go_ret
    exact⟨rfl,Below.refl _ _⟩
  · obtain⟨i0,hi,hz0,hz1,hz2⟩:∃ i0,Try.prog.info? 5=some i0∧i0.zero=some (.int .u8 0)∧i0.size=1∧i0.bytes=1:=⟨_,rfl,rfl,rfl,rfl⟩
    have hinfo:(Try.prog.info? 5).map (·.size)=some 1:=by rw[hi];simp[hz1]
    have hco:Try.prog.cellsOf 5=1:=by simp[Program.cellsOf,hi,hz1]
    obtain⟨M,hM⟩:∃ M,M=madeCells (Value.int .u8 0).cells (((s.size:Nat):Int).toNat * i0.size):=⟨_,rfl⟩
    have hMs:M.size=s.size:=by rw[hM,size_madeCells,hz1];simp
    have hmk:∀ W:World,(Instr.makeSlice 30 (.int .i64 (s.size:Int)) (.int .i64 (s.size:Int))).run Try.prog W= .ok (.slice (some ⟨W.heap.size,0,none⟩) s.size s.size) (W.alloc (.cells M 5)):=fun W=> by
      have h:=run_make (P:=Try.prog) W 30 5 i0 (.int .u8 0) Try.underlying30 hi hz0 .i64 .i64 (s.size:Int) (s.size:Int) (by omega) (by omega) (by rw[hz2];omega) (by omega)
      rw[← hM]at h
      simpa using h
    clear hM
    have hcp:=Lib.run_copy_row_string (P:=Try.prog) (w.alloc (.cells M 5)) 30 9 3 5 w.heap.size 0 s.size s.size s M 5 Try.underlying30 hinfo (heap_alloc_new w _) (Nat.le_refl _) (by omega)
    obtain⟨Y,hY⟩:∃ Y,Y=(M.toList.take 0++Lib.byteCells s.data.toList++M.toList.drop (0+s.size)).toArray:=⟨_,rfl⟩
    rw[← hY]at hcp
    have hYl:Y.toList=Lib.byteCells s.data.toList:=by
      rw[hY,List.toList_toArray,List.take_zero,List.nil_append,List.drop_of_length_le (by rw[Array.length_toList];omega),List.append_nil]
    have hYs:Y.size=s.size:=by rw[← Array.length_toList,hYl,Lib.byteCells_length,← Lib.size_eq]
    have hgY:((w.alloc (.cells M 5)).setRow w.heap.size Y).heap[w.heap.size]? =some (.cells Y 5 (0,0)):=setRow_heap _ _ M _ 5 (0,0) (heap_alloc_new w _)
    have hne:s.data.toList≠ []:=fun e=> h0 (by rw[Lib.size_eq,e];rfl)
    have hUS:=Lib.run_unsafeString_row (P:=Try.prog) ((w.alloc (.cells M 5)).setRow w.heap.size Y) 164 3 9 5 Try.underlying164 hco w.heap.size Y.size (by unfold World.shape?;rw[hgY]) s.data.toList hne (by rw[← Lib.size_eq];omega) (by rw[← Lib.size_eq];omega)
      (fun j x hx=> Lib.cells_of_row hgY Y.size j _ (by rw[List.take_of_length_le (by rw[Array.length_toList];exact Nat.le_refl _),hYl];simp[Lib.byteCells,hx]))
    rw[← Lib.size_eq]at hUS
    clear hY
    go_enter Try.func101,Try.ntmps101
    go_wp2
    go_ret
    have hb1:Below w.heap.size w (w.alloc (.cells M 5)):=(Below.refl _ w).alloc (Nat.le_refl _) _
    have hb2:Below w.heap.size (w.alloc (.cells M 5)) ((w.alloc (.cells M 5)).setRow w.heap.size Y):=⟨rfl,rfl,rfl,by simp,fun k hk=> setRow_other _ _ _ _ (by omega)⟩
    exact⟨rfl,Lib.below_freeze (hb1.trans hb2) (p:=⟨w.heap.size,0,none⟩) (Nat.le_refl _) _⟩
theorem prim154:PrimOk Try.prog pr link 154 pCln:=primOk_cln walk154
theorem fns_ok (x:Nat×SFn)(hx:x∈fns):∃ fn,Try.prog.funcs[link.fn x.1]? =some fn∧okFn Try.prog pr link fn x.2=true:=by
  simp only[fns,List.mem_cons,List.not_mem_nil,or_false]at hx
  rcases hx with rfl | rfl | rfl | rfl | rfl | rfl | rfl | rfl | rfl | rfl | rfl | rfl | rfl | rfl | rfl | rfl | rfl | rfl | rfl | rfl | rfl | rfl | rfl | rfl | rfl | rfl | rfl | rfl | rfl | rfl | rfl | rfl | rfl | rfl | rfl | rfl | rfl | rfl | rfl | rfl | rfl | rfl | rfl | rfl | rfl | rfl | rfl | rfl | rfl | rfl | rfl | rfl | rfl
  · exact⟨Try.f6,Try.func6,ok391⟩
  · exact⟨Try.f4,Try.func4,ok158⟩
  · exact⟨Try.f3,Try.func3,ok141⟩
  · exact⟨Try.f16,Try.func16,ok145⟩
  · exact⟨Try.f17,Try.func17,ok155⟩
  · exact⟨Try.f19,Try.func19,ok389⟩
  · exact⟨Try.f22,Try.func22,ok126⟩
  · exact⟨Try.f23,Try.func23,ok390⟩
  · exact⟨Try.f24,Try.func24,ok123⟩
  · exact⟨Try.f25,Try.func25,ok392⟩
  · exact⟨Try.f18,Try.func18,ok156⟩
  · exact⟨Try.f19,Try.func19,ok157⟩
  · exact⟨Try.f9,Try.func9,ok138⟩
  · exact⟨Try.f10,Try.func10,ok139⟩
  · exact⟨Try.f11,Try.func11,ok140⟩
  · exact⟨Try.f12,Try.func12,ok142⟩
  · exact⟨Try.f13,Try.func13,ok143⟩
  · exact⟨Try.f14,Try.func14,ok144⟩
  · exact⟨Try.f15,Try.func15,ok73⟩
  · exact⟨Try.f33,Try.func33,ok162⟩
  · exact⟨Try.f34,Try.func34,ok35⟩
  · exact⟨Try.f35,Try.func35,ok12⟩
  · exact⟨Try.f12,Try.func12,ok394⟩
  · exact⟨Try.f36,Try.func36,ok163⟩
  · exact⟨Try.f37,Try.func37,ok164⟩
  · exact⟨Try.f38,Try.func38,ok165⟩
  · exact⟨Try.f39,Try.func39,ok393⟩
  · exact⟨Try.f40,Try.func40,ok167⟩
  · exact⟨Try.f41,Try.func41,ok168⟩
  · exact⟨Try.f44,Try.func44,ok130⟩
  · exact⟨Try.f45,Try.func45,ok328⟩
  · exact⟨Try.f46,Try.func46,ok395⟩
  · exact⟨Try.f47,Try.func47,ok127⟩
  · exact⟨Try.f48,Try.func48,ok128⟩
  · exact⟨Try.f49,Try.func49,ok396⟩
  · exact⟨Try.f39,Try.func39,ok166⟩
  · exact⟨Try.f29,Try.func29,ok146⟩
  · exact⟨Try.f30,Try.func30,ok147⟩
  · exact⟨Try.f32,Try.func32,ok149⟩
  · exact⟨Try.f66,Try.func66,ok171⟩
  · exact⟨Try.f67,Try.func67,ok172⟩
  · exact⟨Try.f68,Try.func68,ok397⟩
  · exact⟨Try.f70,Try.func70,ok131⟩
  · exact⟨Try.f70,Try.func70,ok133⟩
  · exact⟨Try.f71,Try.func71,ok132⟩
  · exact⟨Try.f72,Try.func72,ok398⟩
  · exact⟨Try.f73,Try.func73,ok399⟩
  · exact⟨Try.f68,Try.func68,ok173⟩
  · exact⟨Try.f61,Try.func61,ok150⟩
  · exact⟨Try.f62,Try.func62,ok151⟩
  · exact⟨Try.f64,Try.func64,ok105⟩
  · exact⟨Try.f65,Try.func65,ok152⟩
  · exact⟨Try.f102,Try.func102,ok115⟩
theorem prims_ok (x:Nat×(List V→St→Option V))(hx:x∈prims):PrimOk Try.prog pr link x.1 x.2:=by
  simp only[prims,List.mem_cons,List.not_mem_nil,or_false]at hx
  rcases hx with rfl | rfl | rfl
  · exact prim148
  · exact prim153
  · exact prim154
theorem tied:Tied Try.prog pr link:=tied_of2 (fns:=fns) (prims:=prims) (fun _=> rfl) (fun _=> rfl) fns_ok prims_ok
theorem tie:Tie Try.prog pr link:=⟨by kernel_rfl,tied⟩
end Go.Proofs.Ytpgipjjhapapjaa.strso
