/- Part of the proof. -/
import Derived.Test.YtidigkielipghaaGreatDoorProg
import Derived.Lib.Strings
import Derived.Lib.Slices
import Derived.Lib.Walk
import Derived.Lib.BufferWrite
import Derived.Lib.UnsafeStr
import Derived.Lib.Hide
import Derived.Laws.MakeOwn
import Derived.WalkKit
import Derived.KernelRfl
import Derived.Test.YtidigkielipghaaGreatDoorShFcode
import Derived.Test.YtidigkielipghaaGreatDoorShFisa
import Derived.Test.YtidigkielipghaaGreatDoorShFlaw0
import Derived.Test.YtidigkielipghaaGreatDoorShFlaw15
import Derived.Test.YtidigkielipghaaGreatDoorShFmaps
import Derived.Test.YtidigkielipghaaGreatDoorShFnames
import Derived.Test.YtidigkielipghaaGreatDoorShFobject
import Derived.Test.YtidigkielipghaaGreatDoorShFref12
import Derived.Test.YtidigkielipghaaGreatDoorShFref15
import Derived.Test.YtidigkielipghaaGreatDoorShFref2
import Derived.Test.YtidigkielipghaaGreatDoorShFref3
import Derived.Test.YtidigkielipghaaGreatDoorShFslices
import Derived.Test.YtidigkielipghaaGreatDoorShBe
import Derived.Test.YtidigkielipghaaGreatDoorShSnamesZ
namespace Go.Proofs.YtidigkielipghaaGreatDoor.merges
open Go.Sh Go.RowKit
def fns:List (Nat×SFn):= [(365,F365),(315,F315),(364,F364),(320,F320),(325,F325),(12,F12),(366,F366),(388,F388),(367,F367),(368,F368),(321,F321),(369,F369),(370,F370),(330,F330),(331,F331),(332,F332),(334,F334),(335,F335),(336,F336),(371,F371),(372,F372),(373,F373),(374,F374),(317,F317),(375,F375),(327,F327),(337,F337),(338,F338),(339,F339),(340,F340),(341,F341),(342,F342),(343,F343),(344,F344),(347,F347),(346,F346),(376,F376),(377,F377),(378,F378),(379,F379),(380,F380),(381,F381),(382,F382),(7,F7),(326,F326),(328,F328),(329,F329),(9,F9),(383,F383),(167,F167),(384,F384),(0,F0),(27,F27),(348,F348),(349,F349),(3,F3),(385,F385),(251,F251),(386,F386),(65,F65),(387,F387),(11,F11),(28,F28),(29,F29),(8,F8),(285,F285),(286,F286),(17,F17),(67,F67),(18,F18),(22,F22),(304,F304),(19,F19),(20,F20),(21,F21),(23,F23),(68,F68),(24,F24)]
def prims:List (Nat×(List V→St→Option V)):= [(333,(pSortedS 345))]
def pr:Prog:=⟨fun f=> fns.lookup f,tabs,fun f=> prims.lookup f⟩
def fnNo:List (Nat×Nat):= [(365,3),(315,4),(364,5),(320,6),(325,7),(12,8),(366,9),(388,10),(367,11),(368,12),(321,13),(369,14),(370,15),(330,16),(331,17),(332,19),(334,20),(335,21),(336,22),(371,23),(372,24),(373,25),(374,26),(317,27),(375,28),(327,29),(337,30),(338,31),(339,32),(340,33),(341,34),(342,35),(343,36),(344,37),(347,41),(346,42),(376,43),(377,44),(378,45),(379,46),(380,47),(381,48),(382,49),(7,50),(326,51),(328,52),(329,53),(9,54),(383,55),(167,56),(384,57),(0,58),(27,59),(348,60),(349,64),(3,65),(385,66),(251,67),(386,68),(65,69),(387,70),(11,71),(28,72),(29,73),(8,85),(285,86),(286,87),(17,88),(67,89),(18,90),(22,91),(304,98),(19,99),(20,100),(21,101),(23,102),(68,103),(24,104),(333,18),(345,40)]
def glNo:List (Nat×Nat):= [(0,1),(1,2),(2,3),(3,4),(4,0)]
def tyNo:List (Nat×Nat):= []
def link:Link:=⟨fun t=> (tyNo.lookup t).getD 0,fun f=> (fnNo.lookup f).getD 0,fun g=> (glNo.lookup g).getD 0,fun _=> True⟩
theorem ok365:okFn Tryz.prog pr link Tryz.f3 F365=true:=by kernel_rfl
theorem ok315:okFn Tryz.prog pr link Tryz.f4 F315=true:=by kernel_rfl
theorem ok364:okFn Tryz.prog pr link Tryz.f5 F364=true:=by kernel_rfl
theorem ok320:okFn Tryz.prog pr link Tryz.f6 F320=true:=by kernel_rfl
theorem ok325:okFn Tryz.prog pr link Tryz.f7 F325=true:=by kernel_rfl
theorem ok12:okFn Tryz.prog pr link Tryz.f8 F12=true:=by kernel_rfl
theorem ok366:okFn Tryz.prog pr link Tryz.f9 F366=true:=by kernel_rfl
theorem ok388:okFn Tryz.prog pr link Tryz.f10 F388=true:=by kernel_rfl
theorem ok367:okFn Tryz.prog pr link Tryz.f11 F367=true:=by kernel_rfl
theorem ok368:okFn Tryz.prog pr link Tryz.f12 F368=true:=by kernel_rfl
theorem ok321:okFn Tryz.prog pr link Tryz.f13 F321=true:=by kernel_rfl
theorem ok369:okFn Tryz.prog pr link Tryz.f14 F369=true:=by kernel_rfl
theorem ok370:okFn Tryz.prog pr link Tryz.f15 F370=true:=by kernel_rfl
theorem ok330:okFn Tryz.prog pr link Tryz.f16 F330=true:=by kernel_rfl
theorem ok331:okFn Tryz.prog pr link Tryz.f17 F331=true:=by kernel_rfl
theorem ok332:okFn Tryz.prog pr link Tryz.f19 F332=true:=by kernel_rfl
theorem ok334:okFn Tryz.prog pr link Tryz.f20 F334=true:=by kernel_rfl
theorem ok335:okFn Tryz.prog pr link Tryz.f21 F335=true:=by kernel_rfl
theorem ok336:okFn Tryz.prog pr link Tryz.f22 F336=true:=by kernel_rfl
theorem ok371:okFn Tryz.prog pr link Tryz.f23 F371=true:=by kernel_rfl
theorem ok372:okFn Tryz.prog pr link Tryz.f24 F372=true:=by kernel_rfl
theorem ok373:okFn Tryz.prog pr link Tryz.f25 F373=true:=by kernel_rfl
theorem ok374:okFn Tryz.prog pr link Tryz.f26 F374=true:=by kernel_rfl
theorem ok317:okFn Tryz.prog pr link Tryz.f27 F317=true:=by kernel_rfl
theorem ok375:okFn Tryz.prog pr link Tryz.f28 F375=true:=by kernel_rfl
theorem ok327:okFn Tryz.prog pr link Tryz.f29 F327=true:=by kernel_rfl
theorem ok337:okFn Tryz.prog pr link Tryz.f30 F337=true:=by kernel_rfl
theorem ok338:okFn Tryz.prog pr link Tryz.f31 F338=true:=by kernel_rfl
theorem ok339:okFn Tryz.prog pr link Tryz.f32 F339=true:=by kernel_rfl
theorem ok340:okFn Tryz.prog pr link Tryz.f33 F340=true:=by kernel_rfl
theorem ok341:okFn Tryz.prog pr link Tryz.f34 F341=true:=by kernel_rfl
theorem ok342:okFn Tryz.prog pr link Tryz.f35 F342=true:=by kernel_rfl
theorem ok343:okFn Tryz.prog pr link Tryz.f36 F343=true:=by kernel_rfl
theorem ok344:okFn Tryz.prog pr link Tryz.f37 F344=true:=by kernel_rfl
theorem ok347:okFn Tryz.prog pr link Tryz.f41 F347=true:=by kernel_rfl
theorem ok346:okFn Tryz.prog pr link Tryz.f42 F346=true:=by kernel_rfl
theorem ok376:okFn Tryz.prog pr link Tryz.f43 F376=true:=by kernel_rfl
theorem ok377:okFn Tryz.prog pr link Tryz.f44 F377=true:=by kernel_rfl
theorem ok378:okFn Tryz.prog pr link Tryz.f45 F378=true:=by kernel_rfl
theorem ok379:okFn Tryz.prog pr link Tryz.f46 F379=true:=by kernel_rfl
theorem ok380:okFn Tryz.prog pr link Tryz.f47 F380=true:=by kernel_rfl
theorem ok381:okFn Tryz.prog pr link Tryz.f48 F381=true:=by kernel_rfl
theorem ok382:okFn Tryz.prog pr link Tryz.f49 F382=true:=by kernel_rfl
theorem ok7:okFn Tryz.prog pr link Tryz.f50 F7=true:=by kernel_rfl
theorem ok326:okFn Tryz.prog pr link Tryz.f51 F326=true:=by kernel_rfl
theorem ok328:okFn Tryz.prog pr link Tryz.f52 F328=true:=by kernel_rfl
theorem ok329:okFn Tryz.prog pr link Tryz.f53 F329=true:=by kernel_rfl
theorem ok9:okFn Tryz.prog pr link Tryz.f54 F9=true:=by kernel_rfl
theorem ok383:okFn Tryz.prog pr link Tryz.f55 F383=true:=by kernel_rfl
theorem ok167:okFn Tryz.prog pr link Tryz.f56 F167=true:=by kernel_rfl
theorem ok384:okFn Tryz.prog pr link Tryz.f57 F384=true:=by kernel_rfl
theorem ok0:okFn Tryz.prog pr link Tryz.f58 F0=true:=by kernel_rfl
theorem ok27:okFn Tryz.prog pr link Tryz.f59 F27=true:=by kernel_rfl
theorem ok348:okFn Tryz.prog pr link Tryz.f60 F348=true:=by kernel_rfl
theorem ok349:okFn Tryz.prog pr link Tryz.f64 F349=true:=by kernel_rfl
theorem ok3:okFn Tryz.prog pr link Tryz.f65 F3=true:=by kernel_rfl
theorem ok385:okFn Tryz.prog pr link Tryz.f66 F385=true:=by kernel_rfl
theorem ok251:okFn Tryz.prog pr link Tryz.f67 F251=true:=by kernel_rfl
theorem ok386:okFn Tryz.prog pr link Tryz.f68 F386=true:=by kernel_rfl
theorem ok65:okFn Tryz.prog pr link Tryz.f69 F65=true:=by kernel_rfl
theorem ok387:okFn Tryz.prog pr link Tryz.f70 F387=true:=by kernel_rfl
theorem ok11:okFn Tryz.prog pr link Tryz.f71 F11=true:=by kernel_rfl
theorem ok28:okFn Tryz.prog pr link Tryz.f72 F28=true:=by kernel_rfl
theorem ok29:okFn Tryz.prog pr link Tryz.f73 F29=true:=by kernel_rfl
theorem ok8:okFn Tryz.prog pr link Tryz.f85 F8=true:=by kernel_rfl
theorem ok285:okFn Tryz.prog pr link Tryz.f86 F285=true:=by kernel_rfl
theorem ok286:okFn Tryz.prog pr link Tryz.f87 F286=true:=by kernel_rfl
theorem ok17:okFn Tryz.prog pr link Tryz.f88 F17=true:=by kernel_rfl
theorem ok67:okFn Tryz.prog pr link Tryz.f89 F67=true:=by kernel_rfl
theorem ok18:okFn Tryz.prog pr link Tryz.f90 F18=true:=by kernel_rfl
theorem ok22:okFn Tryz.prog pr link Tryz.f91 F22=true:=by kernel_rfl
theorem ok304:okFn Tryz.prog pr link Tryz.f98 F304=true:=by kernel_rfl
theorem ok19:okFn Tryz.prog pr link Tryz.f99 F19=true:=by kernel_rfl
theorem ok20:okFn Tryz.prog pr link Tryz.f100 F20=true:=by kernel_rfl
theorem ok21:okFn Tryz.prog pr link Tryz.f101 F21=true:=by kernel_rfl
theorem ok23:okFn Tryz.prog pr link Tryz.f102 F23=true:=by kernel_rfl
theorem ok68:okFn Tryz.prog pr link Tryz.f103 F68=true:=by kernel_rfl
theorem ok24:okFn Tryz.prog pr link Tryz.f104 F24=true:=by kernel_rfl
theorem prim333:PrimOk Tryz.prog pr link 333 (pSortedS 345):=primOk_sortedS (kt:=9) Tryz.underlying9 fun blk mb nn D0 w h1 h2 h3 h4 h5=> Tryz.sortedKeys blk mb nn D0 anyR w h1 h2 h3 h4 h5
theorem fns_ok (x:Nat×SFn)(hx:x∈fns):∃ fn,Tryz.prog.funcs[link.fn x.1]? =some fn∧okFn Tryz.prog pr link fn x.2=true:=by
  simp only[fns,List.mem_cons,List.not_mem_nil,or_false]at hx
  rcases hx with rfl | rfl | rfl | rfl | rfl | rfl | rfl | rfl | rfl | rfl | rfl | rfl | rfl | rfl | rfl | rfl | rfl | rfl | rfl | rfl | rfl | rfl | rfl | rfl | rfl | rfl | rfl | rfl | rfl | rfl | rfl | rfl | rfl | rfl | rfl | rfl | rfl | rfl | rfl | rfl | rfl | rfl | rfl | rfl | rfl | rfl | rfl | rfl | rfl | rfl | rfl | rfl | rfl | rfl | rfl | rfl | rfl | rfl | rfl | rfl | rfl | rfl | rfl | rfl | rfl | rfl | rfl | rfl | rfl | rfl | rfl | rfl | rfl | rfl | rfl | rfl | rfl | rfl
  · exact⟨Tryz.f3,Tryz.func3,ok365⟩
  · exact⟨Tryz.f4,Tryz.func4,ok315⟩
  · exact⟨Tryz.f5,Tryz.func5,ok364⟩
  · exact⟨Tryz.f6,Tryz.func6,ok320⟩
  · exact⟨Tryz.f7,Tryz.func7,ok325⟩
  · exact⟨Tryz.f8,Tryz.func8,ok12⟩
  · exact⟨Tryz.f9,Tryz.func9,ok366⟩
  · exact⟨Tryz.f10,Tryz.func10,ok388⟩
  · exact⟨Tryz.f11,Tryz.func11,ok367⟩
  · exact⟨Tryz.f12,Tryz.func12,ok368⟩
  · exact⟨Tryz.f13,Tryz.func13,ok321⟩
  · exact⟨Tryz.f14,Tryz.func14,ok369⟩
  · exact⟨Tryz.f15,Tryz.func15,ok370⟩
  · exact⟨Tryz.f16,Tryz.func16,ok330⟩
  · exact⟨Tryz.f17,Tryz.func17,ok331⟩
  · exact⟨Tryz.f19,Tryz.func19,ok332⟩
  · exact⟨Tryz.f20,Tryz.func20,ok334⟩
  · exact⟨Tryz.f21,Tryz.func21,ok335⟩
  · exact⟨Tryz.f22,Tryz.func22,ok336⟩
  · exact⟨Tryz.f23,Tryz.func23,ok371⟩
  · exact⟨Tryz.f24,Tryz.func24,ok372⟩
  · exact⟨Tryz.f25,Tryz.func25,ok373⟩
  · exact⟨Tryz.f26,Tryz.func26,ok374⟩
  · exact⟨Tryz.f27,Tryz.func27,ok317⟩
  · exact⟨Tryz.f28,Tryz.func28,ok375⟩
  · exact⟨Tryz.f29,Tryz.func29,ok327⟩
  · exact⟨Tryz.f30,Tryz.func30,ok337⟩
  · exact⟨Tryz.f31,Tryz.func31,ok338⟩
  · exact⟨Tryz.f32,Tryz.func32,ok339⟩
  · exact⟨Tryz.f33,Tryz.func33,ok340⟩
  · exact⟨Tryz.f34,Tryz.func34,ok341⟩
  · exact⟨Tryz.f35,Tryz.func35,ok342⟩
  · exact⟨Tryz.f36,Tryz.func36,ok343⟩
  · exact⟨Tryz.f37,Tryz.func37,ok344⟩
  · exact⟨Tryz.f41,Tryz.func41,ok347⟩
  · exact⟨Tryz.f42,Tryz.func42,ok346⟩
  · exact⟨Tryz.f43,Tryz.func43,ok376⟩
  · exact⟨Tryz.f44,Tryz.func44,ok377⟩
  · exact⟨Tryz.f45,Tryz.func45,ok378⟩
  · exact⟨Tryz.f46,Tryz.func46,ok379⟩
  · exact⟨Tryz.f47,Tryz.func47,ok380⟩
  · exact⟨Tryz.f48,Tryz.func48,ok381⟩
  · exact⟨Tryz.f49,Tryz.func49,ok382⟩
  · exact⟨Tryz.f50,Tryz.func50,ok7⟩
  · exact⟨Tryz.f51,Tryz.func51,ok326⟩
  · exact⟨Tryz.f52,Tryz.func52,ok328⟩
  · exact⟨Tryz.f53,Tryz.func53,ok329⟩
  · exact⟨Tryz.f54,Tryz.func54,ok9⟩
  · exact⟨Tryz.f55,Tryz.func55,ok383⟩
  · exact⟨Tryz.f56,Tryz.func56,ok167⟩
  · exact⟨Tryz.f57,Tryz.func57,ok384⟩
  · exact⟨Tryz.f58,Tryz.func58,ok0⟩
  · exact⟨Tryz.f59,Tryz.func59,ok27⟩
  · exact⟨Tryz.f60,Tryz.func60,ok348⟩
  · exact⟨Tryz.f64,Tryz.func64,ok349⟩
  · exact⟨Tryz.f65,Tryz.func65,ok3⟩
  · exact⟨Tryz.f66,Tryz.func66,ok385⟩
  · exact⟨Tryz.f67,Tryz.func67,ok251⟩
  · exact⟨Tryz.f68,Tryz.func68,ok386⟩
  · exact⟨Tryz.f69,Tryz.func69,ok65⟩
  · exact⟨Tryz.f70,Tryz.func70,ok387⟩
  · exact⟨Tryz.f71,Tryz.func71,ok11⟩
  · exact⟨Tryz.f72,Tryz.func72,ok28⟩
  · exact⟨Tryz.f73,Tryz.func73,ok29⟩
  · exact⟨Tryz.f85,Tryz.func85,ok8⟩
  · exact⟨Tryz.f86,Tryz.func86,ok285⟩
  · exact⟨Tryz.f87,Tryz.func87,ok286⟩
  · exact⟨Tryz.f88,Tryz.func88,ok17⟩
  · exact⟨Tryz.f89,Tryz.func89,ok67⟩
  · exact⟨Tryz.f90,Tryz.func90,ok18⟩
  · exact⟨Tryz.f91,Tryz.func91,ok22⟩
  · exact⟨Tryz.f98,Tryz.func98,ok304⟩
  · exact⟨Tryz.f99,Tryz.func99,ok19⟩
  · exact⟨Tryz.f100,Tryz.func100,ok20⟩
  · exact⟨Tryz.f101,Tryz.func101,ok21⟩
  · exact⟨Tryz.f102,Tryz.func102,ok23⟩
  · exact⟨Tryz.f103,Tryz.func103,ok68⟩
  · exact⟨Tryz.f104,Tryz.func104,ok24⟩
theorem prims_ok (x:Nat×(List V→St→Option V))(hx:x∈prims):PrimOk Tryz.prog pr link x.1 x.2:=by
  simp only[prims,List.mem_cons,List.not_mem_nil,or_false]at hx
  rcases hx with rfl
  · exact prim333
theorem tied:Tied Tryz.prog pr link:=tied_of2 (fns:=fns) (prims:=prims) (fun _=> rfl) (fun _=> rfl) fns_ok prims_ok
theorem tie:Tie Tryz.prog pr link:=⟨by kernel_rfl,tied⟩
end Go.Proofs.YtidigkielipghaaGreatDoor.merges
