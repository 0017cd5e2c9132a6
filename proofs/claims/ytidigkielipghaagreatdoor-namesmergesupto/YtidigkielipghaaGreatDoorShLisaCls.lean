/- Part of the proof. -/
import Derived.Test.YtidigkielipghaaGreatDoorShLisa
set_option linter.unusedVariables false
set_option linter.unusedSimpArgs false
namespace Go.Sh
structure OpC where
  form:Int
  uform:Int
  group:Int
  e:Int
  nz:Bool
  rows:List RowS
  d:OpD
def OpC.use (c:OpC):List V:= [.d (.i .i64 c.uform),.d (.i .i64 c.group),.d (.b c.d.dst),.d (.b c.d.src),.d (.b c.d.off),.d (.b c.d.imm)]
def cl0:OpC:=⟨0,0,0,20,false,[],⟨false,false,false,false,false,false,[0],[0]⟩⟩
def cl1:OpC:=⟨3,3,1,0,true,[⟨3,1,true,false,false,true,false,0,0,[]⟩],⟨true,false,false,true,false,false,[0],[0]⟩⟩
def cl2:OpC:=⟨7,7,1,0,true,[⟨7,1,false,false,true,false,false,0,0,[]⟩],⟨false,false,true,false,false,false,[0],[0]⟩⟩
def cl3:OpC:=⟨7,7,1,0,true,[⟨7,1,false,false,false,true,false,0,0,[]⟩],⟨false,false,false,true,false,false,[0],[0]⟩⟩
def cl4:OpC:=⟨3,3,1,0,true,[⟨3,1,true,true,false,false,false,0,0,[]⟩],⟨true,true,false,false,false,false,[0],[0]⟩⟩
def cl5:OpC:=⟨8,8,1,0,true,[⟨8,1,true,false,true,true,false,0,0,[]⟩],⟨true,false,true,true,false,false,[0],[0]⟩⟩
def cl6:OpC:=⟨10,10,1,0,true,[⟨10,1,true,false,false,true,true,0,0,[]⟩,⟨10,1,true,false,false,true,false,1,0,[]⟩],⟨true,false,false,true,true,true,[0],[0]⟩⟩
def cl7:OpC:=⟨8,8,1,0,true,[⟨8,1,true,true,true,false,false,0,0,[]⟩],⟨true,true,true,false,false,false,[0],[0]⟩⟩
def cl8:OpC:=⟨3,3,2,0,true,[⟨3,2,true,false,false,true,false,0,0,[]⟩],⟨true,false,false,true,false,false,[0],[0]⟩⟩
def cl9:OpC:=⟨3,3,2,0,true,[⟨3,2,true,true,false,false,false,0,0,[]⟩],⟨true,true,false,false,false,false,[0],[0]⟩⟩
def cl10:OpC:=⟨3,3,2,0,true,[⟨3,2,true,false,false,true,false,0,0,[]⟩,⟨3,2,true,false,false,true,false,0,1,[]⟩],⟨true,false,false,true,false,false,[0,1],[0]⟩⟩
def cl11:OpC:=⟨3,3,2,0,true,[⟨3,2,true,true,false,false,false,0,0,[]⟩,⟨3,2,true,true,false,false,false,0,1,[]⟩],⟨true,true,false,false,false,false,[0,1],[0]⟩⟩
def cl12:OpC:=⟨4,4,1,0,true,[⟨4,1,true,true,true,false,false,0,0,[]⟩],⟨true,true,true,false,false,false,[0],[0]⟩⟩
def cl13:OpC:=⟨5,5,1,0,true,[⟨5,1,true,false,true,true,false,0,0,[]⟩],⟨true,false,true,true,false,false,[0],[0]⟩⟩
def cl14:OpC:=⟨5,5,1,0,true,[⟨5,1,true,true,true,false,false,0,0,[]⟩],⟨true,true,true,false,false,false,[0],[0]⟩⟩
def cl15:OpC:=⟨2,2,1,0,true,[⟨2,1,true,false,false,false,false,0,0,[]⟩],⟨true,false,false,false,false,false,[0],[0]⟩⟩
def cl16:OpC:=⟨9,9,1,0,true,[⟨9,1,false,false,false,true,false,0,0,[]⟩,⟨9,1,false,false,false,true,false,1,0,[]⟩],⟨false,false,false,true,true,false,[0],[0]⟩⟩
def cl17:OpC:=⟨1,1,1,0,true,[⟨1,1,false,false,false,false,false,0,0,[]⟩],⟨false,false,false,false,false,false,[0],[0]⟩⟩
def cl18:OpC:=⟨3,3,1,0,true,[⟨3,1,true,true,false,false,false,0,0,[]⟩,⟨3,1,true,true,false,false,false,0,8,[]⟩,⟨3,1,true,true,false,false,false,0,16,[]⟩],⟨true,true,false,false,false,false,[0,8,16],[0]⟩⟩
def cl19:OpC:=⟨3,3,1,0,true,[⟨3,1,true,true,false,false,false,0,0,[]⟩,⟨3,1,true,true,false,false,false,0,8,[]⟩,⟨3,1,true,true,false,false,false,0,16,[]⟩,⟨3,1,true,true,false,false,false,0,32,[]⟩],⟨true,true,false,false,false,false,[0,8,16,32],[0]⟩⟩
def cl20:OpC:=⟨6,6,3,0,true,[⟨6,3,true,true,true,false,false,0,0,[0,64,80,160,1,65,81,161,225,241]⟩],⟨true,true,true,false,false,false,[0],[0,64,80,160,1,65,81,161,225,241]⟩⟩
def cl21:OpC:=⟨2,2,1,0,true,[⟨2,1,true,false,false,false,false,0,0,[16,32,64]⟩],⟨true,false,false,false,false,false,[0],[16,32,64]⟩⟩
def classes:List OpC:= [cl0,cl1,cl2,cl3,cl4,cl5,cl6,cl7,cl8,cl9,cl10,cl11,cl12,cl13,cl14,cl15,cl16,cl17,cl18,cl19,cl20,cl21]
def clsOf:List Nat:= [0,0,0,0,1,2,3,1,0,0,0,0,4,0,0,4,0,0,0,0,1,5,5,1,6,0,0,0,4,7,7,4,0,0,0,0,8,5,5,8,0,0,0,0,9,7,7,9,0,0,0,0,10,5,5,10,0,0,0,0,11,7,7,11,0,0,0,0,1,5,5,1,0,0,0,0,4,7,7,4,0,0,0,0,1,5,5,1,0,0,0,0,4,7,7,4,0,12,13,14,1,5,5,1,0,12,13,14,4,7,7,4,0,12,13,14,1,5,5,1,0,12,13,14,4,7,7,4,0,12,0,0,15,16,0,15,0,12,0,0,0,0,0,0,0,12,0,0,10,17,0,10,0,0,0,0,11,0,0,11,0,0,0,0,1,5,5,1,0,0,0,0,4,7,7,4,0,0,0,0,1,5,5,1,0,0,0,0,18,7,7,19,0,0,0,20,1,5,5,1,0,0,0,0,4,7,7,4,0,0,0,0,21,5,5,21,0,0,0,20,21,7,7,0,0,0,0,0,0,0,0,0,0,0,0,0,0,0,0,0,0,0,0,0,0,0,0,0,0,0,0,0,0,0,0,0]
def OpC.ok (c:OpC):Prop:=(∀ r∈c.rows,r.imms.length≤1000)∧c.rows.length≤1000∧∀ i:Ins,(if c.e≠0 then c.e else if c.d.may i then 0 else 21)=(if c.rows= []then 20 else if c.rows.any (·.fits i) then 0 else 21)
theorem ok_cl0:cl0.ok:=⟨by simp[cl0],by simp[cl0],fun i=> by simp[cl0]⟩
theorem ok_cl1:cl1.ok:=⟨by simp[cl1],by simp[cl1],fun i=> by
  have:cl1.d.may i=cl1.rows.any (·.fits i):=by
    rw[Bool.eq_iff_iff]
    simp[cl1,OpD.may,RowS.fits,regB]
    omega
  rw[this]
  simp[cl1]⟩
theorem ok_cl2:cl2.ok:=⟨by simp[cl2],by simp[cl2],fun i=> by
  have:cl2.d.may i=cl2.rows.any (·.fits i):=by
    rw[Bool.eq_iff_iff]
    simp[cl2,OpD.may,RowS.fits,regB]
    omega
  rw[this]
  simp[cl2]⟩
theorem ok_cl3:cl3.ok:=⟨by simp[cl3],by simp[cl3],fun i=> by
  have:cl3.d.may i=cl3.rows.any (·.fits i):=by
    rw[Bool.eq_iff_iff]
    simp[cl3,OpD.may,RowS.fits,regB]
    omega
  rw[this]
  simp[cl3]⟩
theorem ok_cl4:cl4.ok:=⟨by simp[cl4],by simp[cl4],fun i=> by
  have:cl4.d.may i=cl4.rows.any (·.fits i):=by
    rw[Bool.eq_iff_iff]
    simp[cl4,OpD.may,RowS.fits,regB]
    omega
  rw[this]
  simp[cl4]⟩
theorem ok_cl5:cl5.ok:=⟨by simp[cl5],by simp[cl5],fun i=> by
  have:cl5.d.may i=cl5.rows.any (·.fits i):=by
    rw[Bool.eq_iff_iff]
    simp[cl5,OpD.may,RowS.fits,regB]
    omega
  rw[this]
  simp[cl5]⟩
theorem ok_cl6:cl6.ok:=⟨by simp[cl6],by simp[cl6],fun i=> by
  have:cl6.d.may i=cl6.rows.any (·.fits i):=by
    rw[Bool.eq_iff_iff]
    simp[cl6,OpD.may,RowS.fits,regB]
    omega
  rw[this]
  simp[cl6]⟩
theorem ok_cl7:cl7.ok:=⟨by simp[cl7],by simp[cl7],fun i=> by
  have:cl7.d.may i=cl7.rows.any (·.fits i):=by
    rw[Bool.eq_iff_iff]
    simp[cl7,OpD.may,RowS.fits,regB]
    omega
  rw[this]
  simp[cl7]⟩
theorem ok_cl8:cl8.ok:=⟨by simp[cl8],by simp[cl8],fun i=> by
  have:cl8.d.may i=cl8.rows.any (·.fits i):=by
    rw[Bool.eq_iff_iff]
    simp[cl8,OpD.may,RowS.fits,regB]
    omega
  rw[this]
  simp[cl8]⟩
theorem ok_cl9:cl9.ok:=⟨by simp[cl9],by simp[cl9],fun i=> by
  have:cl9.d.may i=cl9.rows.any (·.fits i):=by
    rw[Bool.eq_iff_iff]
    simp[cl9,OpD.may,RowS.fits,regB]
    omega
  rw[this]
  simp[cl9]⟩
theorem ok_cl10:cl10.ok:=⟨by simp[cl10],by simp[cl10],fun i=> by
  have:cl10.d.may i=cl10.rows.any (·.fits i):=by
    rw[Bool.eq_iff_iff]
    simp[cl10,OpD.may,RowS.fits,regB]
    omega
  rw[this]
  simp[cl10]⟩
theorem ok_cl11:cl11.ok:=⟨by simp[cl11],by simp[cl11],fun i=> by
  have:cl11.d.may i=cl11.rows.any (·.fits i):=by
    rw[Bool.eq_iff_iff]
    simp[cl11,OpD.may,RowS.fits,regB]
    omega
  rw[this]
  simp[cl11]⟩
theorem ok_cl12:cl12.ok:=⟨by simp[cl12],by simp[cl12],fun i=> by
  have:cl12.d.may i=cl12.rows.any (·.fits i):=by
    rw[Bool.eq_iff_iff]
    simp[cl12,OpD.may,RowS.fits,regB]
    omega
  rw[this]
  simp[cl12]⟩
theorem ok_cl13:cl13.ok:=⟨by simp[cl13],by simp[cl13],fun i=> by
  have:cl13.d.may i=cl13.rows.any (·.fits i):=by
    rw[Bool.eq_iff_iff]
    simp[cl13,OpD.may,RowS.fits,regB]
    omega
  rw[this]
  simp[cl13]⟩
theorem ok_cl14:cl14.ok:=⟨by simp[cl14],by simp[cl14],fun i=> by
  have:cl14.d.may i=cl14.rows.any (·.fits i):=by
    rw[Bool.eq_iff_iff]
    simp[cl14,OpD.may,RowS.fits,regB]
    omega
  rw[this]
  simp[cl14]⟩
theorem ok_cl15:cl15.ok:=⟨by simp[cl15],by simp[cl15],fun i=> by
  have:cl15.d.may i=cl15.rows.any (·.fits i):=by
    rw[Bool.eq_iff_iff]
    simp[cl15,OpD.may,RowS.fits,regB]
    omega
  rw[this]
  simp[cl15]⟩
theorem ok_cl16:cl16.ok:=⟨by simp[cl16],by simp[cl16],fun i=> by
  have:cl16.d.may i=cl16.rows.any (·.fits i):=by
    rw[Bool.eq_iff_iff]
    simp[cl16,OpD.may,RowS.fits,regB]
    omega
  rw[this]
  simp[cl16]⟩
theorem ok_cl17:cl17.ok:=⟨by simp[cl17],by simp[cl17],fun i=> by
  have:cl17.d.may i=cl17.rows.any (·.fits i):=by
    rw[Bool.eq_iff_iff]
    simp[cl17,OpD.may,RowS.fits,regB]
    omega
  rw[this]
  simp[cl17]⟩
theorem ok_cl18:cl18.ok:=⟨by simp[cl18],by simp[cl18],fun i=> by
  have:cl18.d.may i=cl18.rows.any (·.fits i):=by
    rw[Bool.eq_iff_iff]
    simp[cl18,OpD.may,RowS.fits,regB]
    omega
  rw[this]
  simp[cl18]⟩
theorem ok_cl19:cl19.ok:=⟨by simp[cl19],by simp[cl19],fun i=> by
  have:cl19.d.may i=cl19.rows.any (·.fits i):=by
    rw[Bool.eq_iff_iff]
    simp[cl19,OpD.may,RowS.fits,regB]
    omega
  rw[this]
  simp[cl19]⟩
theorem ok_cl20:cl20.ok:=⟨by simp[cl20],by simp[cl20],fun i=> by
  have:cl20.d.may i=cl20.rows.any (·.fits i):=by
    rw[Bool.eq_iff_iff]
    simp[cl20,OpD.may,RowS.fits,regB]
    omega
  rw[this]
  simp[cl20]⟩
theorem ok_cl21:cl21.ok:=⟨by simp[cl21],by simp[cl21],fun i=> by
  have:cl21.d.may i=cl21.rows.any (·.fits i):=by
    rw[Bool.eq_iff_iff]
    simp[cl21,OpD.may,RowS.fits,regB]
    omega
  rw[this]
  simp[cl21]⟩
theorem ok_classes:∀ c∈classes,c.ok:=by
  intro c hc
  simp only[classes,List.mem_cons,List.not_mem_nil,or_false]at hc
  rcases hc with rfl | rfl | rfl | rfl | rfl | rfl | rfl | rfl | rfl | rfl | rfl | rfl | rfl | rfl | rfl | rfl | rfl | rfl | rfl | rfl | rfl | rfl
  · exact ok_cl0
  · exact ok_cl1
  · exact ok_cl2
  · exact ok_cl3
  · exact ok_cl4
  · exact ok_cl5
  · exact ok_cl6
  · exact ok_cl7
  · exact ok_cl8
  · exact ok_cl9
  · exact ok_cl10
  · exact ok_cl11
  · exact ok_cl12
  · exact ok_cl13
  · exact ok_cl14
  · exact ok_cl15
  · exact ok_cl16
  · exact ok_cl17
  · exact ok_cl18
  · exact ok_cl19
  · exact ok_cl20
  · exact ok_cl21
def chkA (pr:Prog)(op:Nat):Bool:=match (clsOf[op]?).bind (classes[·]?) with
  | some c=> runD pr 40 18 [.i .i64 op] (.i .i64 c.form) && runV pr 40 11 [.i .i64 op] (.tup [.agg c.use,.d (.i .i64 c.e)]) &&
    decide (offsOf c.form ((op &&& 240:Nat):Int) ((op &&& 8:Nat):Int) ((op &&& 7:Nat):Int)=c.d.offs) && decide (immsOf op c.form ((op &&& 240:Nat):Int)=c.d.imms) && (decide ((op:Int)=133∨(op:Int)=24)==c.d.named) && (decide ((op:Int)=24)==c.d.wide)
  | none=> false
def chkR (pr:Prog)(op:Nat):Bool:=match (clsOf[op]?).bind (classes[·]?) with
  | some c=> runV pr 40 17 [.i .i64 op] (dsl RowS.cells c.nz c.rows)
  | none=> false
end Go.Sh
