/- Part of the proof. -/
import Derived.Test.YtidigkielipghaaGreatDoorShBe
import Derived.Test.YtidigkielipghaaGreatDoorShLisa
import Derived.Test.YtidigkielipghaaGreatDoorShLisaMay
import Derived.Test.YtidigkielipghaaGreatDoorShFcode
set_option linter.unusedVariables false
namespace Go.Sh
theorem insC (x:Ins):x.cells.length=5:=rfl
theorem ins_take (x:Ins):x.cells.take 5=x.cells:=List.take_of_length_le (by simp[insC])
def okI (x:Int):Prop:= -9223372036854775808≤x∧x≤9223372036854775807
structure Ins.wf (x:Ins):Prop where
  op:okI x.op
  dst:okI x.dst
  src:okI x.src
  off:okI x.off
  imm:okI x.imm
def insTy:Ty:= .agg [.int .i64,.int .i64,.int .i64,.int .i64,.int .i64]
theorem ins_of {el:List D}(h:Has insTy el):∃ x:Ins,el=x.cells∧x.wf:=by
  simp only[insTy,Has,Hass]at h
  obtain⟨_,_,rfl,⟨a,rfl,a1,a2⟩,_,_,rfl,⟨b,rfl,b1,b2⟩,_,_,rfl,⟨c,rfl,c1,c2⟩,_,_,rfl,⟨d,rfl,d1,d2⟩,_,_,rfl,⟨e,rfl,e1,e2⟩,rfl⟩:=h
  exact⟨⟨a,b,c,d,e⟩,rfl,⟨a1,a2⟩,⟨b1,b2⟩,⟨c1,c2⟩,⟨d1,d2⟩,⟨e1,e2⟩⟩
theorem inss_of:∀ {els:List (List D)},(∀ x∈els,Has insTy x)→∃ is:List Ins,els=is.map Ins.cells∧∀ x∈is,x.wf
  | [],_=> ⟨[],rfl,fun _ h=> by cases h⟩
  | x::els,h=> by
    obtain⟨y,rfl,hy⟩:=ins_of (h x List.mem_cons_self)
    obtain⟨is,rfl,his⟩:=inss_of fun z hz=> h z (List.mem_cons_of_mem _ hz)
    refine⟨y::is,rfl,?_⟩
    intro z hz
    cases hz with
    | head=> exact hy
    | tail _ hz=> exact his z hz
end Go.Sh
set_option linter.unusedSimpArgs false
namespace Go.Sh
def u8 (x:Int):List V:= [.d (.i .u8 (IntKind.wrap .u8 x))]
def slotsOf:List Ins→Nat
  | []=> 0
  | x::r=> (if x.op=24 then 2 else 1)+slotsOf r
theorem slotsOf_app (a b:List Ins):slotsOf (a++b)=slotsOf a+slotsOf b:=by
  induction a with
  | nil=> simp[slotsOf]
  | cons x a ih=> simp only[List.cons_append,slotsOf,ih];omega
theorem slotsOf_le (a:List Ins):slotsOf a≤2 * a.length:=by
  induction a with
  | nil=> simp[slotsOf]
  | cons x a ih=>
    simp only[slotsOf,List.length_cons]
    split <;> omega
theorem take_succ' {α:Type}{l:List α}{i:Nat}{x:α}(h:l[i]? =some x):l.take (i+1)=l.take i++ [x]:=by
  rw[List.take_add_one,h]
  rfl
end Go.Sh
