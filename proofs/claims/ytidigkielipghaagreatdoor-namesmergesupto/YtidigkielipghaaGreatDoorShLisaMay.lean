/- Part of the proof. -/
import Derived.Test.YtidigkielipghaaGreatDoorShLisaCls
set_option linter.unusedVariables false
set_option linter.unusedSimpArgs false
namespace Go.Sh
def outFns:List (Nat×SFn):= [(18,F18),(11,F11)]
def rowFns:List (Nat×SFn):= [(17,F17)]
def clsAt (op:Nat):Option OpC:=(clsOf[op]?).bind (classes[·]?)
def mayV (i:Ins):Int:=if 0≤i.op∧i.op≤255 then match clsAt i.op.toNat with
    | some c=> if c.e≠0 then c.e else if c.d.may i then 0 else 21
    | none=> 20
  else 20
structure IsaOk (pr:Prog):Prop where
  p:Sub isaFns pr
  q:Sub outFns pr
  g:pr.glob 4=some (atomsL.map fun n=> .i .i64 n)
  c:∀ op,op < 256→chkA pr op=true
structure RefOk (pr:Prog):Prop where
  p:Sub refFns pr
  q:Sub rowFns pr
  c:∀ op,op < 256→chkR pr op=true
section
variable {pr:Prog}(hI:IsaOk pr){st:St}
include hI
theorem form_out (x:Int)(h:x < 0∨255 < x):den pr 18 [.d (.i .i64 x)] st=some (.d (.i .i64 0),st):=by
  refine den_shut (hI.q.at 0 rfl) rfl rfl (by simp;rfl) ?_
  by_cases hx:x < 0
  · simp[F18,hx]
  · have hy:255 < x:=by omega
    simp[F18,hx,hy]
theorem info_out (x:Int)(h:x < 0∨255 < x):den pr 11 [.d (.i .i64 x)] st=some (.tup [.agg [.d (.i .i64 0),.d (.i .i64 0),.d (.b false),.d (.b false),.d (.b false),.d (.b false)],.d (.i .i64 20)],st):=by
  refine den_shut (hI.q.at 1 rfl) rfl rfl (by simp;rfl) ?_
  simp[F11,form_out hI x h,fillV,lay,ofDs]
theorem cls_facts (op:Nat)(h:op < 256):∃ c∈classes,clsAt op=some c∧(∀ st,den pr 18 [.d (.i .i64 op)] st=some (.d (.i .i64 c.form),st))∧(∀ st,den pr 11 [.d (.i .i64 op)] st=some (.tup [.agg c.use,.d (.i .i64 c.e)],st))∧
    offsOf c.form ((op &&& 240:Nat):Int) ((op &&& 8:Nat):Int) ((op &&& 7:Nat):Int)=c.d.offs∧immsOf op c.form ((op &&& 240:Nat):Int)=c.d.imms∧
    decide ((op:Int)=133∨(op:Int)=24)=c.d.named∧decide ((op:Int)=24)=c.d.wide:=by
  have hc:=hI.c op h
  unfold chkA at hc
  split at hc
  · rename_i c hcl
    simp only[Bool.and_eq_true,decide_eq_true_eq,beq_iff_eq]at hc
    obtain⟨⟨⟨⟨⟨h1,h2⟩,h4⟩,h5⟩,h6⟩,h7⟩:=hc
    refine⟨c,?_,hcl,fun st=> den_of_run (xs:= [.i .i64 op]) h1 st,fun st=> den_of_runV (xs:= [.i .i64 op]) h2 st,h4,h5,h6,h7⟩
    obtain⟨k,hk,hck⟩:=Option.bind_eq_some_iff.1 hcl
    exact List.mem_of_getElem? hck
  · cases hc
theorem den_may (i:Ins):den pr 27 [.agg (ofDs i.cells)] st=some (.d (.i .i64 (mayV i)),st):=by
  by_cases h:0≤i.op∧i.op≤255
  · obtain⟨op,hop⟩:∃ op:Nat,i.op=op:=⟨i.op.toNat,by omega⟩
    obtain⟨c,hc,h0,h1,h2,h4,h5,h6,h7⟩:=cls_facts hI op (by omega)
    have e240:=and_nat .i64 op 240 (by simp[IntKind.bits];omega) (by simp[IntKind.bits])
    have e8:=and_nat .i64 op 8 (by simp[IntKind.bits];omega) (by simp[IntKind.bits])
    have e7:=and_nat .i64 op 7 (by simp[IntKind.bits];omega) (by simp[IntKind.bits])
    have l240:op &&& 240≤240:=Nat.and_le_right
    have l8:op &&& 8≤8:=Nat.and_le_right
    have l7:op &&& 7≤7:=Nat.and_le_right
    rw[wrap_i64 (by omega) (by omega)]at e240 e8 e7
    have hm:=den_isaMay hI.p (st:=st) h1 e240 e8 e7 hI.g h2 i hop
    have hv:mayV i=(if c.e≠0 then c.e else if c.d.may i then 0 else 21):=by
      unfold mayV
      rw[if_pos h,hop,Int.toNat_natCast,h0]
    rw[h4,h5,h6,h7]at hm
    rw[hm,hv]
  · have hout:i.op < 0∨255 < i.op:=by omega
    have hv:mayV i=20:=by
      unfold mayV
      rw[if_neg h]
    have hm:=den_isaMay hI.p (st:=st) (form:=0) (fun st=> form_out hI i.op hout) (bit_and .i64 i.op 240) (bit_and .i64 i.op 8) (bit_and .i64 i.op 7) hI.g (fun st=> info_out hI i.op hout) i rfl
    rw[hm,hv]
    simp
end
section
variable {pr:Prog}(hR:RefOk pr){st:St}
include hR
theorem rows_out (x:Int)(h:x < 0∨255 < x):den pr 17 [.d (.i .i64 x)] st=some (dsl RowS.cells false [],st):=by
  refine den_shut (hR.q.at 0 rfl) rfl rfl (by simp;rfl) ?_
  by_cases hx:x < 0
  · simp[F17,hx,dsl]
  · have hy:255 < x:=by omega
    simp[F17,hx,hy,dsl]
theorem row_facts (op:Nat)(h:op < 256):∃ c∈classes,clsAt op=some c∧∀ st,den pr 17 [.d (.i .i64 op)] st=some (dsl RowS.cells c.nz c.rows,st):=by
  have hc:=hR.c op h
  unfold chkR at hc
  split at hc
  · rename_i c hcl
    refine⟨c,?_,hcl,fun st=> den_of_runV (xs:= [.i .i64 op]) hc st⟩
    obtain⟨k,hk,hck⟩:=Option.bind_eq_some_iff.1 hcl
    exact List.mem_of_getElem? hck
  · cases hc
theorem den_rmay (i:Ins):den pr 65 [.agg (ofDs i.cells)] st=some (.d (.i .i64 (mayV i)),st):=by
  by_cases h:0≤i.op∧i.op≤255
  · obtain⟨op,hop⟩:∃ op:Nat,i.op=op:=⟨i.op.toNat,by omega⟩
    obtain⟨c,hc,h0,h3⟩:=row_facts hR op (by omega)
    have hr:=den_refMay hR.p (st:=st) i (by rw[hop];exact h3) (ok_classes c hc).2.1 (ok_classes c hc).1
    have hv:mayV i=(if c.e≠0 then c.e else if c.d.may i then 0 else 21):=by
      unfold mayV
      rw[if_pos h,hop,Int.toNat_natCast,h0]
    rw[← (ok_classes c hc).2.2 i,← hv]at hr
    exact hr
  · have hout:i.op < 0∨255 < i.op:=by omega
    have hv:mayV i=20:=by
      unfold mayV
      rw[if_neg h]
    have hr:=den_refMay hR.p (st:=st) i (fun st=> rows_out hR i.op hout) (by simp) (by simp)
    rw[hr,hv]
    simp
end
end Go.Sh
