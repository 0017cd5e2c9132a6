/- 'NamesMerges' answers true for all lists of lists of objects that may come in and hold together at most 1048576 values; the card: where the five tables of the package isa are what the program's text lays. -/
import Derived.Test.YtidigkielipghaaGreatDoorShHmerges
set_option linter.unusedVariables false
namespace Go.Proofs.YtidigkielipghaaGreatDoor.merges
open Go.Sh Go.ChangeAt
theorem says_namesMerges:SaysTrue Rows.namesMergesSpec 1:=⟨rfl,fun H ds h=> by
  match ds,h with
  | [d0],_=> exact⟨rfl,rfl,rfl⟩⟩
theorem laid_met_namesMerges (os:Os):laidMet Tryz.prog Rows.namesMergesUptoRow.laid ((laidWorld os).forCall (fun _ _=> 0) ⟨#[],#[.slice none 0 0],[]⟩).memory:=
  laidMet_of_run' 8 (by kernel_rfl) (by kernel_rfl)
theorem reads_namesMerges (os:Os){H:Type}(enc:TypeId×Value→H):∃ places,DataW.whole enc Tryz.prog ((laidWorld os).forCall (fun _ _=> 0) ⟨#[],#[.slice none 0 0],[]⟩).memory Tryz.f3.params.toList Rows.namesMergesSpec.vars false #[.slice none 0 0].toList 8=some ([.nil],[],places):=
  ⟨[],by kernel_rfl⟩
set_option maxRecDepth 100000 in
theorem lifted_namesMerges (os:Os)(started:os.Started)(H:Type)(enc:TypeId×Value→H)(F:Stop.Interp):
    ReturnsInHanded {} Tryz.checked os 3 .any ((Rows.OpenSpec.upto Rows.namesMergesSpec).preRow enc Tryz.prog Tryz.f3 Rows.namesMergesUptoRow.domain false Rows.namesMergesUptoRow.laid) (((Rows.OpenSpec.upto Rows.namesMergesSpec).at F).post enc Tryz.prog Tryz.f3 false true false false):=by
  obtain⟨places,hx⟩:=reads_namesMerges os enc
  refine returnsInHanded_of_row (C:=Tryz.checked) (s:=(Rows.OpenSpec.upto Rows.namesMergesSpec)) own started (by kernel_rfl) Tryz.func3
    (witness_row_at (enc:=enc) (C:=Tryz.checked) false (laidWorld os) #[.slice none 0 0] rfl (by kernel_rfl) (by kernel_rfl) (by kernel_rfl)
      (OpenSpec.preRow_of_cond 8 hx (by kernel_rfl) (fun k hk=> by cases hk;kernel_rfl) (by kernel_rfl) (laid_met_namesMerges os))) ?_
  intro W base args ds gs before hval hW _ hcond hw hL _ _
  have hgs:gs= []:=by
    obtain⟨_,_,_,hV,_⟩:=hW
    exact(Go.ChangeShapes.trodVars_none hV).1
  subst hgs
  have hw':(DataW.weightsEach Tryz.prog Tryz.f3.params.toList ds).all (· ≤reachBytes)=true:=by
    have e:(Rows.OpenSpec.upto Rows.namesMergesSpec).bare.plain.varTypes Tryz.checked.prog= []:=rfl
    rw[e,List.append_nil,List.append_nil]at hw
    exact hw
  refine contractW (Pr:=pr) (L:=link) (F:=365) (fn:=Tryz.f3) (s:=Rows.namesMergesSpec) (tys:= [.sl 24 (.sl 120 obTy)]) (tb:=4) laidOut tie (globs hL) (by kernel_rfl) (by kernel_rfl) (by kernel_rfl) Tryz.underlying4 says_namesMerges hval hW hw' ?_
  intro dss ha hbulk
  have hbd:bulkL dss.flatten≤1048576:=Nat.le_trans hbulk (small (hcond _ rfl))
  obtain⟨ds',rfl,hh⟩:=all2_one ha
  simp only[Has]at hh
  obtain⟨els,nz,rfl,hb,_,hel⟩:=hh
  obtain⟨ls,rfl,ho⟩:=osl_of hel
  have e:argVs [.sl 24 (.sl 120 obTy)] [[.sl (ls.map OsL.cells).length nz (ls.map OsL.cells).flatten]]= [dsl OsL.cells nz ls]:=by rw[List.length_map];rfl
  have hsmall:ls.length≤1048576:=bulk_els (c:=OsL.cells) (sz:=1) OsL.c1 (by omega) hbd
  rw[e]
  exact(law_NamesMerges hp hq hns h15 hsm hn hob hsl h12 h4 h3 hI hR hf hg hA nz (by omega) (fun x hx=> (ho x hx).1) (fun x hx o h=> ((ho x hx).2 o h).1) (fun x hx o h=> ((ho x hx).2 o h).2) (st:=st0)).mono fun v s h=> h.2
theorem said_namesMerges:Rows.NamesMergesUptoSaid:=
  OpenClaim.holds_of_cond 3 Tryz.f3 rfl rfl rfl rfl rfl rfl rfl ⟨rfl,rfl,rfl,rfl,rfl⟩ rfl rfl rfl rfl rfl (by kernel_rfl) Tryz.func3 (by kernel_rfl)
    (of_decide_eq_true (by kernel_rfl)) (by unfold Func.isWrapper;first | (rw[if_pos (by decide+kernel)];kernel_rfl) | (rw[if_neg (by decide+kernel)];exact⟨rfl,rfl⟩))
    (fun os started H enc _ F=> by rw[OpenClaim.pre_eq_preRow];exact lifted_namesMerges os started H enc F)
theorem plain_namesMerges (f:FuncId)(fn:Func)(hf:Tryz.pinned.checked.prog.funcNamed "spindle/spindlelaw15.NamesMerges" =some f)(hfn:Tryz.pinned.checked.prog.funcs[f]? =some fn):
    false=Tryz.pinned.checked.prog.looks []∧∀ (j:Nat) t,fn.params[j]? =some t→Tryz.pinned.checked.prog.wantsStandIn t=false:=by
  obtain rfl:f=3:=Option.some.inj ((show Tryz.prog.funcNamed "spindle/spindlelaw15.NamesMerges" =some 3 by kernel_rfl).symm.trans hf) |>.symm
  obtain rfl:fn=Tryz.f3:=(Option.some.inj (Tryz.func3.symm.trans hfn)).symm
  refine⟨by kernel_rfl,fun j t ht=> ?_⟩
  rw[Tryz.params3]at ht
  have hm:=Array.mem_of_getElem? ht
  simp only[List.mem_toArray,List.mem_cons,List.not_mem_nil,or_false]at hm
  rcases hm with rfl
  · exact(show Tryz.prog.wantsStandIn 22=false by kernel_rfl)
theorem card_namesMerges:Rows.NamesMergesUptoCardSaid:=
  Claim7.holds_tied_plain_at .later [] _ _ _ _ said_namesMerges (fun _ h=> by cases h) (by kernel_rfl) (fun _ h=> by cases h) namesMergesUpto_row_tie rfl ⟨rfl,rfl⟩ (by kernel_rfl) rfl plain_namesMerges (by kernel_rfl)
#print axioms card_namesMerges
end Go.Proofs.YtidigkielipghaaGreatDoor.merges
