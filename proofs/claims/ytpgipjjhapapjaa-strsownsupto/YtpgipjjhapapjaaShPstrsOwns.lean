/- 'StrsOwns' answers true for all arguments that may come in and whose bulk is at most 1048576, and they read behind the call as they read before. -/
import Derived.Test.YtpgipjjhapapjaaRows
import Derived.ProofKit
import Derived.Deep.CondSized
import Derived.Test.YtpgipjjhapapjaaShGstrso
import Derived.Test.YtpgipjjhapapjaaShUstrso
set_option linter.unusedVariables false
namespace Go.Proofs.Ytpgipjjhapapjaa.strso
open Go.Sh Go.ChangeAt
theorem own:ownKnob Try.prog.godebug=none:=by kernel_rfl
theorem laidOut:laidOutB Try.prog=true:=by kernel_rfl
theorem globs (W:World):Globs pr link W:=⟨fun name cells h=> (by cases h),fun _ _=> trivial⟩
theorem says_strsOwns:SaysTrue Rows.strsOwnsSpec 2:=⟨rfl,fun H ds h=> by
  match ds,h with
  | [d0,d1],_=> exact⟨rfl,rfl,rfl⟩⟩
set_option maxRecDepth 100000 in
theorem lifted_strsOwns (os:Os)(started:os.Started)(H:Type)(enc:TypeId×Value→H)(F:Stop.Interp):
    ReturnsInHanded {} Try.checked os 6 .any ((Rows.OpenSpec.upto Rows.strsOwnsSpec).pre6 enc Try.prog Try.f6 Rows.strsOwnsUptoRow.domain false) (((Rows.OpenSpec.upto Rows.strsOwnsSpec).at F).post enc Try.prog Try.f6 false true false false):=by
  refine returnsInHanded_of_cond_sized (C:=Try.checked) (s:=Rows.OpenSpec.upto Rows.strsOwnsSpec) (k:=Rows.uptoSmall) rfl own started (by kernel_rfl) Try.func6
    (OpenSpec.witness (enc:=enc) (C:=Try.checked) (s:=Rows.OpenSpec.upto Rows.strsOwnsSpec) (k:=Rows.uptoSmall) rfl false ⟨#[],#[.slice none 0 0,.slice none 0 0],[]⟩ 8 (by kernel_rfl) (by kernel_rfl) (by kernel_rfl)
      (x:=([.nil,.nil],[],[])) (by kernel_rfl) rfl (by kernel_rfl)) ?_
  intro W base args ds gs before hval hW _ hk hw _
  have hgs:gs= []:=by
    obtain⟨_,_,_,hV,_⟩:=hW
    exact(Go.ChangeShapes.trodVars_none hV).1
  subst hgs
  have hw':(DataW.weightsEach Try.prog Try.f6.params.toList ds).all (· ≤reachBytes)=true:=by
    have e:(Rows.OpenSpec.upto Rows.strsOwnsSpec).bare.plain.varTypes Try.checked.prog= []:=rfl
    rw[e,List.append_nil,List.append_nil]at hw
    exact hw
  refine contractW (Pr:=pr) (L:=link) (F:=391) (tys:= [.sl 1 (.int .u8),.sl 40 actTy]) (tb:=4) laidOut tie (globs W) (by kernel_rfl) (by kernel_rfl) (by kernel_rfl) Try.underlying4 says_strsOwns hval hW hw' ?_
  intro dss ha hbulk
  have hbd:bulkL dss.flatten≤1048576:=Nat.le_trans hbulk (small hk)
  obtain⟨a1,a2,rfl,h1,h2⟩:=all2_two ha
  simp only[Has]at h1 h2
  obtain⟨els1,nz1,rfl,_,_,hel1⟩:=h1
  obtain⟨els2,nz2,rfl,_,_,hel2⟩:=h2
  obtain⟨l1,rfl⟩:=bytes_of hel1
  obtain⟨acs,rfl,has⟩:=acts_of hel2
  have hs1:l1.length≤1048576:=bulk_bytes hbd
  have hs2:acs.length≤1048576:=bulk_els (c:=actC) (sz:=4) (fun _=> rfl) (by omega) (bulk_tail hbd)
  have e:argVs [.sl 1 (.int .u8),.sl 40 actTy] [[.sl (l1.map byC).length nz1 (l1.map byC).flatten],[.sl (acs.map actC).length nz2 (acs.map actC).flatten]]= [bsl nz1 l1,dsl actC nz2 acs]:=by rw[List.length_map,List.length_map,byC_flat];rfl
  rw[e]
  exact law_StrsOwns hp hq hl hr hAll hp8 hb ho hs (nz1:=nz1) (nz:=nz2) (L1:=l1) (by omega) hs2 has
theorem proved:Rows.StrsOwnsUptoSaid:=
  OpenClaim.holds_of_cond 6 Try.f6 rfl rfl rfl rfl rfl rfl rfl ⟨rfl,rfl,rfl,rfl,rfl⟩ rfl rfl rfl rfl rfl (by kernel_rfl) Try.func6 (by kernel_rfl)
    (of_decide_eq_true (by kernel_rfl)) (by unfold Func.isWrapper;first | (rw[if_pos (by decide+kernel)];kernel_rfl) | (rw[if_neg (by decide+kernel)];exact⟨rfl,rfl⟩))
    (fun os started H enc _ F=> lifted_strsOwns os started H enc F)
#print axioms proved
end Go.Proofs.Ytpgipjjhapapjaa.strso
