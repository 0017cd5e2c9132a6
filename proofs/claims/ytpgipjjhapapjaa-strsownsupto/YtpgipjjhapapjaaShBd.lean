/- Part of the proof. -/
import Derived.LoopN
import Derived.Test.YtpgipjjhapapjaaShBc
import Derived.DataReads
import Derived.SizedLaws
import Derived.Carry
import Derived.OpenShut
import Derived.ChangeOld
set_option linter.unusedVariables false
set_option linter.unusedSimpArgs false
namespace Go.Sh
open Go.RowKit
def okCode (P:Program)(Pr:Prog)(L:Link)(n:Nat):SCode→Code→Bool
  | .skip,c=> match c with
    | .skip=> true
    | .label _=> true
    | _=> false
  | .region ss d B,c=> match c with
    | .region _ ops d'=> d==d' && okOpers P L n ops.toList ss && (!d || okDraw2 P Pr ops ss B)
    | _=> false
  | .seq x y,c=> match c with
    | .seq a b=> okCode P Pr L n x a && okCode P Pr L n y b
    | _=> false
  | .cond o x y,c=> match c with
    | .cond o' a b=> okO L o' o && okCode P Pr L n x a && okCode P Pr L n y b
    | _=> false
  | .block i x,c=> match c with
    | .block j a=> j==i && okCode P Pr L n x a
    | _=> false
  | .loop _ _ x,c=> match c with
    | .loop a=> okCode P Pr L n x a
    | _=> false
  | .exit i,c=> match c with
    | .exit j=> j==i
    | _=> false
  | .ret,c=> match c with
    | .ret=> true
    | _=> false
  | .keep _ x,c=> okCode P Pr L n x c
def okRes (P:Program):List ResultVar→List SRes→Bool
  | [],[]=> true
  | .tmp t::r,.tmp t'::r'=> t==t' && okRes P r r'
  | .cell a ty::r,.cell t size agg::r'=> a==t && szIs P ty size && aggIs P ty agg && okRes P r r'
  | _,_=> false
def okFn (P:Program)(Pr:Prog)(L:Link)(fn:Func)(sf:SFn):Bool:=match fn.body with
  | some c=> okCode P Pr L fn.ntmps sf.body c && okRes P fn.results.toList sf.results && decide (sf.nparams≤fn.ntmps)
  | none=> false
def Ex.to:Ex→Exit
  | .normal=> .normal
  | .exit i=> .exit i
  | .ret=> .ret
theorem del_get {e:Env}{i j:Nat}:(Env.del i e).get j=if j=i then none else e.get j:=by
  induction e with
  | nil=> simp[Env.del,Env.get]
  | cons p r ih=>
    obtain⟨a,v⟩:=p
    unfold Env.del at ih ⊢
    rw[List.filter_cons]
    by_cases ha:a=i
    · subst ha
      simp only[bne_self_eq_false,Bool.false_eq_true,if_false,ih,Env.get]
      split
      · rfl
      · rw[if_neg (by omega)]
    · have:(a !=i)=true:=by simpa using ha
      simp only[this,if_true,Env.get,ih]
      split
      · subst_vars
        rw[if_neg ha]
      · rfl
theorem escEnv_get {st:St}{h t:Nat}:∀ {e:Env} {i:Nat} {v:V},(escEnv st h t e).get i=some v→∃ u,e.get i=some u∧esc1 st h t u=some v
  | [],i,v,hv=> by simp[escEnv,Env.get]at hv
  | (j,u)::r,i,v,hv=> by
    simp only[escEnv]at hv
    simp only[Env.get]
    split at hv
    · rename_i x hx
      simp only[Env.get]at hv
      split at hv
      · rename_i hj
        rw[if_pos hj]
        simp only[Option.some.injEq]at hv
        exact⟨u,rfl,by rw[hx,hv]⟩
      · rename_i hj
        rw[if_neg hj]
        exact escEnv_get hv
    · rw[del_get]at hv
      split at hv
      · cases hv
      · rename_i hne
        rw[if_neg (fun e=> hne e.symm)]
        exact escEnv_get hv
theorem esc1_tup {st:St}{h t:Nat}{u v:V}(hv:esc1 st h t u=some v):∀ vs,u≠ .tup vs:=by
  rintro vs rfl
  simp[esc1,escC]at hv
section
variable {P:Program}{Pr:Prog}{L:Link}{call:CallF}{n:Nat}
def Post (Pr:Prog)(n:Nat)(κ:K)(a:Act)(r:Out)(Q:Exit→Act→World→Prop):Prop:=
  ∀ κ' a',κ.le κ'→Inv Pr κ' r.2.2→ERel κ' r.2.1 a'→a'.tmps.size=n→a'.defers=a.defers→Q r.1.to a' κ'.w
theorem cut_heap {a s:St}(h:Fl {a with floor:=a.heap.length} s):s.heap.take a.heap.length=a.heap:=by
  refine List.ext_getElem? fun i=> ?_
  rw[List.getElem?_take]
  split
  · rename_i hlt
    exact h.heap i hlt hlt
  · rename_i hge
    rw[List.getElem?_eq_none (by omega)]
theorem round_sound {κ:K}{st:St}{e:Env}{live:List Nat}{tr:Bool}{step:Env→St→Option Out}(hs:StepFl step)(hi:Inv Pr κ st){a:Act}(hE:ERel κ e a)(hn:a.tmps.size=n){r:Out}
    (h:round live tr step e st=some r) {c:Code} {Q:Exit→Act→World→Prop} (hQ:Post Pr n κ a r Q)
    (hstep:∀ (e:Env) (st:St) (r:Out) (Q:Exit→Act→World→Prop),Inv Pr κ st→ERel κ e a→step e st=some r→Post Pr n κ a r Q→c.wp P Q a κ.w):c.wp P Q a κ.w:=by
  unfold round at h
  simp only[Option.map_eq_some_iff]at h
  obtain⟨⟨x,e1,s1⟩,h1,h2⟩:=h
  have hEm:ERel κ (mask live e) a:=fun i v hv=> hE i v (mask_get hv).2
  cases tr with
  | false=>
    simp only[cutR,Bool.false_eq_true,if_false]at h2
    subst h2
    exact hstep _ _ _ Q hi hEm h1 hQ
  | true=>
    simp only[cutR,if_true]at h2
    subst h2
    simp only[enterR,if_true]at h1
    refine hstep _ _ _ Q (hi.floor (f:=st.heap.length) (tf:=st.tfloor)) hEm h1 ?_
    intro κ' a' k1 k2 k3 k4 k5
    have hfl:=hs _ _ _ _ _ h1
    obtain⟨m1,m2⟩:=Inv.cut hi k1 k2 (cut_heap hfl) (f:=st.floor) (tf:=st.tfloor)
    refine hQ (κ'.cut st.heap.length st.tips.length) a' m1 m2 ?_ k4 k5
    intro i v hv
    obtain⟨u,hu,hv⟩:=escEnv_get hv
    obtain⟨q1,q2⟩:=k3 i u hu
    exact⟨q1,Rep.of1 (esc1_rep k2 hv (Rep.to1 q2 (esc1_tup hv)))⟩
theorem iter_sound {live:List Nat}{tr:Bool}{step:Env→St→Option Out}(hs:StepFl step){c:Code}
    (hstep:∀ (κ:K) (a:Act) (e:Env) (st:St) (r:Out) (Q:Exit→Act→World→Prop),κ.L=L→a.tmps.size=n→Inv Pr κ st→ERel κ e a→step e st=some r→Post Pr n κ a r Q→c.wp P Q a κ.w):
    ∀ (k:Nat) {κ:K} {st:St} {e:Env} {a:Act} {r:Out} {Q:Exit→Act→World→Prop},κ.L=L→Inv Pr κ st→ERel κ e a→a.tmps.size=n→iter (round live tr step) k e st=some r→r.1≠ .normal→Post Pr n κ a r Q→Code.rounds P c Q k a κ.w
  | 0,κ,st,e,a,r,Q,_,_,_,_,h,_,_=> by simp[iter]at h
  | k+1,κ,st,e,a,r,Q,hL,hi,hE,hn,h,hne,hQ=> by
    rw[rounds_succ]
    unfold iter at h
    split at h
    · rename_i e1 s1 h1
      refine round_sound hs hi hE hn h1 ?_ (fun e st r Q hi hE hr hp=> hstep κ a e st r Q hL hn hi hE hr hp)
      intro κ' a' k1 k2 k3 k4 k5
      exact iter_sound hs hstep k (k1.L.trans hL) k2 k3 k4 h hne fun κ2 a2 m1 m2 m3 m4 m5=> hQ κ2 a2 (k1.trans m1) m2 m3 m4 (m5.trans k5)
    · refine round_sound hs hi hE hn h ?_ (fun e st r Q hi hE hr hp=> hstep κ a e st r Q hL hn hi hE hr hp)
      intro κ' a' k1 k2 k3 k4 k5
      have:=hQ κ' a' k1 k2 k3 k4 k5
      obtain⟨x,_,_⟩:=r
      cases x with
      | normal=> exact(hne rfl).elim
      | exit i=> exact this
      | ret=> exact this
theorem iter_normal {step:Env→St→Option Out}:∀ {k:Nat} {e:Env} {st:St} {r:Out},iter step k e st=some r→r.1≠ .normal
  | 0,e,st,r,h=> by simp[iter]at h
  | k+1,e,st,r,h=> by
    unfold iter at h
    split at h
    · exact iter_normal h
    · rename_i hno
      obtain⟨x,e',s'⟩:=r
      rintro rfl
      exact hno _ _ h
theorem code_sound (hcall:CallOk P Pr L call)(hpure:CallPure Pr call)(hfl:CallFl call)(hm:P.follows .mixedOrders=true){k:Nat}:
    ∀ (s:SCode) {c:Code} {κ:K} {e:Env} {st:St} {r:Out} {a:Act} {Q:Exit→Act→World→Prop},κ.L=L→okCode P Pr L n s c=true→Inv Pr κ st→ERel κ e a→a.tmps.size=n→codeS Pr call k s e st=some r→Post Pr n κ a r Q→c.wp P Q a κ.w
  | .skip,c,κ,e,st,r,a,Q,hL,hok,hi,hE,hn,h,hQ=> by
    simp only[codeS,Option.some.injEq]at h
    subst h
    have:=hQ κ a (K.le.refl _) hi hE hn rfl
    simp only[okCode]at hok
    split at hok
    · exact wp_skip this
    · exact wp_label this
    · cases hok
  | .region ss d B,c,κ,e,st,r,a,Q,hL,hok,hi,hE,hn,h,hQ=> by
    simp only[okCode]at hok
    split at hok
    case h_2=> cases hok
    rename_i id ops d'
    simp only[Bool.and_eq_true,beq_iff_eq,Bool.or_eq_true,Bool.not_eq_true']at hok
    obtain⟨⟨rfl,h1⟩,h2⟩:=hok
    simp only[codeS]at h
    split at h
    case h_2=> cases h
    rename_i e1 s1 hrun
    simp only[Option.some.injEq]at h
    subst h
    cases d with
    | false=> exact wp_region_list (list_sound hcall h1 hL h1 hi hE hn hrun fun κ' a' k1 k2 k3 k4 k5=> hQ κ' a' k1 k2 k3 k4 k5)
    | true=>
      refine wp_region_any hm ?_
      have h2:=h2.resolve_left (by simp)
      obtain⟨g1,g2⟩:=hi.grow (w':={κ.w with drawn:=κ.w.drawn+1}) (grownBy_heap rfl rfl rfl rfl)
      exact draw2_sound hcall hpure h1 h2 hrun (κ0:=κ.to {κ.w with drawn:=κ.w.drawn+1}) hL (fun κ' a' k1 k2 k3 k4 k5=> hQ κ' a' (g1.trans k1) k2 k3 k4 k5) g2 (hE.mono g1) hn rfl
  | .seq x y,c,κ,e,st,r,a,Q,hL,hok,hi,hE,hn,h,hQ=> by
    simp only[okCode]at hok
    split at hok
    case h_2=> cases hok
    simp only[Bool.and_eq_true]at hok
    simp only[codeS]at h
    refine wp_seq ?_
    split at h
    · rename_i e1 s1 h1
      refine code_sound hcall hpure hfl hm x hL hok.1 hi hE hn h1 ?_
      intro κ' a' k1 k2 k3 k4 k5
      exact code_sound hcall hpure hfl hm y (k1.L.trans hL) hok.2 k2 k3 k4 h fun κ2 a2 m1 m2 m3 m4 m5=> hQ κ2 a2 (k1.trans m1) m2 m3 m4 (m5.trans k5)
    · rename_i hno
      refine code_sound hcall hpure hfl hm x hL hok.1 hi hE hn h ?_
      intro κ' a' k1 k2 k3 k4 k5
      have:=hQ κ' a' k1 k2 k3 k4 k5
      obtain⟨z,e',s'⟩:=r
      cases z with
      | normal=> exact(hno _ _ h).elim
      | exit i=> exact this
      | ret=> exact this
  | .cond o x y,c,κ,e,st,r,a,Q,hL,hok,hi,hE,hn,h,hQ=> by
    simp only[okCode]at hok
    split at hok
    case h_2=> cases hok
    simp only[Bool.and_eq_true]at hok
    simp only[codeS]at h
    split at h
    · rename_i hc
      have:=opd_sound hi hE (hL ▸ hok.1.1) hc
      exact wp_cond_true this (code_sound hcall hpure hfl hm x hL hok.1.2 hi hE hn h hQ)
    · rename_i hc
      have:=opd_sound hi hE (hL ▸ hok.1.1) hc
      exact wp_cond_false this (code_sound hcall hpure hfl hm y hL hok.2 hi hE hn h hQ)
    · cases h
  | .block i x,c,κ,e,st,r,a,Q,hL,hok,hi,hE,hn,h,hQ=> by
    simp only[okCode]at hok
    split at hok
    case h_2=> cases hok
    simp only[Bool.and_eq_true,beq_iff_eq]at hok
    obtain⟨rfl,hok⟩:=hok
    simp only[codeS]at h
    refine wp_block ?_
    split at h
    · rename_i j e1 s1 h1
      refine code_sound hcall hpure hfl hm x hL hok hi hE hn h1 ?_
      intro κ' a' k1 k2 k3 k4 k5
      show Exit.inBlock _ Q (.exit j) a' κ'.w
      unfold Exit.inBlock
      split at h
      · rename_i hj
        simp only[Option.some.injEq]at h
        subst h
        simp only[hj,if_true]
        exact hQ κ' a' k1 k2 k3 k4 k5
      · rename_i hj
        simp only[Option.some.injEq]at h
        subst h
        simp only[hj,if_false]
        exact hQ κ' a' k1 k2 k3 k4 k5
    · rename_i hno
      refine code_sound hcall hpure hfl hm x hL hok hi hE hn h ?_
      intro κ' a' k1 k2 k3 k4 k5
      have:=hQ κ' a' k1 k2 k3 k4 k5
      obtain⟨z,e',s'⟩:=r
      cases z with
      | normal=> exact this
      | exit i=> exact(hno _ _ _ h).elim
      | ret=> exact this
  | .loop live tr x,c,κ,e,st,r,a,Q,hL,hok,hi,hE,hn,h,hQ=> by
    simp only[okCode]at hok
    split at hok
    case h_2=> cases hok
    simp only[codeS]at h
    refine wp_loop_rounds k (iter_sound (L:=L) (codeS_fl hfl k x) ?_ k hL hi hE hn h (iter_normal h) hQ)
    intro κ a e st r Q hL hn hi hE hr hp
    exact code_sound hcall hpure hfl hm x hL hok hi hE hn hr hp
  | .exit i,c,κ,e,st,r,a,Q,hL,hok,hi,hE,hn,h,hQ=> by
    simp only[okCode]at hok
    split at hok
    case h_2=> cases hok
    simp only[beq_iff_eq]at hok
    subst hok
    simp only[codeS,Option.some.injEq]at h
    subst h
    exact wp_exit (hQ κ a (K.le.refl _) hi hE hn rfl)
  | .ret,c,κ,e,st,r,a,Q,hL,hok,hi,hE,hn,h,hQ=> by
    simp only[okCode]at hok
    split at hok
    case h_2=> cases hok
    simp only[codeS,Option.some.injEq]at h
    subst h
    exact wp_ret (hQ κ a (K.le.refl _) hi hE hn rfl)
  | .keep live x,c,κ,e,st,r,a,Q,hL,hok,hi,hE,hn,h,hQ=> by
    simp only[okCode]at hok
    simp only[codeS]at h
    exact code_sound hcall hpure hfl hm x hL hok hi (fun i v hv=> hE i v (mask_get hv).2) hn h hQ
/-! ### Results -/
theorem initE_get:∀ {vs:List V} {k i:Nat} {v:V},(initE k vs).get i=some v→k≤i∧vs[i - k]? =some v
  | [],k,i,v,h=> by simp[initE,Env.get]at h
  | u::vs,k,i,v,h=> by
    simp only[initE,Env.get]at h
    split at h
    · rename_i hk
      subst hk
      simp only[Option.some.injEq]at h
      subst h
      simp
    · obtain⟨h1,h2⟩:=initE_get h
      refine⟨by omega,?_⟩
      rw[show i - k=(i - (k+1))+1 by omega]
      simpa using h2
variable {κ:K}{st:St}{e:Env}{a:Act}
theorem resOne_sound (hi:Inv Pr κ st)(hE:ERel κ e a){r:ResultVar}{s:SRes}(hok:okRes P [r] [s]=true){v:V}(h:resOne e st s=some v):
    ∃ u,(match r with | .tmp t=> pure (a.tmps.getD t undef) | .cell p t=> (do loadVar t (← asAddr (a.tmps.getD p undef))):Sem Value).run P κ.w= .ok u κ.w∧Rep κ v u:=by
  cases r with
  | tmp t=> cases s with
    | tmp t'=>
      simp only[okRes,Bool.and_eq_true,beq_iff_eq,and_true]at hok
      subst hok
      exact⟨_,rfl,(hE _ _ h).2⟩
    | cell=> simp[okRes]at hok
  | cell p t=> cases s with
    | tmp=> simp[okRes]at hok
    | cell t' size agg=>
      simp only[okRes,Bool.and_eq_true,beq_iff_eq,and_true]at hok
      obtain⟨⟨rfl,h1⟩,h2⟩:=hok
      simp only[resOne]at h
      split at h
      case h_2=> cases h
      rename_i q hq
      have hp:=(hE _ _ hq).2
      obtain⟨u,h3,h4⟩:=load_sound hi h1 h2 h hp
      refine⟨u,?_,Rep.of1 h4⟩
      rw[← h3]
      have hptr:∃ A,a.tmps.getD p undef= .pointer (some A):=by
        cases q <;> simp only[loadV]at h <;> try (cases h;done)
        · obtain⟨b,_,hb⟩:=hp;exact⟨_,hb⟩
        · obtain⟨A,hA,_⟩:=hp;exact⟨_,hA⟩
      obtain⟨A,hA⟩:=hptr
      show(do loadVar t (← asAddr (a.tmps.getD p undef)):Sem Value).run P κ.w=_
      rw[hA]
      rfl
theorem resAll_sound (hi:Inv Pr κ st)(hE:ERel κ e a)(f:ResultVar→Sem Value)(hf:∀ r,f r=(match r with | .tmp t=> pure (a.tmps.getD t undef) | .cell p t=> (do loadVar t (← asAddr (a.tmps.getD p undef))):Sem Value)):
    ∀ {rs:List ResultVar} {ss:List SRes},okRes P rs ss=true→∀ {vs:List V},resAll e st ss=some vs→∃ us,(rs.mapM f).run P κ.w= .ok us κ.w∧All2 (Rep1 κ) vs us
  | [],[],_,vs,h=> by
    simp only[resAll,Option.some.injEq]at h
    subst h
    exact⟨[],by simp,.nil⟩
  | r::rs,s::ss,hok,vs,h=> by
    simp only[resAll]at h
    split at h
    case h_2=> cases h
    rename_i v hv
    split at h
    case isFalse=> cases h
    rename_i hv1
    split at h
    case h_2=> cases h
    rename_i vs' hvs
    simp only[Option.some.injEq]at h
    subst h
    have hok':okRes P [r] [s]=true∧okRes P rs ss=true:=by
      cases r <;> cases s <;> simp[okRes]at hok ⊢ <;> simp[hok]
    obtain⟨u,h1,h2⟩:=resOne_sound hi hE hok'.1 hv
    obtain⟨us,h3,h4⟩:=resAll_sound hi hE f hf hok'.2 hvs
    refine⟨u::us,?_,.cons (Rep.to1 h2 (by rintro vs rfl;simp[V.ok1]at hv1)) h4⟩
    rw[List.mapM_cons,hf]
    simp only[Sem.run_bind,h1,Result.andThen_ok,h3,Sem.run_pure]
  | [],_::_,hok,vs,h=> by simp[okRes]at hok
  | r::_,[],hok,vs,h=> by cases r <;> simp[okRes]at hok
theorem okRes_length:∀ {rs:List ResultVar} {ss:List SRes},okRes P rs ss=true→rs.length=ss.length
  | [],[],_=> rfl
  | r::rs,s::ss,h=> by
    have:okRes P rs ss=true:=by cases r <;> cases s <;> simp[okRes]at h <;> simp[h]
    simp[okRes_length this]
  | [],_::_,hok=> by simp[okRes]at hok
  | r::_,[],hok=> by cases r <;> simp[okRes]at hok
theorem resAll_length:∀ {ss:List SRes} {vs:List V},resAll e st ss=some vs→vs.length=ss.length:=by
  intro ss
  induction ss with
  | nil=> intro vs h;simp only[resAll,Option.some.injEq]at h;subst h;rfl
  | cons s ss ih=>
    intro vs h
    simp only[resAll]at h
    split at h
    · split at h
      · split at h
        · rename_i hh
          simp only[Option.some.injEq]at h
          subst h
          simp[ih hh]
        · cases h
      · cases h
    · cases h
theorem results_aux (hi:Inv Pr κ st)(hE:ERel κ e a)(f:ResultVar→Sem Value)(hf:∀ r,f r=(match r with | .tmp t=> pure (a.tmps.getD t undef) | .cell p t=> (do loadVar t (← asAddr (a.tmps.getD p undef))):Sem Value))
    {rs:List ResultVar} {ss:List SRes} (hok:okRes P rs ss=true) {v:V} (h:resV e st ss=some v):
    ∃ u,(do let vs ← rs.toArray.mapM f;pure (if h:vs.size=1 then vs[0]else .tuple vs):Sem Value).run P κ.w= .ok u κ.w∧Rep κ v u:=by
  have hlen:=okRes_length hok
  rw[List.mapM_toArray]
  simp only[Sem.run_bind,Sem.run_map]
  unfold resV at h
  split at h
  · rename_i s
    obtain⟨r,rfl⟩:∃ r,rs= [r]:=by
      cases rs with
      | nil=> simp at hlen
      | cons r rs=> cases rs with
        | nil=> exact⟨r,rfl⟩
        | cons=> simp at hlen
    obtain⟨u,h1,h2⟩:=resOne_sound hi hE hok h
    refine⟨u,?_,h2⟩
    rw[List.mapM_cons,hf]
    simp only[Sem.run_bind,Sem.run_pure,Result.andThen_ok,List.mapM_nil,h1]
    simp
  · rename_i hno
    simp only[Option.map_eq_some_iff]at h
    obtain⟨vs,hvs,rfl⟩:=h
    obtain⟨us,h1,h2⟩:=resAll_sound hi hE f hf hok hvs
    refine⟨.tuple us.toArray,?_,us,rfl,h2⟩
    rw[h1]
    have hul:us.length≠1:=by
      have e1:vs.length=us.length:=h2.length
      have e3:=resAll_length hvs
      intro h1
      cases ss with
      | nil=>
        rw[List.length_nil]at e3
        omega
      | cons s ss=> cases ss with
        | nil=> exact hno s rfl
        | cons=>
          simp only[List.length_cons]at e3
          omega
    simp[hul]
theorem results_sound (hi:Inv Pr κ st)(hE:ERel κ e a){fn:Func}{ss:List SRes}(hok:okRes P fn.results.toList ss=true){v:V}(h:resV e st ss=some v):
    ∃ u,(results fn a.tmps).run P κ.w= .ok u κ.w∧Rep κ v u:=by
  obtain⟨rs,hrs⟩:∃ rs,fn.results=⟨rs⟩:=⟨fn.results.toList,by simp⟩
  rw[hrs]at hok
  unfold results
  rw[hrs]
  exact results_aux hi hE _ (fun r=> by cases r <;> rfl) hok h
/-! ### Functions and programs -/
theorem fn_sound {f:Nat}{fn:Func}{sf:SFn}(hm:P.follows .mixedOrders=true)(hcall:CallOk P Pr L call)(hpure:CallPure Pr call)(hfl:CallFl call)(hf:P.funcs[L.fn f]? =some fn)(hok:okFn P Pr L fn sf=true)
    {κ:K} {st st':St} {args:List V} {vals:List Value} {r:V} {k:Nat} (hL:κ.L=L) (hi:Inv Pr κ st) (ha:All2 (Rep κ) args vals) (hn:args.length=sf.nparams)
    (h:finish sf st (codeS Pr call k sf.body (initE 0 args) (start sf st))=some (r,st')):
    Calls P (L.fn f) vals.toArray κ.w fun e w'=> ∃ κ' v,κ'.w=w'∧e= .returned v∧κ.le κ'∧Inv Pr κ' st'∧Rep κ' r v:=by
  unfold okFn at hok
  split at hok
  case h_2=> cases hok
  rename_i c hc
  simp only[Bool.and_eq_true,decide_eq_true_eq]at hok
  obtain⟨⟨h1,h2⟩,h3⟩:=hok
  refine calls_of_wp hf hc ?_
  have hlen:=ha.length
  generalize hr:codeS Pr call k sf.body (initE 0 args) (start sf st)=out at h
  cases out with
  | none=> simp[finish]at h
  | some out=>
  have hi':Inv Pr κ (start sf st):=by
    unfold start
    split
    · exact hi.floor
    · exact hi
  refine code_sound (n:=fn.ntmps) hcall hpure hfl hm sf.body hL h1 hi' ?_ ?_ hr ?_
  · intro i v hv
    obtain⟨_,hv⟩:=initE_get hv
    simp only[Nat.sub_zero]at hv
    obtain⟨y,hy,hrep⟩:=ha.get hv
    have hlt:=(List.getElem?_eq_some_iff.1 hy).1
    refine⟨by simp;omega,?_⟩
    rw[Array.getD_eq_getD_getElem?,Array.getElem?_append_left (by simpa using hlt)]
    simpa[hy]using hrep
  · simp;omega
  · intro κ' a' k1 k2 k3 k4 k5
    obtain⟨x,e1,s1⟩:=out
    have hfl':=codeS_fl hfl k sf.body _ _ _ _ _ hr
    have main:∀ v,resV e1 s1 sf.results=some v→(if sf.pure then(esc s1 st.heap.length st.tips.length v).map fun v=> (v,st) else some (v,s1))=some (r,st')→
     ∃ u,(results fn a'.tmps).run P κ'.w= .ok u κ'.w∧∃ κ2 v,κ2.w=κ'.w∧Ending.returned u= .returned v∧κ.le κ2∧Inv Pr κ2 st'∧Rep κ2 r v:=by
      intro v hv hres
      obtain⟨u,g1,g2⟩:=results_sound k2 k3 h2 hv
      refine⟨u,g1,?_⟩
      split at hres
      · rename_i hp
        simp only[Option.map_eq_some_iff,Prod.mk.injEq]at hres
        obtain⟨z,hz,rfl,rfl⟩:=hres
        unfold start at hfl'
        rw[if_pos hp]at hfl'
        have hheap:s1.heap.take st.heap.length=st.heap:=by
          refine List.ext_getElem? fun i=> ?_
          rw[List.getElem?_take]
          split
          · rename_i hlt
            exact hfl'.heap i hlt hlt
          · rename_i hge
            rw[List.getElem?_eq_none (by omega)]
        have htips:s1.tips.take st.tips.length=st.tips:=by
          refine List.ext_getElem? fun i=> ?_
          rw[List.getElem?_take]
          split
          · rename_i hlt
            exact hfl'.tips i hlt hlt
          · rename_i hge
            rw[List.getElem?_eq_none (by omega)]
        obtain⟨m1,m2⟩:=Inv.cut hi k1 k2 hheap (f:=st.floor) (tf:=st.tfloor)
        rw[htips]at m2
        exact⟨κ'.cut st.heap.length st.tips.length,u,rfl,rfl,m1,m2,escT_rep k2 hz g2⟩
      · simp only[Option.some.injEq,Prod.mk.injEq]at hres
        obtain⟨rfl,rfl⟩:=hres
        exact⟨κ',u,rfl,rfl,k1,k2,g2⟩
    cases x with
    | exit i=> simp[finish]at h
    | normal=>
      simp only[finish]at h
      split at h
      case h_2=> cases h
      rename_i v hv
      obtain⟨u,m1,m2⟩:=main v hv h
      exact⟨k5,u,m1,m2⟩
    | ret=>
      simp only[finish]at h
      split at h
      case h_2=> cases h
      rename_i v hv
      obtain⟨u,m1,m2⟩:=main v hv h
      exact⟨k5,u,m1,m2⟩
structure Tied (P:Program)(Pr:Prog)(L:Link):Prop where
  fn:∀ f sf,Pr.fn f=some sf→∃ fn,P.funcs[L.fn f]? =some fn∧okFn P Pr L fn sf=true
  prim:∀ f g,Pr.fn f=none→Pr.prim f=some g→∀ (κ:K) (st:St) args vals r,κ.L=L→Inv Pr κ st→All2 (Rep κ) args vals→g args st=some r→
    Calls P (L.fn f) vals.toArray κ.w fun e w'=> ∃ κ' v,κ'.w=w'∧e= .returned v∧κ.le κ'∧Inv Pr κ' st∧Rep κ' r v
theorem runF_pure1:∀ k f args st r st',isPure Pr f=true→runF Pr k f args st=some (r,st')→st'=st
  | 0,f,args,st,r,st',_,h=> by simp[runF]at h
  | k+1,f,args,st,r,st',hp,h=> by
    simp only[runF]at h
    unfold isPure at hp
    split at h
    · rename_i fn hfn
      rw[hfn]at hp
      split at h
      · unfold enterF at h
        split at h
        · split at h
          case isFalse=> cases h
          split at h
          · split at h
            · simp only[Option.some.injEq,Prod.mk.injEq]at h
              exact h.2.symm
            · cases h
          · cases h
        rename_i hns
        unfold finish at h
        split at h
        · cases h
        · split at h
          · split at h
            · simp only[Option.map_eq_some_iff,Prod.mk.injEq]at h
              obtain⟨_,_,_,rfl⟩:=h
              rfl
            · rename_i hnp
              simp only[Bool.or_eq_true]at hp
              rcases hp with hp | hp
              · exact(hnp hp).elim
              · exact(hns hp).elim
          · cases h
        · cases h
      · cases h
    · split at h
      · unfold pureR at h
        split at h
        · simp only[Option.some.injEq,Prod.mk.injEq]at h
          exact h.2.symm
        · cases h
      · cases h
theorem runF_shut:∀ k f args st st2 r st',isShut Pr f=true→runF Pr k f args st=some (r,st')→runF Pr k f args st2=some (r,st2)
  | 0,f,args,st,st2,r,st',_,h=> by simp[runF]at h
  | k+1,f,args,st,st2,r,st',hp,h=> by
    simp only[runF]at h ⊢
    unfold isShut at hp
    split at h
    · rename_i fn hfn
      rw[hfn]at hp
      simp only at hp ⊢
      split at h
      · rename_i hl
        rw[if_pos hl]
        unfold enterF at h ⊢
        rw[if_pos hp]at h ⊢
        split at h
        case isFalse=> cases h
        rename_i hpu
        rw[if_pos hpu]
        split at h
        case h_2=> cases h
        split at h
        case h_2=> cases h
        simp only[Option.some.injEq,Prod.mk.injEq]at h ⊢
        exact⟨h.1,trivial⟩
      · cases h
    · rename_i hfn
      rw[hfn]at hp
      cases hp
theorem runF_pure (k:Nat):CallPure Pr (runF Pr k):=⟨runF_pure1 k,runF_shut k⟩
theorem runF_sound (hm:P.follows .mixedOrders=true)(ht:Tied P Pr L):∀ k,CallOk P Pr L (runF Pr k)
  | 0=> fun κ st f args vals r st' _ _ _ h=> by simp[runF]at h
  | k+1=> fun κ st f args vals r st' hL hi ha h=> by
    simp only[runF]at h
    split at h
    · rename_i sf hsf
      obtain⟨fn,h1,h2⟩:=ht.fn f sf hsf
      split at h
      · rename_i hn
        unfold enterF at h
        split at h
        · rename_i hsh
          split at h
          case isFalse=> cases h
          rename_i hpu
          split at h
          case h_2=> cases h
          rename_i as has
          split at h
          case h_2=> cases h
          rename_i r2 hr2
          simp only[Option.some.injEq,Prod.mk.injEq]at h
          obtain⟨rfl,rfl⟩:=h
          obtain⟨r2,s2⟩:=r2
          have hs2:s2=st0:=by
            unfold finish at hr2
            split at hr2
            · cases hr2
            · split at hr2
              · rw[if_pos hpu]at hr2
                simp only[Option.map_eq_some_iff,Prod.mk.injEq]at hr2
                obtain⟨_,_,_,rfl⟩:=hr2
                rfl
              · cases hr2
            · cases hr2
          subst hs2
          have ha':All2 (Rep κ.bare) as vals:=closeA_rep (κ:=κ) (κ':=κ.bare) rfl (fun _ _ _ h=> h) has ha
          refine(fn_sound hm (runF_sound hm ht k) (runF_pure k) (runF_fl k) h1 h2 (κ:=κ.bare) hL hi.bare ha' (by rw[closeA_length has];exact hn) hr2).mono ?_
          rintro e w' ⟨κ',v,rfl,rfl,g1,g2,g3⟩
          have hρ:κ'.ρ= []:=List.eq_nil_of_length_eq_zero (by rw[g2.len];rfl)
          have htk:κ'.tk= []:=by
            have:=g2.tips
            cases hq:κ'.tk with
            | nil=> rfl
            | cons x r=> rw[hq]at this;cases this
          obtain⟨κ2,m1,m2,m3,m4⟩:=hi.back g1 g2 hρ htk g3
          exact⟨κ2,v,m1,rfl,m2,m3,m4⟩
        · exact fn_sound hm (runF_sound hm ht k) (runF_pure k) (runF_fl k) h1 h2 hL hi ha hn h
      · cases h
    · rename_i hfn
      split at h
      · rename_i g hg
        unfold pureR at h
        split at h
        · rename_i x hx
          simp only[Option.some.injEq,Prod.mk.injEq]at h
          obtain⟨rfl,rfl⟩:=h
          exact ht.prim f g hfn hg κ st args vals x hL hi ha hx
        · cases h
      · cases h
end
end Go.Sh
namespace Go.Sh
def CallF.le (f g:CallF):Prop:=∀ a b c r,f a b c=some r→g a b c=some r
def OLe {α:Type}(x y:Option α):Prop:=∀ r,x=some r→y=some r
theorem opS_mono {P:Prog}{f g:CallF}(h:f.le g){e:Env}{st:St}{o:SOp}{r:V×St}(hr:opS P f e st o=some r):opS P g e st o=some r:=by
  cases o <;> simp only[opS]at hr ⊢ <;> try exact hr
  · split at hr
    · exact h _ _ _ _ hr
    · cases hr
  · obtain⟨v,hv,hr⟩:=bind1_some hr
    rw[hv]
    simp only[bind1]
    split at hr
    · split at hr
      · exact h _ _ _ _ hr
      · cases hr
    · cases hr
  · obtain⟨v,hv,hr⟩:=bind1_some hr
    rw[hv]
    simp only[bind1]
    split at hr
    · split at hr
      · rename_i hf
        rw[if_pos hf]
        split at hr
        · exact h _ _ _ _ hr
        · cases hr
      · cases hr
    · cases hr
theorem opsS_mono {P:Prog}{f g:CallF}(h:f.le g){all:List SOper}:∀ {l:List SOper} {e:Env} {st:St} {r:Env×St},opsS P f all l e st=some r→opsS P g all l e st=some r
  | [],e,st,r,hr=> hr
  | o::l,e,st,r,hr=> by
    simp only[opsS]at hr ⊢
    split at hr
    · split at hr
      · rename_i ho
        rw[opS_mono h ho]
        exact opsS_mono h hr
      · cases hr
    · exact opsS_mono h hr
    · cases hr
theorem round_mono {live:List Nat}{tr:Bool}{s s':Env→St→Option Out}(h:∀ e st r,s e st=some r→s' e st=some r){e:Env}{st:St}{r:Out}(hr:round live tr s e st=some r):round live tr s' e st=some r:=by
  unfold round at hr ⊢
  simp only[Option.map_eq_some_iff]at hr ⊢
  obtain⟨x,h1,h2⟩:=hr
  exact⟨x,h _ _ _ h1,h2⟩
theorem iter_mono {s s':Env→St→Option Out}(h:∀ e st r,s e st=some r→s' e st=some r):∀ {k k':Nat},k≤k'→∀ {e:Env} {st:St} {r:Out},iter s k e st=some r→iter s' k' e st=some r
  | 0,_,_,e,st,r,hr=> by simp[iter]at hr
  | k+1,0,hk,_,_,_,_=> by omega
  | k+1,k'+1,hk,e,st,r,hr=> by
    unfold iter at hr ⊢
    split at hr
    · rename_i h1
      rw[h _ _ _ h1]
      exact iter_mono h (by omega) hr
    · rename_i hno
      rw[h _ _ _ hr]
      obtain⟨x,e1,s1⟩:=r
      cases x with
      | normal=> exact(hno _ _ hr).elim
      | exit i=> rfl
      | ret=> rfl
theorem codeS_mono {P:Prog}{f g:CallF}(h:f.le g){k k':Nat}(hk:k≤k'):∀ (c:SCode) {e:Env} {st:St} {r:Out},codeS P f k c e st=some r→codeS P g k' c e st=some r
  | .skip,e,st,r,hr=> hr
  | .region ops d _,e,st,r,hr=> by
    simp only[codeS]at hr ⊢
    split at hr
    · rename_i h1
      rw[opsS_mono h h1]
      exact hr
    · cases hr
  | .seq a b,e,st,r,hr=> by
    simp only[codeS]at hr ⊢
    split at hr
    · rename_i h1
      rw[codeS_mono h hk a h1]
      exact codeS_mono h hk b hr
    · rename_i hno
      rw[codeS_mono h hk a hr]
      obtain⟨x,e1,s1⟩:=r
      cases x with
      | normal=> exact(hno _ _ hr).elim
      | exit i=> rfl
      | ret=> rfl
  | .cond c a b,e,st,r,hr=> by
    simp only[codeS]at hr ⊢
    split at hr
    · rename_i hc
      exact codeS_mono h hk a hr
    · rename_i hc
      exact codeS_mono h hk b hr
    · cases hr
  | .block i c,e,st,r,hr=> by
    simp only[codeS]at hr ⊢
    split at hr
    · rename_i h1
      rw[codeS_mono h hk c h1]
      exact hr
    · rename_i hno
      rw[codeS_mono h hk c hr]
      obtain⟨x,e1,s1⟩:=r
      cases x with
      | normal=> rfl
      | exit i=> exact(hno _ _ _ hr).elim
      | ret=> rfl
  | .loop live tr c,e,st,r,hr=> by
    simp only[codeS]at hr ⊢
    exact iter_mono (fun e st r h1=> round_mono (fun e st r h2=> codeS_mono h hk c h2) h1) hk hr
  | .exit i,e,st,r,hr=> hr
  | .ret,e,st,r,hr=> hr
  | .keep live c,e,st,r,hr=> by
    simp only[codeS]at hr ⊢
    exact codeS_mono h hk c hr
theorem finish_mono {fn:SFn}{st:St}{x y:Option Out}(h:∀ r,x=some r→y=some r){r:V×St}(hr:finish fn st x=some r):finish fn st y=some r:=by
  cases x with
  | none=> simp[finish]at hr
  | some o=> rw[h o rfl];exact hr
theorem enterF_mono {fn:SFn}{run run':Env→St→Option Out}(h:∀ e st r,run e st=some r→run' e st=some r){args:List V}{st:St}{r:V×St}(hr:enterF fn run args st=some r):enterF fn run' args st=some r:=by
  unfold enterF at hr ⊢
  split at hr
  · rename_i hs
    rw[if_pos hs]
    split at hr
    case isFalse=> cases hr
    rename_i hp
    rw[if_pos hp]
    split at hr
    case h_2=> cases hr
    split at hr
    case h_2=> cases hr
    rename_i r2 h2
    rw[finish_mono (h _ _) h2]
    exact hr
  · rename_i hs
    rw[if_neg hs]
    exact finish_mono (h _ _) hr
theorem runF_succ {P:Prog}:∀ k,(runF P k).le (runF P (k+1))
  | 0=> fun f args st r h=> by simp[runF]at h
  | k+1=> fun f args st r h=> by
    rw[runF]at h ⊢
    split at h
    · split at h
      · rename_i hl
        rw[if_pos hl]
        exact enterF_mono (fun e st r hr=> codeS_mono (runF_succ k) (Nat.le_succ k) _ hr) h
      · cases h
    · exact h
theorem runF_mono {P:Prog}{k k':Nat}(h:k≤k'):(runF P k).le (runF P k'):=by
  induction h with
  | refl=> exact fun _ _ _ _ h=> h
  | step _ ih=> exact fun a b c r h=> runF_succ _ _ _ _ _ (ih _ _ _ _ h)
open Classical in
noncomputable def lim {α:Type} (F:Nat→Option α):Option α:=if h:∃ k r,F k=some r then F h.choose else none
theorem lim_iff {α:Type}{F:Nat→Option α}(hm:∀ k k',k≤k'→OLe (F k) (F k')){r:α}:lim F=some r↔∃ k,F k=some r:=by
  unfold lim
  constructor
  · intro h
    split at h
    · exact⟨_,h⟩
    · cases h
  · rintro⟨k,hk⟩
    have hex:∃ k r,F k=some r:=⟨k,r,hk⟩
    rw[dif_pos hex]
    obtain⟨r',hr'⟩:=hex.choose_spec
    have h1:=hm _ (max k hex.choose) (Nat.le_max_left _ _) _ hk
    have h2:=hm _ (max k hex.choose) (Nat.le_max_right _ _) _ hr'
    rw[h1]at h2
    rw[hr',Option.some.inj h2]
noncomputable def den (P:Prog):CallF:=fun f args st=> lim fun k=> runF P k f args st
noncomputable def cden (P:Prog) (c:SCode) (e:Env) (st:St):Option Out:=lim fun k=> codeS P (runF P k) k c e st
section
variable {P:Prog}
theorem den_iff {f:Nat}{args:List V}{st:St}{r:V×St}:den P f args st=some r↔∃ k,runF P k f args st=some r:=lim_iff fun _ _ h r=> runF_mono h _ _ _ r
theorem cden_iff {c:SCode}{e:Env}{st:St}{r:Out}:cden P c e st=some r↔∃ k,codeS P (runF P k) k c e st=some r:=lim_iff fun _ _ h r=> codeS_mono (runF_mono h) h c
theorem runF_den (k:Nat):(runF P k).le (den P):=fun _ _ _ _ h=> den_iff.2 ⟨k,h⟩
theorem den_runF {e:Env}{st:St}{o:SOp}{r:V×St}(h:opS P (den P) e st o=some r):∃ k,opS P (runF P k) e st o=some r:=by
  cases o <;> simp only[opS]at h ⊢ <;> try exact⟨0,h⟩
  · split at h
    · exact den_iff.1 h
    · cases h
  · obtain⟨v,hv,h⟩:=bind1_some h
    rw[hv]
    simp only[bind1]
    split at h
    · split at h
      · exact den_iff.1 h
      · cases h
    · cases h
  · obtain⟨v,hv,h⟩:=bind1_some h
    rw[hv]
    simp only[bind1]
    split at h
    · split at h
      · rename_i hf
        simp only[hf,if_true]
        split at h
        · exact den_iff.1 h
        · cases h
      · cases h
    · cases h
theorem dens_runF {all:List SOper}:∀ {l:List SOper} {e:Env} {st:St} {r:Env×St},opsS P (den P) all l e st=some r→∃ k,opsS P (runF P k) all l e st=some r
  | [],e,st,r,h=> ⟨0,h⟩
  | o::l,e,st,r,h=> by
    simp only[opsS]at h ⊢
    split at h
    · split at h
      · rename_i ho
        obtain⟨k1,h1⟩:=den_runF ho
        obtain⟨k2,h2⟩:=dens_runF h
        refine⟨max k1 k2,?_⟩
        rw[opS_mono (runF_mono (Nat.le_max_left _ _)) h1]
        exact opsS_mono (runF_mono (Nat.le_max_right _ _)) h2
      · cases h
    · exact dens_runF h
    · cases h
theorem opt_ext {α:Type}{x y:Option α}(h:∀ r,x=some r↔y=some r):x=y:=Option.ext fun r=> by simpa[Option.mem_def]using h r
theorem cden_skip {e:Env}{st:St}:cden P .skip e st=some (.normal,e,st):=cden_iff.2 ⟨0,rfl⟩
theorem cden_exit {i:Nat}{e:Env}{st:St}:cden P (.exit i) e st=some (.exit i,e,st):=cden_iff.2 ⟨0,rfl⟩
theorem cden_ret {e:Env}{st:St}:cden P .ret e st=some (.ret,e,st):=cden_iff.2 ⟨0,rfl⟩
theorem cden_keep {live:List Nat}{c:SCode}{e:Env}{st:St}:cden P (.keep live c) e st=cden P c (mask live e) st:=by
  refine opt_ext fun r=> ?_
  rw[cden_iff,cden_iff]
  simp only[codeS]
theorem cden_region {ops:List SOper}{d:Bool}{B:List Nat}{e:Env}{st:St}:cden P (.region ops d B) e st=match opsS P (den P) ops ops e st with
    | some (e',st')=> some (.normal,e',st')
    | none=> none:=by
  refine opt_ext fun r=> ?_
  rw[cden_iff]
  constructor
  · rintro⟨k,h⟩
    simp only[codeS]at h
    split at h
    · rename_i h1
      rw[opsS_mono (runF_den k) h1]
      exact h
    · cases h
  · intro h
    split at h
    · rename_i h1
      obtain⟨k,h1⟩:=dens_runF h1
      refine⟨k,?_⟩
      simp only[codeS,h1]
      exact h
    · cases h
theorem cden_seq {a b:SCode}{e:Env}{st:St}:cden P (.seq a b) e st=match cden P a e st with
    | some (.normal,e',st')=> cden P b e' st'
    | r=> r:=by
  refine opt_ext fun r=> ?_
  rw[cden_iff]
  constructor
  · rintro⟨k,h⟩
    simp only[codeS]at h
    split at h
    · rename_i h1
      rw[cden_iff.2 ⟨k,h1⟩]
      exact cden_iff.2 ⟨k,h⟩
    · rename_i hno
      rw[cden_iff.2 ⟨k,h⟩]
      obtain⟨x,e1,s1⟩:=r
      cases x with
      | normal=> exact(hno _ _ h).elim
      | exit i=> rfl
      | ret=> rfl
  · intro h
    split at h
    · rename_i h1
      obtain⟨k1,h1⟩:=cden_iff.1 h1
      obtain⟨k2,h2⟩:=cden_iff.1 h
      refine⟨max k1 k2,?_⟩
      simp only[codeS]
      rw[codeS_mono (runF_mono (Nat.le_max_left _ _)) (Nat.le_max_left _ _) a h1]
      exact codeS_mono (runF_mono (Nat.le_max_right _ _)) (Nat.le_max_right _ _) b h2
    · rename_i hno
      obtain⟨k1,h1⟩:=cden_iff.1 h
      refine⟨k1,?_⟩
      simp only[codeS]
      rw[h1]
      obtain⟨x,e1,s1⟩:=r
      cases x with
      | normal=> exact(hno _ _ h).elim
      | exit i=> rfl
      | ret=> rfl
theorem cden_cond {c:Opd}{a b:SCode}{e:Env}{st:St}:cden P (.cond c a b) e st=match c.ev P e with
    | some (.d (.b true))=> cden P a e st
    | some (.d (.b false))=> cden P b e st
    | _=> none:=by
  refine opt_ext fun r=> ?_
  rw[cden_iff]
  constructor
  · rintro⟨k,h⟩
    simp only[codeS]at h
    split at h
    · rename_i hc
      rw[hc]
      exact cden_iff.2 ⟨k,h⟩
    · rename_i hc
      rw[hc]
      exact cden_iff.2 ⟨k,h⟩
    · cases h
  · intro h
    split at h
    · rename_i hc
      obtain⟨k,h⟩:=cden_iff.1 h
      exact⟨k,by simp only[codeS,hc];exact h⟩
    · rename_i hc
      obtain⟨k,h⟩:=cden_iff.1 h
      exact⟨k,by simp only[codeS,hc];exact h⟩
    · cases h
theorem cden_block {i:Nat}{c:SCode}{e:Env}{st:St}:cden P (.block i c) e st=match cden P c e st with
    | some (.exit j,e',st')=> if j=i then some (.normal,e',st') else some (.exit j,e',st')
    | r=> r:=by
  refine opt_ext fun r=> ?_
  rw[cden_iff]
  constructor
  · rintro⟨k,h⟩
    simp only[codeS]at h
    split at h
    · rename_i h1
      rw[cden_iff.2 ⟨k,h1⟩]
      exact h
    · rename_i hno
      rw[cden_iff.2 ⟨k,h⟩]
      obtain⟨x,e1,s1⟩:=r
      cases x with
      | normal=> rfl
      | exit i=> exact(hno _ _ _ h).elim
      | ret=> rfl
  · intro h
    split at h
    · rename_i h1
      obtain⟨k,h1⟩:=cden_iff.1 h1
      exact⟨k,by simp only[codeS,h1];exact h⟩
    · rename_i hno
      obtain⟨k,h1⟩:=cden_iff.1 h
      refine⟨k,?_⟩
      simp only[codeS]
      rw[h1]
      obtain⟨x,e1,s1⟩:=r
      cases x with
      | normal=> rfl
      | exit i=> exact(hno _ _ _ h).elim
      | ret=> rfl
theorem cden_loop {live:List Nat}{tr:Bool}{c:SCode}{e:Env}{st:St}:cden P (.loop live tr c) e st=match round live tr (cden P c) e st with
    | some (.normal,e',st')=> cden P (.loop live tr c) e' st'
    | r=> r:=by
  refine opt_ext fun r=> ?_
  rw[cden_iff]
  have toden:∀ k {e st r},round live tr (codeS P (runF P k) k c) e st=some r→round live tr (cden P c) e st=some r:=fun k e st r h=> round_mono (fun e st r h=> cden_iff.2 ⟨k,h⟩) h
  have ofden:∀ {e st r},round live tr (cden P c) e st=some r→∃ k,round live tr (codeS P (runF P k) k c) e st=some r:=by
    intro e st r h
    unfold round at h ⊢
    simp only[Option.map_eq_some_iff]at h ⊢
    obtain⟨x,h1,h2⟩:=h
    obtain⟨k,h1⟩:=cden_iff.1 h1
    exact⟨k,x,h1,h2⟩
  constructor
  · rintro⟨k,h⟩
    simp only[codeS]at h
    cases k with
    | zero=> simp[iter]at h
    | succ k=>
      rw[iter]at h
      split at h
      · rename_i h1
        rw[toden _ h1]
        simp only
        refine cden_iff.2 ⟨k+1,?_⟩
        simp only[codeS]
        exact iter_mono (fun _ _ _ h=> h) (Nat.le_succ k) h
      · rename_i hno
        rw[toden _ h]
        obtain⟨x,e1,s1⟩:=r
        cases x with
        | normal=> exact(hno _ _ h).elim
        | exit i=> rfl
        | ret=> rfl
  · intro h
    split at h
    · rename_i h1
      obtain⟨k1,h1⟩:=ofden h1
      obtain⟨k2,h2⟩:=cden_iff.1 h
      simp only[codeS]at h2
      refine⟨max k1 k2+1,?_⟩
      simp only[codeS]
      have up:∀ k,k≤max k1 k2→∀ e st r,round live tr (codeS P (runF P k) k c) e st=some r→round live tr (codeS P (runF P (max k1 k2+1)) (max k1 k2+1) c) e st=some r:=fun k hk e st r h=>
        round_mono (fun e st r h=> codeS_mono (runF_mono (Nat.le_succ_of_le hk)) (Nat.le_succ_of_le hk) c h) h
      rw[iter,up k1 (Nat.le_max_left _ _) _ _ _ h1]
      exact iter_mono (fun e st r h=> up k2 (Nat.le_max_right _ _) e st r h) (Nat.le_max_right _ _) h2
    · rename_i hno
      obtain⟨k1,h1⟩:=ofden h
      refine⟨k1+1,?_⟩
      simp only[codeS]
      rw[iter,round_mono (fun e st r h=> codeS_mono (runF_mono (Nat.le_succ k1)) (Nat.le_succ k1) c h) h1]
      obtain⟨x,e1,s1⟩:=r
      cases x with
      | normal=> exact(hno _ _ h).elim
      | exit i=> rfl
      | ret=> rfl
theorem den_enter {f:Nat}{args:List V}{st:St}{fn:SFn}(hf:P.fn f=some fn)(hn:args.length=fn.nparams):den P f args st=enterF fn (cden P fn.body) args st:=by
  refine opt_ext fun r=> ?_
  rw[den_iff]
  constructor
  · rintro⟨k,h⟩
    cases k with
    | zero=> simp[runF]at h
    | succ k=>
      rw[runF,hf]at h
      simp only[hn,if_true]at h
      exact enterF_mono (fun e st r h=> cden_iff.2 ⟨k,h⟩) h
  · intro h
    have fin:∀ {e s st r},finish fn st (cden P fn.body e s)=some r→∃ k,finish fn st (codeS P (runF P k) k fn.body e s)=some r:=by
      intro e s st r h
      cases hc:cden P fn.body e s with
      | none=> rw[hc]at h;simp[finish]at h
      | some x=>
        obtain⟨k,hk⟩:=cden_iff.1 hc
        exact⟨k,by rw[hk,← hc];exact h⟩
    have:∃ k,enterF fn (codeS P (runF P k) k fn.body) args st=some r:=by
      unfold enterF at h ⊢
      split at h
      · rename_i hs
        simp only[if_pos hs]
        split at h
        case isFalse=> cases h
        rename_i hp
        simp only[if_pos hp]
        split at h
        case h_2=> cases h
        rename_i as has
        split at h
        case h_2=> cases h
        rename_i r2 h2
        obtain⟨k,hk⟩:=fin h2
        exact⟨k,by rw[hk];exact h⟩
      · rename_i hs
        simp only[if_neg hs]
        exact fin h
    obtain⟨k,hk⟩:=this
    refine⟨k+1,?_⟩
    rw[runF,hf]
    simp only[hn,if_true]
    exact hk
theorem den_prim {f:Nat}{g:List V→St→Option V}{args:List V}{st:St}{v:V}(hf:P.fn f=none)(hg:P.prim f=some g)(h:g args st=some v):den P f args st=some (v,st):=by
  rw[den_iff]
  refine⟨1,?_⟩
  rw[runF,hf]
  simp only[hg,h]
  rfl
theorem den_fn {f:Nat}{args:List V}{st:St}{fn:SFn}(hf:P.fn f=some fn)(hn:args.length=fn.nparams)(hs:fn.shut=false):den P f args st=finish fn st (cden P fn.body (initE 0 args) (start fn st)):=by
  rw[den_enter hf hn]
  unfold enterF
  rw[if_neg (by simp[hs])]
theorem den_shut {f:Nat}{args as:List V}{st:St}{fn:SFn}(hf:P.fn f=some fn)(hn:args.length=fn.nparams)(hs:(fn.closed && fn.pure)=true)(ha:closeA args=some as){r:V}
    (h:finish fn st0 (cden P fn.body (initE 0 as) (start fn st0))=some (r,st0)):den P f args st=some (r,st):=by
  rw[den_enter hf hn]
  unfold enterF
  simp only[Bool.and_eq_true]at hs
  rw[if_pos (show fn.shut=true from hs.1),if_pos hs.2,ha]
  simp only[h]
end
end Go.Sh
namespace Go.Sh
open Go.RowKit
inductive Ty where
  | int (k:IntKind)
  | bool
  | str
  | sl (bytes:Nat) (e:Ty)
  | agg (fs:List Ty)
mutual
def Ty.size:Ty→Nat
  | .int _=> 1
  | .bool=> 1
  | .str=> 1
  | .sl _ _=> 1
  | .agg fs=> Ty.sizes fs
def Ty.sizes:List Ty→Nat
  | []=> 0
  | t::ts=> t.size+Ty.sizes ts
end
mutual
def tyOk (P:Program)(t:TypeId):Ty→Bool
  | .int k=> match P.underlying t with
    | some (.int k')=> decide (k'=k)
    | _=> false
  | .bool=> match P.underlying t with
    | some .bool=> true
    | _=> false
  | .str=> match P.underlying t with
    | some .string=> true
    | _=> false
  | .sl b e=> match P.underlying t with
    | some (.slice u)=> P.cellsOf u==e.size && P.bytesOf u==b && tyOk P u e
    | _=> false
  | .agg fs=> match P.underlying t with
    | some (.struct gs)=> P.cellsOf t==Ty.sizes fs && tyOks P 0 gs.toList fs
    | _=> false
def tyOks (P:Program)(off:Nat):List Field→List Ty→Bool
  | [],[]=> true
  | g::gs,t::ts=> g.offset==off && P.cellsOf g.type==t.size && tyOk P g.type t && tyOks P (off+t.size) gs ts
  | _,_=> false
end
mutual
def Has:Ty→List D→Prop
  | .int k,cs=> ∃ n,cs= [.i k n]∧k.min≤n∧n≤k.max
  | .bool,cs=> ∃ b,cs= [.b b]
  | .str,cs=> ∃ l,cs= [.s l]∧l.length≤140737488351232
  | .sl b e,cs=> ∃ (els:List (List D)) (nz:Bool),cs= [.sl els.length nz els.flatten]∧els.length * b≤140737488351232∧(nz=false→els= [])∧∀ x∈els,Has e x
  | .agg fs,cs=> Hass fs cs
def Hass:List Ty→List D→Prop
  | [],cs=> cs= []
  | t::ts,cs=> ∃ a b,cs=a++b∧Has t a∧Hass ts b
end
mutual
theorem Has.length:∀ {t:Ty} {cs:List D},Has t cs→cs.length=t.size
  | .int _,_,h=> by simp only[Has]at h;obtain⟨n,rfl,_⟩:=h;rfl
  | .bool,_,h=> by simp only[Has]at h;obtain⟨n,rfl⟩:=h;rfl
  | .str,_,h=> by simp only[Has]at h;obtain⟨n,rfl,_⟩:=h;rfl
  | .sl _ _,_,h=> by simp only[Has]at h;obtain⟨_,_,rfl,_⟩:=h;rfl
  | .agg fs,_,h=> by simp only[Has]at h;simp only[Ty.size];exact Hass.length h
theorem Hass.length:∀ {ts:List Ty} {cs:List D},Hass ts cs→cs.length=Ty.sizes ts
  | [],_,h=> by simp only[Hass]at h;subst h;rfl
  | t::ts,_,h=> by
    simp only[Hass]at h
    obtain⟨a,b,rfl,h1,h2⟩:=h
    simp only[List.length_append,Ty.sizes]
    rw[Has.length h1,Hass.length h2]
end
mutual
def bulkD:D→Nat
  | .s l=> l.length+1
  | .sl _ _ cs=> bulkL cs+1
  | .ifc _ _ cs=> bulkL cs+1
  | .i .. => 1
  | .b _=> 1
  | .np=> 1
  | .nm=> 1
  | .ni=> 1
  | .nf=> 1
  | .any=> 1
def bulkL:List D→Nat
  | []=> 0
  | d::r=> bulkD d+bulkL r
end
mutual
def bulkW {H:Type}:DataW H→Nat
  | .lit (.string bytes)=> bytes.length+1
  | .lit _=> 1
  | .nil=> 1
  | .ptr d=> bulkW d+1
  | .slice elems spare=> bulkWs elems+bulkWs spare+1
  | .agg parts=> bulkWs parts+1
  | .iface _ d=> bulkW d+1
  | .map entries=> bulkWe entries+1
  | .held _=> 1
def bulkWs {H:Type}:List (DataW H)→Nat
  | []=> 0
  | d::r=> bulkW d+bulkWs r
def bulkWe {H:Type}:List (Lit×DataW H)→Nat
  | []=> 0
  | x::r=> bulkWx x+bulkWe r
def bulkWx {H:Type}:Lit×DataW H→Nat
  | (.string bytes,d)=> bytes.length+bulkW d+1
  | (_,d)=> bulkW d+1
end
theorem bulkL_append:∀ (a b:List D),bulkL (a++b)=bulkL a+bulkL b
  | [],b=> by simp[bulkL]
  | x::a,b=> by simp only[List.cons_append,bulkL,bulkL_append a b];omega
theorem weights_all_mem {H:Type}{P:Program}{u:TypeId}:∀ {ds:List (DataW H)} {d:DataW H} {m:Nat},d∈ds→m∈d.weights P u→m∈DataW.weightsAll P u ds
  | [],d,m,h,_=> by cases h
  | x::ds,d,m,h,hm=> by
    simp only[DataW.weightsAll,List.mem_append]
    cases h with
    | head=> exact .inl hm
    | tail _ h=> exact .inr (weights_all_mem h hm)
theorem flatten_get {α:Type}{s:Nat}:∀ {els:List (List α)},(∀ x∈els,x.length=s)→∀ {j:Nat} {c:α},els.flatten[j]? =some c→∃ i k x,els[i]? =some x∧x[k]? =some c∧j=i * s+k
  | [],_,j,c,h=> by simp at h
  | x::els,hs,j,c,h=> by
    have hx:=hs x List.mem_cons_self
    rw[List.flatten_cons,List.getElem?_append]at h
    split at h
    · exact⟨0,j,x,rfl,h,by omega⟩
    · rename_i hge
      obtain⟨i,k,y,h1,h2,h3⟩:=flatten_get (fun x hx=> hs x (List.mem_cons_of_mem _ hx)) h
      refine⟨i+1,k,y,h1,h2,?_⟩
      have:(i+1) * s=i * s+s:=Nat.succ_mul i s
      omega
theorem flatten_bulk {H:Type}:∀ {els:List (List D)} {xs:List (DataW H×List MemPlace)},els.length=xs.length→(∀ (i:Nat) (x:List D) (w:DataW H×List MemPlace),els[i]? =some x→xs[i]? =some w→bulkL x≤bulkW w.1)→bulkL els.flatten≤bulkWs (xs.map (·.1))
  | [],xs,_,_=> by simp[bulkL]
  | x::els,[],h,_=> by simp at h
  | x::els,w::xs,hl,h=> by
    rw[List.flatten_cons,bulkL_append]
    simp only[List.map_cons,bulkWs]
    have h1:=h 0 x w rfl rfl
    have h2:=flatten_bulk (els:=els) (xs:=xs) (by simpa using hl) fun i a b ha hb=> h (i+1) a b (by simpa using ha) (by simpa using hb)
    omega
theorem mapM_all2 {α β:Type}{f:α→Option β}:∀ {l:List α} {r:List β},l.mapM f=some r→All2 (fun x y=> f x=some y) l r
  | [],r,h=> by simp at h;subst h;exact .nil
  | x::l,r,h=> by
    rw[List.mapM_cons]at h
    cases hx:f x with
    | none=> simp[hx]at h
    | some y=>
      cases hl:l.mapM f with
      | none=> simp[hx,hl]at h
      | some ys=>
        simp[hx,hl]at h
        subst h
        exact .cons hx (mapM_all2 hl)
section
variable {H:Type}{enc:TypeId×Value→H}{P:Program}{W:World}{sp:Nat→Bool}{L:Link}{I:Imm}
theorem addr_add_add {a:Addr}{i j:Nat}:(a.add i).add j=a.add (i+j):=by
  unfold Addr.add
  by_cases hj:j=0
  · subst hj;simp
  · by_cases hi:i=0
    · subst hi;simp
    · simp only[hj,hi,if_false,show i+j≠0 by omega]
      simp[Nat.add_assoc]
theorem cell_spot {a:Addr}{i:Nat}{x:Value}(h:W.cell? (a.add i)=some x):W.cell? ⟨a.block,a.off+i,none⟩=some x∧(i=0→a.spot=none):=by
  unfold Addr.add at h
  by_cases hi:i=0
  · subst hi
    simp only[if_true]at h
    have hs:a.spot=none:=by
      unfold World.cell? at h
      split at h
      · split at h
        · cases h
        · rename_i hh;simpa using hh
      · cases h
    refine⟨?_,fun _=> hs⟩
    obtain⟨b,o,s⟩:=a
    simp only at hs
    subst hs
    simpa using h
  · rw[if_neg hi]at h
    exact⟨h,fun e=> (hi e).elim⟩
theorem cells_get {a:Addr}{n:Nat}{cs:List Value}(h:W.cells? 0 a n=some cs):cs.length=n∧∀ (i:Nat) x,cs[i]? =some x→W.cell? (a.add i)=some x:=by
  unfold World.cells? at h
  rw[if_pos (Nat.zero_le _)]at h
  have hl:=mapM_some_length h
  refine⟨by simpa using hl,fun i x hx=> ?_⟩
  have hlt:=(List.getElem?_eq_some_iff.1 hx).1
  have:=mapM_some_get h i i (by rw[List.getElem?_range (by simpa[hl]using hlt)])
  rw[this,hx]
theorem all_append {l r:List Nat}{R:Nat}(h:(l++r).all (· ≤R)=true):l.all (· ≤R)=true∧r.all (· ≤R)=true:=by
  rw[List.all_append,Bool.and_eq_true]at h
  exact h
mutual
theorem read_ty (hI:∀ b o x,W.cell? ⟨b,o,none⟩=some x→I b o x):∀ {ty:Ty} {fuel:Nat} {t:TypeId} {cs:List Value} {d:DataW H} {ps:List MemPlace},tyOk P t ty=true→DataW.trod enc P W 0 sp true fuel t cs=some (d,ps)→(d.weights P t).all (· ≤reachBytes)=true→
    ∃ ds,All2 (RepD L I) ds cs∧Has ty ds∧bulkL ds≤bulkW d
  | .int k,fuel,t,cs,d,ps,hok,h,hw=> by
    cases fuel with
    | zero=> simp[DataW.trod]at h
    | succ fuel=>
      simp only[tyOk]at hok
      split at hok
      case h_2=> cases hok
      rename_i k' hu
      simp only[decide_eq_true_eq]at hok
      subst hok
      rw[DataW.trod.eq_def]at h
      simp only[hu]at h
      split at h <;> try (simp_all;done)
      rename_i k1 k2 n1 heq
      simp only[Option.some.injEq,TypeDesc.int.injEq]at heq
      subst heq
      split at h
      · rename_i hk
        obtain⟨rfl,hwf⟩:=hk
        simp only[Option.some.injEq,Prod.mk.injEq]at h
        obtain⟨rfl,rfl⟩:=h
        simp only[Lit.wf,Bool.and_eq_true,decide_eq_true_eq]at hwf
        exact⟨[.i k2 n1],.cons (by simp only[RepD]) .nil,by simp only[Has];exact⟨n1,rfl,hwf⟩,by simp[bulkL,bulkD,bulkW]⟩
      · cases h
  | .bool,fuel,t,cs,d,ps,hok,h,hw=> by
    cases fuel with
    | zero=> simp[DataW.trod]at h
    | succ fuel=>
      simp only[tyOk]at hok
      split at hok
      case h_2=> cases hok
      rename_i hu
      rw[DataW.trod.eq_def]at h
      simp only[hu]at h
      split at h <;> try (simp_all;done)
      rename_i b1 heq
      simp only[Option.some.injEq,Prod.mk.injEq]at h
      obtain⟨rfl,rfl⟩:=h
      exact⟨[.b b1],.cons (by simp only[RepD]) .nil,by simp only[Has];exact⟨b1,rfl⟩,by simp[bulkL,bulkD,bulkW]⟩
  | .str,fuel,t,cs,d,ps,hok,h,hw=> by
    cases fuel with
    | zero=> simp[DataW.trod]at h
    | succ fuel=>
      simp only[tyOk]at hok
      split at hok
      case h_2=> cases hok
      rename_i hu
      rw[DataW.trod.eq_def]at h
      simp only[hu]at h
      split at h <;> try (simp_all;done)
      split at h
      · rename_i s _ _
        simp only[Option.some.injEq,Prod.mk.injEq]at h
        obtain⟨rfl,rfl⟩:=h
        simp only[DataW.weights,List.all_cons,List.all_nil,Bool.and_true,decide_eq_true_eq]at hw
        refine⟨[.s s.data.toList],.cons (by simp[RepD]) .nil,by simp only[Has];exact⟨_,rfl,hw⟩,by simp[bulkL,bulkD,bulkW]⟩
      · cases h
  | .sl b e,fuel,t,cs,d,ps,hok,h,hw=> by
    cases fuel with
    | zero=> simp[DataW.trod]at h
    | succ fuel=>
      simp only[tyOk]at hok
      split at hok
      case h_2=> cases hok
      rename_i u hu
      simp only[Bool.and_eq_true,beq_iff_eq]at hok
      obtain⟨⟨hc,hb⟩,he⟩:=hok
      rw[DataW.trod.eq_def]at h
      simp only[hu]at h
      split at h <;> try (simp_all;done)
      · simp only[Option.some.injEq,Prod.mk.injEq]at h
        obtain⟨rfl,rfl⟩:=h
        refine⟨[.sl 0 false []],.cons ?_ .nil,by simp only[Has];exact⟨[],false,rfl,by simp,fun _=> rfl,by simp⟩,by simp[bulkL,bulkD,bulkW]⟩
        simp only[RepD]
        exact⟨none,0,rfl,Nat.le_refl _,rfl,fun _=> rfl,.inl trivial⟩
      · rename_i e' a len cap heq
        simp only[Option.some.injEq,TypeDesc.slice.injEq]at heq
        subst heq
        split at h
        case isFalse=> cases h
        rename_i hcap
        simp only[Option.bind_eq_some_iff]at h
        obtain⟨elems,helems,h⟩:=h
        simp only[Option.map_eq_some_iff,Prod.mk.injEq]at h
        obtain⟨rest,hrest,rfl,rfl⟩:=h
        simp only[DataW.weights,hu,List.all_cons,Bool.and_eq_true,decide_eq_true_eq,List.length_map]at hw
        obtain⟨hw1,hw2⟩:=hw
        obtain⟨hw2,_⟩:=all_append hw2
        have hlen:elems.length=len:=by simpa using mapM_some_length helems
        -- each element
        have hel:∀ i,i < len→∃ (x:DataW H×List MemPlace) (vs:List Value) (ds:List D),elems[i]? =some x∧W.cells? 0 (a.add (i * P.cellsOf u)) (P.cellsOf u)=some vs∧All2 (RepD L I) ds vs∧Has e ds∧bulkL ds≤bulkW x.1:=by
          intro i hi
          have hx:=mapM_some_get helems i i (List.getElem?_range hi)
          have hlt:i < elems.length:=by omega
          rw[List.getElem?_eq_getElem hlt]at hx
          simp only[Option.bind_eq_some_iff]at hx
          obtain⟨vs,hvs,hx⟩:=hx
          have hw3:(elems[i].1.weights P u).all (· ≤reachBytes)=true:=by
            rw[List.all_eq_true]at hw2 ⊢
            intro m hm
            exact hw2 m (weights_all_mem (ds:=elems.map (·.1)) (List.mem_map.2 ⟨elems[i],List.getElem_mem hlt,rfl⟩) hm)
          obtain⟨ds,h1,h2,h3⟩:=read_ty hI he hx hw3
          exact⟨elems[i],vs,ds,List.getElem?_eq_getElem hlt,hvs,h1,h2,h3⟩
        have hels:∃ els:List (List D),els.length=len∧∀ i x,els[i]? =some x→∃ (w:DataW H×List MemPlace) (vs:List Value),elems[i]? =some w∧W.cells? 0 (a.add (i * P.cellsOf u)) (P.cellsOf u)=some vs∧All2 (RepD L I) x vs∧Has e x∧bulkL x≤bulkW w.1:=by
          clear hw1 hw2 helems hlen hcap hrest
          revert hel
          induction len with
          | zero=> intro _;exact⟨[],rfl,fun i x hx=> by simp at hx⟩
          | succ n ih=>
            intro hel
            obtain⟨els,h1,h2⟩:=ih fun i hi=> hel i (by omega)
            obtain⟨w,vs,ds,k1,k2,k3,k4,k5⟩:=hel n (by omega)
            refine⟨els++ [ds],by simp[h1],fun i x hx=> ?_⟩
            rw[List.getElem?_append]at hx
            split at hx
            · exact h2 i x hx
            · rename_i hge
              have hi:i=n:=by
                have:=(List.getElem?_eq_some_iff.1 hx).1
                simp at this
                omega
              subst hi
              simp[h1]at hx
              subst hx
              exact⟨w,vs,k1,k2,k3,k4,k5⟩
        obtain⟨els,hl,hels⟩:=hels
        have hall:∀ x∈els,Has e x:=by
          intro x hx
          obtain⟨i,hi⟩:=List.getElem?_of_mem hx
          obtain⟨_,_,_,_,_,h,_⟩:=hels i x hi
          exact h
        refine⟨[.sl els.length true els.flatten],.cons ?_ .nil,?_,?_⟩
        · simp only[RepD]
          refine⟨some a,cap,by rw[hl],by rw[hl];exact hcap.2.1,rfl,fun h=> (by cases h),?_⟩
          have hcell:∀ j c,els.flatten[j]? =some c→∃ x,W.cell? (a.add j)=some x∧RepD L I c x:=by
            intro j c hj
            have hsz:∀ x∈els,x.length=e.size:=fun x hx=> (hall x hx).length
            obtain⟨i,k,x,hx,hk,rfl⟩:=flatten_get hsz hj
            obtain⟨w,vs,_,k2,k3,_,_⟩:=hels i x hx
            obtain⟨v,hv,hd⟩:=k3.get hk
            have:=(cells_get k2).2 k v hv
            rw[addr_add_add,hc]at this
            exact⟨v,this,hd⟩
          by_cases hnil:els.flatten= []
          · exact .inl hnil
          · refine .inr ⟨a.block,a.off,?_,RepL.of fun j c hj=> ?_⟩
            · obtain⟨c0,hc0⟩:∃ c,els.flatten[0]? =some c:=by
                cases hfl:els.flatten with
                | nil=> exact(hnil hfl).elim
                | cons c r=> exact⟨c,rfl⟩
              obtain⟨x,hx,_⟩:=hcell 0 c0 hc0
              have:=(cell_spot hx).2 rfl
              obtain⟨b,o,s⟩:=a
              simp only at this
              subst this
              rfl
            · obtain⟨x,hx,hd⟩:=hcell j c hj
              exact⟨x,hI _ _ _ (cell_spot hx).1,hd⟩
        · simp only[Has]
          refine⟨els,true,rfl,?_,fun h=> (by cases h),hall⟩
          rw[hl,← hb]
          refine Nat.le_trans ?_ hw1
          rw[hlen]
          exact Nat.mul_le_mul_right _ (by omega)
        · simp only[bulkL,bulkD,bulkW]
          have:bulkL els.flatten≤bulkWs (elems.map (·.1)):=by
            refine flatten_bulk (by rw[hl,hlen]) fun i x w hx hw=> ?_
            obtain⟨w',vs,k1,_,_,_,k5⟩:=hels i x hx
            rw[k1]at hw
            obtain rfl:=Option.some.inj hw
            exact k5
          omega
  | .agg fs,fuel,t,cs,d,ps,hok,h,hw=> by
    cases fuel with
    | zero=> simp[DataW.trod]at h
    | succ fuel=>
      simp only[tyOk]at hok
      split at hok
      case h_2=> cases hok
      rename_i gs hu
      simp only[Bool.and_eq_true,beq_iff_eq]at hok
      obtain⟨hc,he⟩:=hok
      rw[DataW.trod.eq_def]at h
      simp only[hu]at h
      split at h
      case isFalse=> cases h
      rename_i hlen
      simp only[Option.map_eq_some_iff,Prod.mk.injEq]at h
      obtain⟨xs,hxs,rfl,rfl⟩:=h
      simp only[DataW.weights,hu]at hw
      obtain⟨ds,h1,h2,h3⟩:=read_tys hI he (mapM_all2 hxs) hw (by rw[hlen,hc];omega)
      exact⟨ds,by simpa using h1,by simp only[Has];exact h2,by simp only[bulkW];omega⟩
theorem read_tys (hI:∀ b o x,W.cell? ⟨b,o,none⟩=some x→I b o x):∀ {tys:List Ty} {fuel off:Nat} {gs:List Field} {cs:List Value} {xs:List (DataW H×List MemPlace)},tyOks P off gs tys=true→
    All2 (fun(g:Field) x=> DataW.trod enc P W 0 sp true fuel g.type ((cs.drop g.offset).take (P.cellsOf g.type))=some x) gs xs→(DataW.weightsEach P (gs.map (·.type)) (xs.map (·.1))).all (· ≤reachBytes)=true→cs.length=off+Ty.sizes tys→
    ∃ ds,All2 (RepD L I) ds (cs.drop off)∧Hass tys ds∧bulkL ds≤bulkWs (xs.map (·.1))
  | [],fuel,off,gs,cs,xs,hok,ha,hw,hl=> by
    cases gs with
    | cons=> simp[tyOks]at hok
    | nil=>
      simp only[Ty.sizes,Nat.add_zero]at hl
      refine⟨[],?_,by simp only[Hass],by simp[bulkL]⟩
      rw[List.drop_eq_nil_of_le (by omega)]
      exact .nil
  | ty::tys,fuel,off,gs,cs,xs,hok,ha,hw,hl=> by
    cases gs with
    | nil=> simp[tyOks]at hok
    | cons g gs=>
      cases ha with
      | cons h1 h2=>
        rename_i x xs
        simp only[tyOks,Bool.and_eq_true,beq_iff_eq]at hok
        obtain⟨⟨⟨ho,hc⟩,ht⟩,hr⟩:=hok
        subst ho
        simp only[List.map_cons,DataW.weightsEach]at hw
        obtain⟨hw1,hw2⟩:=all_append hw
        simp only[Ty.sizes]at hl
        obtain⟨ds1,a1,a2,a3⟩:=read_ty hI ht (d:=x.1) (ps:=x.2) h1 hw1
        obtain⟨ds2,b1,b2,b3⟩:=read_tys hI (off:=g.offset+ty.size) hr h2 hw2 (by omega)
        refine⟨ds1++ds2,?_,by simp only[Hass];exact⟨ds1,ds2,rfl,a2,b2⟩,by rw[bulkL_append];simp only[List.map_cons,bulkWs];omega⟩
        have:cs.drop g.offset=(cs.drop g.offset).take ty.size++cs.drop (g.offset+ty.size):=by
          rw[← List.drop_drop,List.take_append_drop]
        rw[this]
        rw[hc]at a1
        exact a1.append b1
end
end
end Go.Sh
namespace Go.Sh
open Go.RowKit Go.ChangeShapes
def K.at0 (L:Link)(W:World):K:={L,w0:=W,w:=W,wr:=fun _ _=> False,ρ:= [],tk:= []}
section
variable {P:Program}{Pr:Prog}{L:Link}{W:World}
structure Globs (Pr:Prog)(L:Link)(W:World):Prop where
  g:∀ name cells,Pr.glob name=some cells→RepL L (K.at0 L W).imm cells (L.gl name) 0
  ok:∀ w',Below W.heap.size W w'→L.ok w'
theorem Inv.at0 (hg:Globs Pr L W):Inv Pr (K.at0 L W) st0:=
  ⟨Below.refl _ _,rfl,rfl,fun i j b h=> by simp[K.at0]at h,fun i b h=> by simp[K.at0]at h,fun id cs h=> by simp[St.row,st0]at h,fun id cs h=> by simp[St.mapOf,st0]at h,fun t tok h=> by simp[K.at0]at h,
    fun t t' tok tok' g h=> by simp[K.at0]at h,fun b o h=> h.elim,hg.g,hg.ok⟩
/-! ### Arguments -/
def Ty.isAgg:Ty→Bool
  | .agg _=> true
  | _=> false
def argV (t:Ty)(ds:List D):V:=if t.isAgg then .agg (ofDs ds) else .d (ds.headD .np)
def argVs:List Ty→List (List D)→List V
  | t::ts,d::ds=> argV t d::argVs ts ds
  | _,_=> []
def tysOk (P:Program):List TypeId→List Ty→Bool
  | [],[]=> true
  | t::ts,y::ys=> tyOk P t y && tysOk P ts ys
  | _,_=> false
theorem all2_ofDs {κ:K}{ds:List D}{vs:List Value}(h:All2 (RepD κ.L κ.imm) ds vs):All2 (RepC κ) (ofDs ds) vs:=by
  induction h with
  | nil=> exact .nil
  | cons h _ ih=> exact .cons h ih
theorem imm0 (L:Link)(W:World):∀ b o x,W.cell? ⟨b,o,none⟩=some x→(K.at0 L W).imm b o x:=fun b o x h=> ⟨h,fun h=> h⟩
variable {H:Type}{enc:TypeId×Value→H}{sp:Nat→Bool}{base:Nat}
theorem arg_rep {t:TypeId}{y:Ty}{v:Value}{d:DataW H}{ps:List MemPlace}(hok:tyOk P t y=true)(hv:Value.okWide P W .any base t v)(h:DataW.Trod enc P W 0 sp true t v d ps)(hw:(d.weights P t).all (· ≤reachBytes)=true):
    ∃ ds,Rep (K.at0 L W) (argV y ds) v∧Has y ds∧bulkL ds≤bulkW d:=by
  obtain⟨fuel,h⟩:=h
  obtain⟨ds,h1,h2,h3⟩:=read_ty (L:=L) (I:=(K.at0 L W).imm) (imm0 L W) hok h hw
  refine⟨ds,?_,h2,h3⟩
  have single:y.isAgg=false→(∀ cs,v≠ .agg cs)→Rep (K.at0 L W) (argV y ds) v:=by
    intro hy hne
    have hc:v.cells.toList= [v]:=by
      cases v <;> first | rfl | exact(hne _ rfl).elim
    rw[hc]at h1
    unfold argV
    rw[hy]
    cases h1 with
    | cons h1 h4=>
      cases h4
      exact h1
  cases y with
  | agg fs=>
    simp only[tyOk]at hok
    split at hok
    case h_2=> cases hok
    rename_i gs hu
    unfold Value.okWide at hv
    rw[hu]at hv
    simp only at hv
    obtain⟨cs,rfl,_⟩:=hv
    refine⟨cs.toList,by simp,?_⟩
    exact all2_ofDs h1
  | int k=>
    refine single rfl ?_
    rintro cs rfl
    simp only[tyOk]at hok
    split at hok
    case h_2=> cases hok
    rename_i hu
    simp[Value.okWide,Cell.okWide,Cell.ok,hu]at hv
  | bool=>
    refine single rfl ?_
    rintro cs rfl
    simp only[tyOk]at hok
    split at hok
    case h_2=> cases hok
    rename_i hu
    simp[Value.okWide,Cell.okWide,Cell.ok,hu]at hv
  | str=>
    refine single rfl ?_
    rintro cs rfl
    simp only[tyOk]at hok
    split at hok
    case h_2=> cases hok
    rename_i hu
    simp[Value.okWide,Cell.okWide,Cell.ok,hu]at hv
  | sl b e=>
    refine single rfl ?_
    rintro cs rfl
    simp only[tyOk]at hok
    split at hok
    case h_2=> cases hok
    rename_i hu
    simp[Value.okWide,Cell.okWide,Cell.ok,hu]at hv
theorem args_rep:∀ {ts:List TypeId} {ys:List Ty} {vs:List Value} {ds:List (DataW H)} {ps:List MemPlace},tysOk P ts ys=true→(∀ (j:Nat) t v,ts[j]? =some t→vs[j]? =some v→Value.okWide P W .any base t v)→
    DataW.TrodAll enc P W 0 sp true ts vs ds ps→(DataW.weightsEach P ts ds).all (· ≤reachBytes)=true→∃ dss,All2 (Rep (K.at0 L W)) (argVs ys dss) vs∧All2 Has ys dss∧bulkL dss.flatten≤bulkWs ds
  | [],ys,vs,ds,ps,hok,hv,h,hw=> by
    cases ys with
    | cons=> simp[tysOk]at hok
    | nil=>
      cases vs with
      | cons=> simp[DataW.TrodAll]at h
      | nil=> exact⟨[],.nil,.nil,by simp[bulkL]⟩
  | t::ts,ys,vs,ds,ps,hok,hv,h,hw=> by
    cases ys with
    | nil=> simp[tysOk]at hok
    | cons y ys=>
      simp only[tysOk,Bool.and_eq_true]at hok
      cases vs with
      | nil=> simp[DataW.TrodAll]at h
      | cons v vs=>
        cases ds with
        | nil=> simp[DataW.TrodAll]at h
        | cons d ds=>
          obtain⟨p,q,h1,h2,rfl⟩:=h
          simp only[DataW.weightsEach]at hw
          obtain⟨hw1,hw2⟩:=all_append hw
          obtain⟨a,a1,a2,a3⟩:=arg_rep (L:=L) hok.1 (hv 0 t v rfl rfl) h1 hw1
          obtain⟨dss,b1,b2,b3⟩:=args_rep hok.2 (fun j t v ht hv'=> hv (j+1) t v (by simpa using ht) (by simpa using hv')) h2 hw2
          exact⟨a::dss,.cons a1 b1,.cons a2 b2,by rw[List.flatten_cons,bulkL_append];simp only[bulkWs];omega⟩
theorem trodAll_below (hl:laidOutB P=true){W':World}(hb:Below W.heap.size W W'):∀ {ts:List TypeId} {vs:List Value} {ds:List (DataW H)} {ps:List MemPlace},(ts.all fun t=> P.readableRec t && decide (t < P.types.size))=true→
    DataW.TrodAll enc P W 0 (fun _=> true) true ts vs ds ps→DataW.TrodAll enc P W' 0 (fun b=> decide (b < W.heap.size)) true ts vs ds ps
  | [],vs,ds,ps,_,h=> by
    cases vs <;> cases ds <;> simp[DataW.TrodAll]at h ⊢
    exact h
  | t::ts,vs,ds,ps,hr,h=> by
    cases vs with
    | nil=> simp[DataW.TrodAll]at h
    | cons v vs=>
      cases ds with
      | nil=> simp[DataW.TrodAll]at h
      | cons d ds=>
        obtain⟨a,b,h1,h2,rfl⟩:=h
        simp only[List.all_cons,Bool.and_eq_true,decide_eq_true_eq]at hr
        refine⟨a,b,Below.trod hl hr.1.1 hr.1.2 h1 hb ?_,trodAll_below hl hb hr.2 h2,rfl⟩
        obtain⟨n,h1⟩:=h1
        exact DataW.trod_lt n _ _ _ h1
def SaysTrue (s:ChangeSpec)(n:Nat):Prop:=s.vars= []∧∀ (H:Type) (ds:List (DataW H)),ds.length=n→(s.fn H ds).results= [.lit (.bool true)]∧(s.fn H ds).args=ds∧(s.fn H ds).vars= []
theorem trodAll_length:∀ {ts:List TypeId} {vs:List Value} {ds:List (DataW H)} {ps:List MemPlace},DataW.TrodAll enc P W 0 sp true ts vs ds ps→ds.length=ts.length
  | [],vs,ds,ps,h=> by cases vs <;> cases ds <;> simp[DataW.TrodAll]at h ⊢
  | t::ts,vs,ds,ps,h=> by
    cases vs with
    | nil=> simp[DataW.TrodAll]at h
    | cons v vs=>
      cases ds with
      | nil=> simp[DataW.TrodAll]at h
      | cons d ds=>
        obtain⟨a,b,h1,h2,rfl⟩:=h
        simp[trodAll_length h2]
end
end Go.Sh
namespace Go.Sh
open Go.RowKit
def vwV (size:Nat)(st:St):V→Option (Nat×List V)
  | .rsl sz id off n _=> if sz=size then match st.row id with
    | some cs=> if off+n * size≤cs.length then some (n,(cs.drop off).take (n * size)) else none
    | none=> none
    else none
  | x=> (vw size st x).map fun p=> (p.1,ofDs p.2)
def appW (size bytes:Nat)(zero:List D)(st:St)(s x:V)(Q:V→St→Prop):Prop:=match s with
  | .rsl sz id off n cap=> sz=size∧∃ cs m ds,st.row id=some cs∧vwV size st x=some (m,ds)∧ds.length=m * size∧off+cap * size≤cs.length∧(n+m) * bytes≤140737488355328∧n+m≤140737488355328∧
      (n+m≤cap→m=0→Q (.rsl size id off n cap) st)∧
      (n+m≤cap→0 < m→∃ st',st.setBlk id (.row (lay cs (off+n * size) ds))=some st'∧Q (.rsl size id off (n+m) cap) st')∧
      (cap < n+m→∀ k,Q (.rsl size st.heap.length 0 (n+m) (n+m+k)) (st.push (.row ((cs.drop off).take (n * size)++ds++ofDs (reps k zero)))))
  | .d (.sl 0 false [])=> ∃ m ds,vwV size st x=some (m,ds)∧ds.length=m * size∧m * bytes≤140737488355328∧m≤140737488355328∧
   (m=0→Q (.d (.sl 0 false [])) st)∧(0 < m→∀ k,Q (.rsl size st.heap.length 0 m (m+k)) (st.push (.row (ds++ofDs (reps k zero)))))
  | _=> False
section
variable {P:Program}{Pr:Prog}{κ:K}{st st':St}
theorem srcV_cells (hi:Inv Pr κ st){size:Nat}{x:V}{m:Nat}{cs:List V}(h:vwV size st x=some (m,cs))(hlen:cs.length=m * size){vx:Value}(hx:Rep κ x vx):
    ∃ l,All2 (RepC κ) cs l∧(∀ P w,w.heap=κ.w.heap→(Builtin.lenOf vx).run P w= .ok m w∧(Builtin.firstCells size m vx).run P w= .ok l.toArray w)∧∀ v∈l,v.oneCell'=true:=by
  unfold vwV at h
  split at h
  · rename_i sz id off n cap
    split at h
    case isFalse=> cases h
    rename_i hsz
    subst hsz
    split at h
    case h_2=> cases h
    rename_i cs0 hrow
    split at h
    case isFalse=> cases h
    rename_i hfit
    simp only[Option.some.injEq,Prod.mk.injEq]at h
    obtain⟨rfl,rfl⟩:=h
    obtain⟨b,o,h1,rfl,hcap,ho⟩:=hx
    obtain⟨b',arr,e,h2,h3,h4,h5⟩:=hi.rows id cs0 hrow
    obtain rfl:b=b':=by rw[h1]at h2;exact Option.some.inj h2
    have ha:=(h4.drop off).take (n * sz)
    refine⟨_,ha,fun P w hw=> ⟨by simp[Builtin.lenOf],?_⟩,All2.one ha⟩
    have hll:=ha.length
    refine run_firstCells_some w sz n ⟨b,o,none⟩ n cap _ (by omega) (fun j v hj=> ?_)
    have hj':=(take_get hj).2
    have hjlt:=(take_get hj).1
    rw[List.getElem?_drop]at hj'
    rw[Addr.add_lit]
    have hoo:o=off:=by
      rcases ho with rfl | ho
      · have:n=0:=by omega
        subst this
        simp at hjlt
      · exact ho
    subst hoo
    rw[World.cell?_of_block (w:=κ.w) (by rw[hw]),cell_of_row κ.w b (o+j) arr e (0,0) h3]
    simpa using hj'
  · simp only[Option.map_eq_some_iff,Prod.mk.injEq]at h
    obtain⟨⟨n,ds⟩,h,rfl,rfl⟩:=h
    simp only[ofDs,List.length_map]at hlen
    obtain⟨l,ha,hr,ho⟩:=src_cells hi h hlen hx
    refine⟨l,all2_ofDs ha,fun P w hw=> ?_,ho⟩
    obtain⟨h1,h2⟩:=hr P w hw
    refine⟨h1,?_⟩
    have:=h2 n (Nat.le_refl _)
    rwa [List.take_of_length_le (by rw[← ha.length];omega)]at this
theorem zeroCells_reps {z:Array Value}{n:Nat}:(Builtin.zeroCells z n).toList=reps n z.toList:=by
  apply List.ext_getElem?
  intro j
  have hlen:(Builtin.zeroCells z n).size=n * z.size:=by simp[Builtin.zeroCells]
  rw[Array.getElem?_toList]
  by_cases hj:j < n * z.size
  · rw[reps_get (by simpa using hj)]
    have hpos:0 < z.size:=by
      rcases Nat.eq_zero_or_pos z.size with h | h
      · rw[h]at hj;omega
      · exact h
    have hmod:j % z.size < z.size:=Nat.mod_lt _ hpos
    simp[Builtin.zeroCells,hj,getElem!_pos,hmod]
  · rw[Array.getElem?_eq_none (by omega),List.getElem?_eq_none (by rw[reps_len];simpa using hj)]
theorem appR_mem (hi:Inv Pr κ st){T U ty e:TypeId}{size bytes:Nat}{zero:List D}(hu:P.underlying T=some (.slice e))(hxt:∃ d,P.underlying U=some d∧∀ k,d≠ .int k)(hz:zeroIs P e zero=true)(hs:szIs P e size=true)
    (hby:bytesIs P e bytes=true) {s x:V} {Q:V→St→Prop} (h:appW size bytes zero st s x Q) {vs vx:Value} (rs:Rep κ s vs) (rx:Rep κ x vx):
    ∃ r st',Mem P Pr κ st' r (Builtin.append_ #[T,U] ty #[vs,vx])∧Fl st st'∧Q r st':=by
  obtain⟨d,hd,hdk⟩:=hxt
  have hdf:(match d with | .int _=> true | _=> false)=false:=by
    cases d <;> first | rfl | exact absurd rfl (hdk _)
  obtain⟨i,zv,z1,z2,z3,z4⟩:=zeroIs_spec hz
  have hsz:i.size=size:=by
    have:=run_sizeOf (w:=κ.w) hs
    unfold szIs at hs
    rw[z1]at hs
    simpa using hs
  have hb:i.bytes=bytes:=by
    unfold bytesIs at hby
    rw[z1]at hby
    simpa using hby
  subst hb
  have hzr:∀ k,All2 (RepC κ) (ofDs (reps k zero)) (Builtin.zeroCells zv.cells k).toList:=fun k=> by
    rw[zeroCells_reps]
    exact ofDs_rep (reps_cells (okDs_rep z3) k)
  -- a new row
  have fresh:∀ (cs:List V) (l:List Value) (n cap:Nat) (v:Value),All2 (RepC κ) cs l→n≤cap→v= .slice (some ⟨κ.w.heap.size,0,none⟩) n cap→
   (Builtin.append_ #[T,U] ty #[vs,vx]).run P κ.w= .ok v (κ.w.drew.alloc (.cells l.toArray e))→Mem P Pr κ (st.push (.row cs)) (.rsl size st.heap.length 0 n cap) (Builtin.append_ #[T,U] ty #[vs,vx]):=by
    intro cs l n cap v ha hn hv hr
    obtain⟨g1,g2⟩:=hi.grow (w':=κ.w.drew) (grownBy_heap rfl rfl rfl rfl)
    obtain⟨k1,k2⟩:=g2.pushI (.cells l.toArray e) (.row cs) ⟨_,_,rfl,by simpa using ha.mono fun _ _=> RepC.mono g1⟩
    subst hv
    refine⟨_,_,hr,g1.trans k1,k2,κ.w.heap.size,0,?_,rfl,hn,.inr rfl⟩
    rw[← hi.len]
    exact push_last (κ.to κ.w.drew) _
  unfold appW at h
  split at h
  · rename_i sz id off n cap
    obtain⟨rfl,cs,m,ds,hrow,hvw,hlen,hcl,hbytes,h47,q1,q2,q3⟩:=h
    obtain⟨l,ha,hrun,hone⟩:=srcV_cells hi hvw hlen rx
    obtain⟨b,o,h1,rfl,hcap,ho⟩:=rs
    obtain⟨b',arr,e0,h2,h3,h4,h5⟩:=hi.rows id cs hrow
    obtain rfl:b=b':=by rw[h1]at h2;exact Option.some.inj h2
    have hll:=ha.length
    have hlen4:=h4.length
    obtain⟨hr1,hr2⟩:=hrun P κ.w rfl
    have hn64:n+m≤9223372036854775807:=by omega
    by_cases hroom:n+m≤cap
    · rcases Nat.eq_zero_or_pos m with hm | hm
      · subst hm
        refine⟨.rsl sz id off n cap,_,⟨κ,.slice (some ⟨b,o,none⟩) n cap,?_,K.le.refl _,hi,b,o,h1,rfl,hcap,ho⟩,Fl.refl _,q1 hroom rfl⟩
        have hl0:l= []:=List.eq_nil_of_length_eq_zero (by rw[← hll,hlen];omega)
        subst hl0
        have hroom':n≤cap:=hcap
        simp[Builtin.append_,run_underlying hu,run_underlying hd,hdf,sizeOf,typeInfo,z1,hr1,hroom',hsz,hr2,storeCells]
      · obtain⟨st',hst,hQ⟩:=q2 hroom hm
        have hoo:o=off:=by
          rcases ho with rfl | ho
          · omega
          · exact ho
        subst hoo
        have hmul:(n+m) * sz≤cap * sz:=Nat.mul_le_mul_right _ hroom
        rw[Nat.add_mul]at hmul
        obtain⟨κ',w1,w2,w3⟩:=write_at (P:=P) (off:=o+n * sz) hi hrow h1 h3 h4 h5 (l:=l) ha (by omega) hst
        refine⟨.rsl sz id o (n+m) cap,_,⟨κ',.slice (some ⟨b,o,none⟩) (n+m) cap,?_,w2,w3,b,o,w2.ρ _ _ h1,rfl,hroom,.inr rfl⟩,Fl.setBlk hst,hQ⟩
        have hadd:(⟨b,o,none⟩:Addr).add (n * sz)=⟨b,o+n * sz,none⟩:=Addr.add_lit _ _ _
        simp[Builtin.append_,run_underlying hu,run_underlying hd,hdf,sizeOf,typeInfo,z1,hr1,hroom,hsz,hr2,hadd,w1]
    · have hge:=grownCap_ge κ.w (n+m) cap e
      obtain⟨k,hk⟩:∃ k,grownCap κ.w (n+m) cap e=n+m+k:=⟨grownCap κ.w (n+m) cap e - (n+m),by omega⟩
      refine⟨_,_,?_,Fl.push _ _,q3 (by omega) k⟩
      have hmul:n * sz≤cap * sz:=Nat.mul_le_mul_right _ hcap
      have hold:=(h4.drop off).take (n * sz)
      have hol:=hold.length
      simp only[List.length_take,List.length_drop]at hol
      refine fresh _ ((arr.toList.drop off).take (n * sz)++l++(Builtin.zeroCells zv.cells k).toList) (n+m) (n+m+k) _ ((hold.append ha).append (hzr k)) (by omega) rfl ?_
      have h63':¬ (9223372036854775807 < ((n:Int)+(m:Int))):=by omega
      have hfit:=growslice_fits (need:=n+m) (old:=cap) (bytes:=i.bytes) (by omega) hbytes
      have h48':¬ (281474976710656 < Builtin.nextslicecap (n+m) cap * i.bytes):=by omega
      have hsd:=(hrun P κ.w.drew rfl).2
      have hfo:(Builtin.firstCells sz n (.slice (some ⟨b,o,none⟩) n cap)).run P κ.w.drew= .ok ((arr.toList.drop off).take (n * sz)).toArray κ.w.drew:=by
        refine run_firstCells_some κ.w.drew sz n ⟨b,o,none⟩ n cap _ (by simp only[List.length_take,List.length_drop];omega) (fun j v hj=> ?_)
        have hj':=(take_get hj).2
        have hjlt:=(take_get hj).1
        rw[List.getElem?_drop]at hj'
        rw[Addr.add_lit]
        have hoo:o=off:=by
          rcases ho with rfl | ho
          · have:n=0:=by omega
            subst this
            simp at hjlt
          · exact ho
        subst hoo
        show κ.w.cell? ⟨b,o+j,none⟩=_
        rw[cell_of_row κ.w b (o+j) arr e0 (0,0) h3]
        simpa using hj'
      have hgc:(grownCap κ.w (n+m) cap e) - (n+m)=k:=by omega
      simp only[grownCap]at hk hgc
      simp[Builtin.append_,run_underlying hu,run_underlying hd,hdf,sizeOf,typeInfo,zeroValue,z1,z2,hr1,hroom,h63',h48',Question.forced,hsz,hfo,hsd,newRow]
      first
        | (refine⟨hk,?_⟩;rw[hgc];congr 2;apply Array.ext';simp[List.append_assoc])
        | (rw[hgc,hk];congr 2;apply Array.ext';simp[List.append_assoc])
  · obtain⟨m,ds,hvw,hlen,hbytes,h47,q1,q2⟩:=h
    obtain⟨l,ha,hrun,hone⟩:=srcV_cells hi hvw hlen rx
    obtain⟨hr1,hr2⟩:=hrun P κ.w rfl
    have hll:=ha.length
    have hvs:vs= .slice none 0 0:=by
      have rs:RepD _ _ _ _:=rs
      simp only[RepD]at rs
      obtain⟨A,cap,hv,_,hn,hc,_⟩:=rs
      cases A with
      | none=> rw[hv,hc rfl]
      | some a=> cases hn
    subst hvs
    rcases Nat.eq_zero_or_pos m with hm | hm
    · subst hm
      refine⟨_,_,⟨κ,.slice none 0 0,?_,K.le.refl _,hi,rs⟩,Fl.refl _,q1 rfl⟩
      have hl0:l= []:=List.eq_nil_of_length_eq_zero (by rw[← hll,hlen];omega)
      subst hl0
      simp[Builtin.append_,run_underlying hu,run_underlying hd,hdf,sizeOf,typeInfo,z1,hr1,hsz,hr2]
    · have hge:=grownCap_ge κ.w m 0 e
      obtain⟨k,hk⟩:∃ k,grownCap κ.w m 0 e=m+k:=⟨grownCap κ.w m 0 e - m,by omega⟩
      refine⟨_,_,?_,Fl.push _ _,q2 hm k⟩
      refine fresh _ (l++(Builtin.zeroCells zv.cells k).toList) m (m+k) _ (ha.append (hzr k)) (by omega) rfl ?_
      have hn:m≠0:=by omega
      have h63':¬ (9223372036854775807 < (m:Int)):=by omega
      have hnx:Builtin.nextslicecap m 0=m:=nextslicecap_zero (by omega)
      have h48':¬ (281474976710656 < Builtin.nextslicecap m 0 * i.bytes):=by rw[hnx];omega
      have hsd:=(hrun P κ.w.drew rfl).2
      have hgc:(grownCap κ.w m 0 e) - m=k:=by omega
      simp only[grownCap]at hk hgc
      simp[Builtin.append_,run_underlying hu,run_underlying hd,hdf,sizeOf,typeInfo,zeroValue,z1,z2,hr1,hn,h63',h48',Question.forced,run_firstCells_none,hsz,hsd,newRow]
      first
        | (refine⟨hk,?_⟩;rw[hgc];congr 2;apply Array.ext';simp[List.append_assoc])
        | (rw[hgc,hk];congr 2;apply Array.ext';simp[List.append_assoc])
  · exact h.elim
end
end Go.Sh
namespace Go.Sh
open Go.RowKit
structure Tie (P:Program)(Pr:Prog)(L:Link):Prop where
  m:P.follows .mixedOrders=true
  t:Tied P Pr L
def Ends (Pr:Prog)(κ:K)(st:St)(Q:V→St→Prop)(e:Ending)(w':World):Prop:=
  ∃ κ' v r st',κ'.w=w'∧e= .returned v∧κ.le κ'∧Inv Pr κ' st'∧Rep κ' r v∧Fl st st'∧Q r st'
def CallW (Pr:Prog)(f:Nat)(args:List V)(st:St)(Q:V→St→Prop):Prop:=
  ∀ (P:Program) (L:Link),Tie P Pr L→∀ (κ:K) (vals:List Value),κ.L=L→Inv Pr κ st→All2 (Rep κ) args vals→Calls P (L.fn f) vals.toArray κ.w (Ends Pr κ st Q)
def PostW (Pr:Prog)(n:Nat)(κ:K)(a:Act)(st:St)(Q:Out→Prop)(R:Exit→Act→World→Prop):Prop:=
  ∀ r κ' a',Q r→Fl st r.2.2→κ.le κ'→Inv Pr κ' r.2.2→ERel κ' r.2.1 a'→a'.tmps.size=n→a'.defers=a.defers→R r.1.to a' κ'.w
def CodeW (Pr:Prog)(c:SCode)(e:Env)(st:St)(Q:Out→Prop):Prop:=
  ∀ (P:Program) (L:Link),Tie P Pr L→∀ (n:Nat) (code:Code),okCode P Pr L n c code=true→∀ (κ:K) (a:Act) (R:Exit→Act→World→Prop),κ.L=L→Inv Pr κ st→ERel κ e a→a.tmps.size=n→
    PostW Pr n κ a st Q R→code.wp P R a κ.w
section
variable {Pr:Prog}{e:Env}{st:St}{Q Q':Out→Prop}
theorem CallW.mono {f:Nat}{args:List V}{Q Q':V→St→Prop}(h:CallW Pr f args st Q)(hq:∀ v st',Q v st'→Q' v st'):CallW Pr f args st Q':=by
  intro P L ht κ vals hL hi ha
  refine(h P L ht κ vals hL hi ha).mono ?_
  rintro e w' ⟨κ',v,r,st',h1,h2,h3,h4,h5,h6,h7⟩
  exact⟨κ',v,r,st',h1,h2,h3,h4,h5,h6,hq _ _ h7⟩
theorem CodeW.mono {c:SCode}(h:CodeW Pr c e st Q)(hq:∀ r,Q r→Q' r):CodeW Pr c e st Q':=by
  intro P L ht n code hok κ a R hL hi hE hn hR
  exact h P L ht n code hok κ a R hL hi hE hn fun r κ' a' q=> hR r κ' a' (hq r q)
theorem CallW.of_den {f:Nat}{args:List V}{Q:V→St→Prop}{r:V}{st':St}(h:den Pr f args st=some (r,st'))(hQ:Q r st'):CallW Pr f args st Q:=by
  intro P L ht κ vals hL hi ha
  obtain⟨k,h⟩:=den_iff.1 h
  subst hL
  refine(runF_sound ht.m ht.t k κ st f args vals r st' rfl hi ha h).mono ?_
  rintro e w' ⟨κ',v,h1,h2,h3,h4,h5⟩
  exact⟨κ',v,r,st',h1,h2,h3,h4,h5,runF_fl k _ _ _ _ _ h,hQ⟩
theorem CodeW.of_cden {c:SCode}{r:Out}(h:cden Pr c e st=some r)(hQ:Q r):CodeW Pr c e st Q:=by
  intro P L ht n code hok κ a R hL hi hE hn hR
  obtain⟨k,h⟩:=cden_iff.1 h
  refine code_sound (runF_sound ht.m ht.t k) (runF_pure k) (runF_fl k) ht.m c hL hok hi hE hn h ?_
  intro κ' a' k1 k2 k3 k4 k5
  exact hR r κ' a' hQ (codeS_fl (runF_fl k) k c _ _ _ _ _ h) k1 k2 k3 k4 k5
theorem CodeW.skip (h:Q (.normal,e,st)):CodeW Pr .skip e st Q:= .of_cden cden_skip h
theorem CodeW.ret (h:Q (.ret,e,st)):CodeW Pr .ret e st Q:= .of_cden cden_ret h
theorem CodeW.exit {i:Nat}(h:Q (.exit i,e,st)):CodeW Pr (.exit i) e st Q:= .of_cden cden_exit h
theorem CodeW.keep {live:List Nat}{c:SCode}(h:CodeW Pr c (mask live e) st Q):CodeW Pr (.keep live c) e st Q:=by
  intro P L ht n code hok κ a R hL hi hE hn hR
  simp only[okCode]at hok
  exact h P L ht n code hok κ a R hL hi (fun i v hv=> hE i v (mask_get hv).2) hn hR
def Seq (Pr:Prog)(b:SCode)(Q:Out→Prop)(r:Out):Prop:=match r with
  | (.normal,e',st')=> CodeW Pr b e' st' Q
  | r=> Q r
theorem CodeW.seq {x y:SCode}(h:CodeW Pr x e st (Seq Pr y Q)):CodeW Pr (.seq x y) e st Q:=by
  intro P L ht n code hok κ a R hL hi hE hn hR
  simp only[okCode]at hok
  split at hok
  case h_2=> cases hok
  simp only[Bool.and_eq_true]at hok
  refine wp_seq (h P L ht n _ hok.1 κ a _ hL hi hE hn ?_)
  rintro⟨x,e1,s1⟩ κ' a' hq k0 k1 k2 k3 k4 k5
  cases x with
  | normal=>
    refine hq P L ht n _ hok.2 κ' a' R (k1.L.trans hL) k2 k3 k4 ?_
    intro r κ2 a2 q m0 m1 m2 m3 m4 m5
    exact hR r κ2 a2 q (k0.trans m0) (k1.trans m1) m2 m3 m4 (m5.trans k5)
  | exit i=> exact hR (.exit i,e1,s1) κ' a' hq k0 k1 k2 k3 k4 k5
  | ret=> exact hR (.ret,e1,s1) κ' a' hq k0 k1 k2 k3 k4 k5
theorem CodeW.cond {o:Opd}{x y:SCode}(h:∃ t,o.ev Pr e=some (.d (.b t))∧(t=true→CodeW Pr x e st Q)∧(t=false→CodeW Pr y e st Q)):CodeW Pr (.cond o x y) e st Q:=by
  obtain⟨t,ho,h1,h2⟩:=h
  intro P L ht n code hok κ a R hL hi hE hn hR
  simp only[okCode]at hok
  split at hok
  case h_2=> cases hok
  simp only[Bool.and_eq_true]at hok
  have:=opd_sound hi hE (hL ▸ hok.1.1) ho
  cases t with
  | true=> exact wp_cond_true this (h1 rfl P L ht n _ hok.1.2 κ a R hL hi hE hn hR)
  | false=> exact wp_cond_false this (h2 rfl P L ht n _ hok.2 κ a R hL hi hE hn hR)
def InBlock (i:Nat)(Q:Out→Prop)(r:Out):Prop:=match r with
  | (.exit j,e',st')=> if j=i then Q (.normal,e',st') else Q (.exit j,e',st')
  | r=> Q r
theorem CodeW.block {i:Nat}{x:SCode}(h:CodeW Pr x e st (InBlock i Q)):CodeW Pr (.block i x) e st Q:=by
  intro P L ht n code hok κ a R hL hi hE hn hR
  simp only[okCode]at hok
  split at hok
  case h_2=> cases hok
  simp only[Bool.and_eq_true,beq_iff_eq]at hok
  obtain⟨rfl,hok⟩:=hok
  refine wp_block (h P L ht n _ hok κ a _ hL hi hE hn ?_)
  rintro⟨x,e1,s1⟩ κ' a' hq k0 k1 k2 k3 k4 k5
  cases x with
  | normal=> exact hR (.normal,e1,s1) κ' a' hq k0 k1 k2 k3 k4 k5
  | exit j=>
    show Exit.inBlock _ R (.exit j) a' κ'.w
    unfold Exit.inBlock
    unfold InBlock at hq
    simp only at hq
    split at hq
    · rename_i hj
      simp only[hj,if_true]
      exact hR (.normal,e1,s1) κ' a' hq k0 k1 k2 k3 k4 k5
    · rename_i hj
      simp only[hj,if_false]
      exact hR (.exit j,e1,s1) κ' a' hq k0 k1 k2 k3 k4 k5
  | ret=> exact hR (.ret,e1,s1) κ' a' hq k0 k1 k2 k3 k4 k5
theorem rounds_mono {P:Program}{c:Code}{R:Exit→Act→World→Prop}:∀ {k k':Nat},k≤k'→∀ {a:Act} {w:World},Code.rounds P c R k a w→Code.rounds P c R k' a w
  | 0,_,_,a,w,h=> h.elim
  | k+1,0,hk,_,_,_=> by omega
  | k+1,k'+1,hk,a,w,h=> by
    rw[rounds_succ]at h ⊢
    refine wp_mono h ?_
    intro x a w hx
    cases x with
    | normal=> exact rounds_mono (by omega) hx
    | _=> exact hx
def Round (I:Nat→Env→St→Prop)(n:Nat)(Q:Out→Prop)(r:Out):Prop:=match r with
  | (.normal,e',st')=> ∃ m,m < n∧I m e' st'
  | r=> Q r
theorem cutR_fl {tr:Bool}{r:Out}(h:Fl (enterR st tr) r.2.2):Fl st (cutR st tr r).2.2:=by
  unfold cutR
  cases tr with
  | false=> exact h
  | true=>
    refine⟨rfl,rfl,Nat.le_refl _,?_,fun _ _ _=> rfl,fun t h1 h2=> ?_⟩
    · have:=h.tlen
      simp only[if_true,List.length_take]at this ⊢
      unfold enterR at this
      simp only[if_true]at this
      omega
    · have:=h.tips t h1 h2
      simp only[if_true]
      rw[List.getElem?_take,if_pos h2]
      exact this
theorem cutR_ex {tr:Bool}{r:Out}:(cutR st tr r).1=r.1:=by
  unfold cutR
  cases tr <;> rfl
theorem CodeW.loop {live:List Nat}{tr:Bool}{c:SCode}(I:Nat→Env→St→Prop)(hI:∀ n e st,I n e st→CodeW Pr c (mask live e) (enterR st tr) (fun r=> Round I n Q (cutR st tr r))){n:Nat}(h:I n e st):CodeW Pr (.loop live tr c) e st Q:=by
  intro P L ht N code hok κ a R hL hi hE hn hR
  simp only[okCode]at hok
  split at hok
  case h_2=> cases hok
  rename_i code'
  refine wp_loop_rounds (n+1) ?_
  induction n using Nat.strongRecOn generalizing e st κ a with
  | ind n ih=>
    rw[rounds_succ]
    have hEm:ERel κ (mask live e) a:=fun i v hv=> hE i v (mask_get hv).2
    have hi':Inv Pr κ (enterR st tr):=by
      unfold enterR
      split
      · exact hi.floor
      · exact hi
    refine hI n e st h P L ht N code' hok κ a _ hL hi' hEm hn ?_
    rintro r κ' a' hq k0 k1 k2 k3 k4 k5
    have hfl:=cutR_fl k0
    -- behind the cut
    obtain⟨κ2,w2,m1,m2,m3⟩:∃ κ2:K,κ2.w=κ'.w∧κ.le κ2∧Inv Pr κ2 (cutR st tr r).2.2∧ERel κ2 (cutR st tr r).2.1 a':=by
      cases tr with
      | false=> exact⟨κ',rfl,k1,k2,k3⟩
      | true=>
        have hh:=cut_heap (s:=r.2.2) (a:=st) (by simpa[enterR]using k0)
        obtain⟨m1,m2⟩:=Inv.cut hi k1 k2 hh (f:=st.floor) (tf:=st.tfloor)
        refine⟨κ'.cut st.heap.length st.tips.length,rfl,m1,m2,?_⟩
        intro i v hv
        obtain⟨u,hu,hv⟩:=escEnv_get hv
        obtain⟨q1,q2⟩:=k3 i u hu
        exact⟨q1,Rep.of1 (esc1_rep k2 hv (Rep.to1 q2 (esc1_tup hv)))⟩
    rw[← w2]
    have hex:=cutR_ex (st:=st) (tr:=tr) (r:=r)
    generalize hr':cutR st tr r=r' at hq m2 m3 hfl hex
    obtain⟨x,e1,s1⟩:=r'
    simp only at hex
    rw[← hex]
    cases x with
    | normal=>
      obtain⟨m,hm,hIm⟩:=hq
      refine rounds_mono (k:=m+1) (by omega) (ih m hm hIm κ2 a' (m1.L.trans hL) m2 m3 k4 ?_)
      intro r κ3 a3 q b0 b1 b2 b3 b4 b5
      exact hR r κ3 a3 q (hfl.trans b0) (m1.trans b1) b2 b3 b4 (b5.trans k5)
    | exit i=> exact hR (.exit i,e1,s1) κ2 a' hq hfl m1 m2 m3 k4 k5
    | ret=> exact hR (.ret,e1,s1) κ2 a' hq hfl m1 m2 m3 k4 k5
/-! ### Regions in the order of the text -/
def opArgs (Pr:Prog)(e:Env):SOp→Option (Nat×List V)
  | .call f args=> (evs Pr e args).map fun vs=> (f,vs)
  | .invoke table r args=> match r.ev Pr e with
    | some (.d (.ifc tag agg ds))=> match table.lookup tag,mkV agg (ofDs ds),evs Pr e args with
      | some f,some v,some vs=> some (f,v::vs)
      | _,_,_=> none
    | _=> none
  | _=> none
def OpW (Pr:Prog)(e:Env)(st:St)(o:SOp)(Q:V→St→Prop):Prop:=match o with
  | .appR size bytes z s x=> match s.ev Pr e,x.ev Pr e with
    | some vs,some vx=> appW size bytes z st vs vx Q
    | _,_=> False
  | .call f args=> match evs Pr e args with
    | some vs=> CallW Pr f vs st Q
    | none=> False
  | .invoke t r args=> match opArgs Pr e (.invoke t r args) with
    | some (f,vs)=> CallW Pr f vs st Q
    | none=> False
  | o=> match opS Pr (den Pr) e st o with
    | some (v,st')=> Q v st'
    | none=> False
def OpsW (Pr:Prog)(all:List SOper):List SOper→Env→St→(Env→St→Prop)→Prop
  | [],e,st,Q=> Q e st
  | o::r,e,st,Q=> match wants all e o.guard with
    | some true=> OpW Pr e st o.op fun v st'=> OpsW Pr all r (put e o.dst v) st' Q
    | some false=> OpsW Pr all r (put e o.dst .un) st Q
    | none=> False
theorem opW_sound {P:Program}{L:Link}(ht:Tie P Pr L){κ:K}(hL:κ.L=L)(hi:Inv Pr κ st){a:Act}(hE:ERel κ e a){o:Oper}{s:SOp}(hok:okOp P L o.op s=true){Q:V→St→Prop}(h:OpW Pr e st s Q)
    {next:Act→World→Prop} {R:Exit→Act→World→Prop} (hn:∀ κ' v x st',κ.le κ'→Inv Pr κ' st'→Rep κ' x v→Fl st st'→Q x st'→next (a.put o.dst v) κ'.w):o.wp P a κ.w next R:=by
  subst hL
  have hcall:∀ f vs vals,CallW Pr f vs st Q→All2 (Rep κ) vs vals→(execOp a.eval o).run P κ.w= .ok (.enter (κ.L.fn f) vals.toArray) κ.w→o.wp P a κ.w next R:=by
    intro f vs vals hc ha he
    unfold Oper.wp
    rw[he,Oper.upon_enter]
    refine(hc P κ.L ht κ vals rfl hi ha).mono ?_
    rintro e w' ⟨κ',v,r,st',rfl,rfl,h1,h2,h3,h4,h5⟩
    exact hn κ' v r st' h1 h2 h3 h4 h5
  have hother:∀ {v:V} {st':St},opS Pr (den Pr) e st s=some (v,st')→Q v st'→o.wp P a κ.w next R:=by
    intro v st' hrun hQ
    obtain⟨k,hrun⟩:=den_runF hrun
    refine op_sound (runF_sound ht.m ht.t k) hi hE hok hrun ?_
    intro κ' u k1 k2 k3
    exact hn κ' u v st' k1 k2 k3 (opS_fl (runF_fl k) hrun) hQ
  obtain⟨dst,guard,op,type,pos,after⟩:True∧True∧True∧True∧True∧True:=⟨trivial,trivial,trivial,trivial,trivial,trivial⟩
  cases s <;> simp only[OpW]at h
  case appR size bytes z y x=>
    split at h
    case h_2=> exact h.elim
    rename_i vy vx hy hx
    obtain⟨odst,oop,oty,opos,oaf,ogu⟩:=o
    simp only[okOp]at hok
    split at hok
    case h_2=> cases hok
    rename_i a' b' t u
    simp only[Bool.and_eq_true]at hok
    obtain⟨⟨⟨o1,o2⟩,o3⟩,o4⟩:=hok
    obtain⟨el,hu,he⟩:=elemOk_spec o1
    simp only[Bool.and_eq_true]at he
    have hxt:∃ d,P.underlying u=some d∧∀ k,d≠ .int k:=by
      unfold appSrc at o2
      split at o2
      · rename_i hq;exact⟨_,hq,by simp⟩
      · rename_i hq;exact⟨_,hq,by simp⟩
      · cases o2
    obtain⟨r,st',hm,hf,hq⟩:=appR_mem (ty:=oty) hi hu hxt he.1.1 he.1.2 he.2 h (opd_sound hi hE o3 hy) (opd_sound hi hE o4 hx)
    refine wp_mem' (s:=Builtin.append_ #[t,u] oty #[a.eval a',a.eval b']) (by simp[execOp,resolve,invoke,builtin]) hm ?_
    intro κ' v k1 k2 k3
    exact hn κ' v r st' k1 k2 k3 hf hq
  case call f args=>
    split at h
    case h_2=> exact h.elim
    rename_i vs hvs
    have hc:=h
    obtain⟨odst,oop,oty,opos,oaf,ogu⟩:=o
    simp only[okOp]at hok
    split at hok
    case h_2=> cases hok
    rename_i g as at'
    simp only[Bool.and_eq_true,beq_iff_eq]at hok
    obtain⟨⟨rfl,o1⟩,o2⟩:=hok
    refine hcall f vs _ hc (opds_sound hi hE o2 hvs) ?_
    have harr:Array.map a.eval as=(List.map a.eval as.toList).toArray:=by rw[← Array.toList_map,Array.toArray_toList]
    simp[execOp,resolve,Deferred.ofValue,Act.eval,invoke,okCall_run o1]
    exact harr
  case invoke table r args=>
    split at h
    case h_2=> exact h.elim
    rename_i f vs0 harg
    have hc:=h
    obtain⟨odst,oop,oty,opos,oaf,ogu⟩:=o
    unfold opArgs at harg
    simp only at harg
    split at harg
    case h_2=> cases harg
    rename_i tag agg ds hr
    split at harg
    case h_2=> cases harg
    rename_i f' v vs hf hv hvs
    simp only[Option.some.injEq,Prod.mk.injEq]at harg
    obtain⟨rfl,rfl⟩:=harg
    simp only[okOp]at hok
    split at hok
    case h_2=> cases hok
    rename_i a' name as at'
    simp only[Bool.and_eq_true]at hok
    obtain⟨⟨o1,o2⟩,o3⟩:=hok
    obtain⟨m1,m2⟩:=okTable_spec o2 hf
    have hrr:RepD _ _ _ _:=opd_sound hi hE o1 hr
    simp only[RepD]at hrr
    obtain⟨l,h1,h2,h3⟩:=hrr
    have hrecv:=mkV_rep hv (ofDs_rep (RepA.all2.1 h3))
    refine hcall f' (v::vs) _ hc (.cons (Rep.of1 hrecv) (opds_sound hi hE o3 hvs)) ?_
    have hpos:0 < Made.depth:=by decide
    obtain⟨n,hn'⟩:∃ n,P.types.size+Made.depth=n+1:=⟨P.types.size+Made.depth - 1,by omega⟩
    have hext:∀ (x:Value) (l:List Value),((#[x]++l.toArray).extract 1 (#[x]++l.toArray).size)=l.toArray:=fun x l=> by simp
    have harr:Array.map a.eval as=(List.map a.eval as.toList).toArray:=by rw[← Array.toList_map,Array.toArray_toList]
    simp[execOp,resolve,invoke,h1,callMethod,hn',run_method_plain m1,okCall_run m2,harr]
    exact List.take_of_length_le (by simp)
  all_goals
    (split at h
     case h_2=> exact h.elim
     rename_i v st' hrun
     exact hother hrun h)
theorem opsW_sound {P:Program}{L:Link}(ht:Tie P Pr L){n:Nat}{ops:Array Oper}{ss:List SOper}(hok:okOpers P L n ops.toList ss=true){R:Exit→Act→World→Prop}:
    ∀ {l:List Oper} {r:List SOper} {κ:K} {e:Env} {st:St} {a:Act} {Q:Env→St→Prop},κ.L=L→okOpers P L n l r=true→Inv Pr κ st→ERel κ e a→a.tmps.size=n→OpsW Pr ss r e st Q→
      (∀ κ' a' e' st',Q e' st'→Fl st st'→κ.le κ'→Inv Pr κ' st'→ERel κ' e' a'→a'.tmps.size=n→a'.defers=a.defers→R .normal a' κ'.w)→wpList P ops R l a κ.w
  | [],[],κ,e,st,a,Q,hL,_,hi,hE,hn,h,hQ=> hQ κ a e st h (Fl.refl _) (K.le.refl _) hi hE hn rfl
  | o::l,s::r,κ,e,st,a,Q,hL,hlr,hi,hE,hn,h,hQ=> by
    simp only[okOpers,Bool.and_eq_true]at hlr
    obtain⟨h1,h2,h3,h4⟩:=okOper_spec hlr.1
    simp only[OpsW]at h
    split at h
    · rename_i hw
      have hwant:=wanted_sound (κ:=κ) (hL ▸ hok) hE h2 hw
      unfold wpList
      rw[if_pos hwant]
      refine .inl (opW_sound ht hL hi hE h4 h ?_)
      intro κ' u v st' k1 k2 k3 k4 k5
      refine opsW_sound ht hok (k1.L.trans hL) hlr.2 k2 ?_ (by rw[put_size];exact hn) k5 (fun κ2 a2 e2 st2 m0 m00 m1 m2 m3 m4 m5=> hQ κ2 a2 e2 st2 m0 (k4.trans m00) (k1.trans m1) m2 m3 m4 (m5.trans (put_defs _ _ _)))
      rw[h1]
      exact erel_put (hE.mono k1) k3 (fun j hj=> by rw[hn];exact h3 j hj)
    · rename_i hw
      have hwant:=wanted_sound (κ:=κ) (hL ▸ hok) hE h2 hw
      unfold wpList
      rw[hwant]
      simp only[Bool.false_eq_true,if_false]
      refine opsW_sound ht hok hL hlr.2 hi ?_ (by rw[put_size];exact hn) h (fun κ2 a2 e2 st2 m0 m00 m1 m2 m3 m4 m5=> hQ κ2 a2 e2 st2 m0 m00 m1 m2 m3 m4 (m5.trans (put_defs _ _ _)))
      rw[h1]
      exact erel_put (x:= .un) hE rfl (fun j hj=> by rw[hn];exact h3 j hj)
    · exact h.elim
  | [],_::_,_,_,_,_,_,_,h,_,_,_,_,_=> by simp[okOpers]at h
  | _::_,[],_,_,_,_,_,_,h,_,_,_,_,_=> by simp[okOpers]at h
theorem CodeW.region {ops:List SOper}{B:List Nat}(h:OpsW Pr ops ops e st fun e' st'=> Q (.normal,e',st')):CodeW Pr (.region ops false B) e st Q:=by
  intro P L ht n code hok κ a R hL hi hE hn hR
  simp only[okCode]at hok
  split at hok
  case h_2=> cases hok
  rename_i id aops d'
  simp only[Bool.and_eq_true,beq_iff_eq,Bool.or_eq_true,Bool.not_eq_true']at hok
  obtain⟨⟨rfl,h1⟩,h2⟩:=hok
  refine wp_region_list (opsW_sound ht h1 hL h1 hi hE hn h ?_)
  intro κ' a' e' st' q k0 k1 k2 k3 k4 k5
  exact hR (.normal,e',st') κ' a' q k0 k1 k2 k3 k4 k5
theorem CodeW.drawn {ops:List SOper}{B:List Nat}{e':Env}{st':St}(h:opsS Pr (den Pr) ops ops e st=some (e',st'))(hQ:Q (.normal,e',st')):CodeW Pr (.region ops true B) e st Q:=by
  refine .of_cden (r:=(.normal,e',st')) ?_ hQ
  rw[cden_region,h]
/-! ### Functions -/
def FinW (fn:SFn)(st:St)(Q:V→St→Prop)(r:Out):Prop:=match r with
  | (.exit _,_,_)=> False
  | (_,e,st')=> ∃ v,resV e st' fn.results=some v∧(if fn.pure then ∃ z,esc st' st.heap.length st.tips.length v=some z∧Q z st else Q v st')
theorem CallW.of_body {f:Nat}{fn:SFn}{args:List V}{Q:V→St→Prop}(hf:Pr.fn f=some fn)(hn:args.length=fn.nparams)(h:CodeW Pr fn.body (initE 0 args) (start fn st) (FinW fn st Q)):CallW Pr f args st Q:=by
  intro P L ht κ vals hL hi ha
  obtain⟨gf,h1,h2⟩:=ht.t.fn f fn hf
  unfold okFn at h2
  split at h2
  case h_2=> cases h2
  rename_i c hc
  simp only[Bool.and_eq_true,decide_eq_true_eq]at h2
  obtain⟨⟨b1,b2⟩,b3⟩:=h2
  refine calls_of_wp h1 hc ?_
  have hlen:=ha.length
  have hi':Inv Pr κ (start fn st):=by
    unfold start
    split
    · exact hi.floor
    · exact hi
  refine h P L ht gf.ntmps c b1 κ _ _ hL hi' ?_ ?_ ?_
  · intro i v hv
    obtain⟨_,hv⟩:=initE_get hv
    simp only[Nat.sub_zero]at hv
    obtain⟨y,hy,hrep⟩:=ha.get hv
    have hlt:=(List.getElem?_eq_some_iff.1 hy).1
    refine⟨by simp;omega,?_⟩
    rw[Array.getD_eq_getD_getElem?,Array.getElem?_append_left (by simpa using hlt)]
    simpa[hy]using hrep
  · simp;omega
  · rintro⟨x,e1,s1⟩ κ' a' hq hfl' k1 k2 k3 k4 k5
    have main:∀ v,resV e1 s1 fn.results=some v→(if fn.pure then ∃ z,esc s1 st.heap.length st.tips.length v=some z∧Q z st else Q v s1)→
     ∃ u,(results gf a'.tmps).run P κ'.w= .ok u κ'.w∧Ends Pr κ st Q (.returned u) κ'.w:=by
      intro v hv hres
      obtain⟨u,g1,g2⟩:=results_sound k2 k3 b2 hv
      refine⟨u,g1,?_⟩
      split at hres
      · rename_i hp
        obtain⟨z,hz,hQ⟩:=hres
        unfold start at hfl'
        rw[if_pos hp]at hfl'
        have hheap:s1.heap.take st.heap.length=st.heap:=by
          refine List.ext_getElem? fun i=> ?_
          rw[List.getElem?_take]
          split
          · rename_i hlt
            exact hfl'.heap i hlt hlt
          · rename_i hge
            rw[List.getElem?_eq_none (by omega)]
        have htips:s1.tips.take st.tips.length=st.tips:=by
          refine List.ext_getElem? fun i=> ?_
          rw[List.getElem?_take]
          split
          · rename_i hlt
            exact hfl'.tips i hlt hlt
          · rename_i hge
            rw[List.getElem?_eq_none (by omega)]
        obtain⟨m1,m2⟩:=Inv.cut hi k1 k2 hheap (f:=st.floor) (tf:=st.tfloor)
        rw[htips]at m2
        exact⟨κ'.cut st.heap.length st.tips.length,u,z,st,rfl,rfl,m1,m2,escT_rep k2 hz g2,Fl.refl _,hQ⟩
      · rename_i hp
        exact⟨κ',u,v,s1,rfl,rfl,k1,k2,g2,by simpa[start,hp]using hfl',hres⟩
    cases x with
    | exit i=> exact hq.elim
    | normal=>
      obtain⟨v,hv,hq⟩:=hq
      obtain⟨u,m1,m2⟩:=main v hv hq
      exact⟨k5,u,m1,m2⟩
    | ret=>
      obtain⟨v,hv,hq⟩:=hq
      obtain⟨u,m1,m2⟩:=main v hv hq
      exact⟨k5,u,m1,m2⟩
end
end Go.Sh
namespace Go.Sh
open Go.RowKit
def DetW (Pr:Prog)(all:List SOper):List SOper→Env→St→(Env→Prop)→Prop
  | [],e,st,Q=> Q e
  | o::r,e,st,Q=> match wants all e o.guard with
    | some true=> ∃ v,OpW Pr e st o.op (fun v' s'=> v'=v∧s'=st)∧DetW Pr all r (put e o.dst v) st Q
    | some false=> DetW Pr all r (put e o.dst .un) st Q
    | none=> False
def lazyOk (ss:List SOper)(z:Nat):Bool:=match ss[z]? with
  | some ⟨some d,none,.mov (.t r)⟩=> (List.range ss.length).all fun i=> match ss[i]? with
    | some s=> (i==z || s.dst !=some d) && s.dst !=some r
    | none=> true
  | _=> false
def sufOk (ss:List SOper)(B:List Nat)(M:Nat)(lz:List Nat):Bool:=
  ((List.range ss.length).all fun j=> decide (j < M) || (List.range j).all fun i=> lz.contains i || (B.getD j 0).testBit i) && (lz.all fun z=> decide (z < M) && lazyOk ss z) && noX ss
theorem OpW_same {Pr:Prog}{e e':Env}{st:St}{s:SOp}{Q:V→St→Prop}(h:Same s.tms e e')(ho:OpW Pr e st s Q):OpW Pr e' st s Q:=by
  have hop:=opS_same (P:=Pr) (call:=den Pr) (st:=st) h
  cases s <;> simp only[OpW]at ho ⊢ <;> try (rw[← hop];exact ho)
  case appR=>
    simp only[SOp.tms]at h
    rw[← ev_same (P:=Pr) h.left,← ev_same (P:=Pr) h.right]
    exact ho
  case call=>
    simp only[SOp.tms]at h
    rw[← evs_same (P:=Pr) h]
    exact ho
  case invoke=>
    simp only[SOp.tms]at h
    simp only[opArgs]at ho ⊢
    rw[← ev_same (P:=Pr) h.left,← evs_same (P:=Pr) h.right]
    exact ho
section
variable {Pr:Prog}
theorem detW_trace {all:List SOper}{st:St}:∀ {l:List SOper} {e:Env} {Q:Env→Prop},DetW Pr all l e st Q→
    ∃ (E:Nat→Env) (X:Nat→V),E 0=e∧Q (E l.length)∧∀ i s,l[i]? =some s→E (i+1)=put (E i) s.dst (X i)∧
      ((wants all (E i) s.guard=some true∧OpW Pr (E i) st s.op (fun v' s'=> v'=X i∧s'=st))∨(wants all (E i) s.guard=some false∧X i= .un))
  | [],e,Q,h=> ⟨fun _=> e,fun _=> .un,rfl,h,fun i s hs=> by simp at hs⟩
  | o::r,e,Q,h=> by
    have key:∀ x,DetW Pr all r (put e o.dst x) st Q→((wants all e o.guard=some true∧OpW Pr e st o.op (fun v' s'=> v'=x∧s'=st))∨(wants all e o.guard=some false∧x= .un))→
     ∃ (E:Nat→Env) (X:Nat→V),E 0=e∧Q (E (o::r).length)∧∀ i s,(o::r)[i]? =some s→E (i+1)=put (E i) s.dst (X i)∧
       ((wants all (E i) s.guard=some true∧OpW Pr (E i) st s.op (fun v' s'=> v'=X i∧s'=st))∨(wants all (E i) s.guard=some false∧X i= .un)):=by
      intro x hr hx
      obtain⟨E,X,h1,h2,h3⟩:=detW_trace hr
      refine⟨fun i=> match i with | 0=> e | i+1=> E i,fun i=> match i with | 0=> x | i+1=> X i,rfl,h2,?_⟩
      intro i s hs
      cases i with
      | zero=>
        simp only[List.getElem?_cons_zero,Option.some.injEq]at hs
        subst hs
        exact⟨h1,hx⟩
      | succ i=> exact h3 i s (by simpa using hs)
    simp only[DetW]at h
    split at h
    · rename_i hw
      obtain⟨v,h1,h2⟩:=h
      exact key v h2 (.inl ⟨hw,h1⟩)
    · rename_i hw
      exact key .un h (.inr ⟨hw,rfl⟩)
    · exact h.elim
variable {P:Program}{L:Link}{n:Nat}
structure Place (Pr:Prog)(ops:Array Oper)(ss:List SOper)(lz:List Nat)(κ0 κ:K)(n:Nat)(d0:List Deferred)(k:Nat)(listed:Array Bool)(e:Env)(st:St)(a:Act):Prop where
  size:listed.size=ops.size
  closed:Closed ops listed
  before:∀ i,i < k→i∉lz→listed.getD i false=true
  behind:∀ i,k≤i→listed.getD i false=false
  le:κ0.le κ
  inv:Inv Pr κ st
  env:∀ s v,e.get s=some v→(∃ z∈lz,listed.getD z false=false∧(ss[z]?).bind (·.dst)=some s)∨(s < a.tmps.size∧Rep κ v (a.tmps.getD s undef))
  tmps:a.tmps.size=n
  defs:a.defers=d0
  lazy:∀ z∈lz,∃ d r v,ss[z]? =some ⟨some d,none,.mov (.t r)⟩∧e.get r=some v∧e.get d=some v
theorem list_set {ops:Array Oper}{listed:Array Bool}{i:Nat}(hs:listed.size=ops.size)(hi:i < ops.size)(j:Nat):(listed.setIfInBounds i true).getD j false=if j=i then true else listed.getD j false:=by
  by_cases hj:j=i
  · subst hj;simp[hs,hi]
  · rw[if_neg hj,getD_set_ne false (fun e=> hj e.symm)]
theorem closed_set {ops:Array Oper}{listed:Array Bool}{i:Nat}{o:Oper}(hc:Closed ops listed)(hs:listed.size=ops.size)(ho:ops[i]? =some o)(hn:∀ k∈needs o,listed.getD k false=true):Closed ops (listed.setIfInBounds i true):=by
  have hil:i < ops.size:=(Array.getElem?_eq_some_iff.1 ho).1
  intro j oj hoj hlj k hk
  rw[list_set hs hil]at hlj ⊢
  split
  · rfl
  · split at hlj
    · rename_i he
      subst he
      rw[ho]at hoj
      obtain rfl:=Option.some.inj hoj
      exact hn k hk
    · exact hc j oj hoj hlj k hk
theorem hord_of {ss:List SOper}{B:List Nat}(hN:okNames ss B=true):∀ (i j:Nat) (si sj:SOper) (d:Nat),ss[i]? =some si→ss[j]? =some sj→i≠j→si.dst=some d→d∈names ss sj→ordered B i j=true:=by
  intro i j si sj d hi hj hij hd hm
  have h1:=List.all_eq_true.1 hN j (List.mem_range.2 (List.getElem?_eq_some_iff.1 hj).1)
  rw[hj]at h1
  have h2:=List.all_eq_true.1 h1 i (List.mem_range.2 (List.getElem?_eq_some_iff.1 hi).1)
  rw[hi]at h2
  simp only[hd]at h2
  have hne:(i==j)=false:=by simpa using hij
  have hc:(names ss sj).contains d=true:=by simpa using hm
  rw[hne,hc]at h2
  simpa using h2
theorem ready_facts {ops:Array Oper}{B:List Nat}{listed:Array Bool}(hB:okAnc B ops.toList 0=true)(hs:listed.size=ops.size)(hc:Closed ops listed){i:Nat}(hr:i∈Region.ready .any ops listed):
    ∃ o,ops[i]? =some o∧i < ops.size∧listed.getD i false=false∧(∀ k∈needs o,listed.getD k false=true)∧(∀ j:Nat,(B.getD i 0).testBit j=true→listed.getD j false=true)∧∀ j:Nat,(B.getD j 0).testBit i=true→listed.getD j false=false:=by
  obtain⟨hun1,o,ho,hall⟩:=mem_ready.1 hr
  have hil:i < ops.size:=(Array.getElem?_eq_some_iff.1 ho).1
  have hiun:listed.getD i false=false:=by
    have:i < listed.size:=by omega
    simpa[this]using hun1
  have hneeds:∀ k∈needs o,listed.getD k false=true:=by
    intro k hk
    obtain⟨e,he,hb,rfl⟩:=needs_mem hk
    exact hall e he hb
  refine⟨o,ho,hil,hiun,hneeds,fun j hb=> ?_,fun j hb=> ?_⟩
  · have h2:=(okAnc_spec hB i o (by simpa using ho)).2 j
    simp only[Nat.zero_add]at h2
    obtain⟨k,hk,h3⟩:=upTo_bit (h2 hb)
    rcases h3 with rfl | h3
    · exact hneeds _ hk
    · exact anc_listed hB hc hs k (hneeds k hk) h3
  · cases hq:listed.getD j false with
    | false=> rfl
    | true=>
      have:=anc_listed hB hc hs j hq hb
      rw[hiun]at this
      cases this
theorem ready_none {ops:Array Oper}{B:List Nat}{listed:Array Bool}(hB:okAnc B ops.toList 0=true)(hs:listed.size=ops.size)(hr:Region.ready .any ops listed= []):∀ i,i < ops.size→listed.getD i false=true:=by
  intro i
  induction i using Nat.strongRecOn with
  | _ i ih2=>
    intro hil
    cases hq:listed.getD i false with
    | true=> rfl
    | false=>
      exfalso
      have hmem:i∈Region.ready .any ops listed:=by
        refine mem_ready.2 ⟨by have:i < listed.size:=by omega
                               simpa[this]using hq,ops[i],by simp[hil],fun e he hb=> ?_⟩
        have:=(okAnc_spec hB i ops[i] (by simp[hil])).1 e.on (needs_after he hb)
        simp only[Nat.zero_add]at this
        exact ih2 e.on this (by omega)
      rw[hr]at hmem
      cases hmem
theorem put_get_ne {e:Env}{d:Option Nat}{x:V}{s:Nat}(h:d≠some s):(put e d x).get s=e.get s:=by
  cases d with
  | none=> rfl
  | some j=>
    simp only[put,Env.get]
    rw[if_neg (fun e=> h (by rw[e]))]
theorem act_put_ne {a:Act}{d:Option Tmp}{v:Value}{s:Nat}(h:d≠some s):(a.put d v).tmps.getD s undef=a.tmps.getD s undef:=by
  cases d with
  | none=> rfl
  | some j=>
    have hne:j≠s:=fun e=> h (by rw[e])
    have:(a.tmps.setIfInBounds j v)[s]? =a.tmps[s]? :=Array.getElem?_setIfInBounds_ne hne
    simp[Act.put,Array.getD_eq_getD_getElem?,this]
theorem act_put_eq {a:Act}{j:Nat}{v:Value}(h:j < a.tmps.size):(a.put (some j) v).tmps.getD j undef=v:=by
  simp[Act.put,Array.getElem?_setIfInBounds,h]
theorem lazy_step (ht:Tie P Pr L){ops:Array Oper}{ss:List SOper}{lz:List Nat}(hok:okOpers P L n ops.toList ss=true){κ0 κ:K}(hL:κ0.L=L){d0:List Deferred}{k i:Nat}{listed:Array Bool}{e:Env}{st:St}{a:Act}
    (hp:Place Pr ops ss lz κ0 κ n d0 k listed e st a) (hlz:lz.all (fun z=> lazyOk ss z)=true) (hi:i∈lz) (hik:i < k) {o:Oper} (ho:ops[i]? =some o) (hn:∀ j∈needs o,listed.getD j false=true) (hiun:listed.getD i false=false)
    {next:Act→World→Prop} {Q:Exit→Act→World→Prop} (hnext:∀ κ' a',Place Pr ops ss lz κ0 κ' n d0 k (listed.setIfInBounds i true) e st a'→next a' κ'.w):wpOp P ops Q i next a κ.w:=by
  obtain⟨d,r,v,hs,hr,hd⟩:=hp.lazy i hi
  have hil:i < ops.size:=(Array.getElem?_eq_some_iff.1 ho).1
  obtain⟨hlen,hops⟩:=okOpers_get hok
  obtain⟨q1,q2,q3,q4⟩:=okOper_spec (hops i o _ (by simpa using ho) hs)
  have hz:=List.all_eq_true.1 hlz i hi
  unfold lazyOk at hz
  rw[hs]at hz
  simp only at hz
  have hother:∀ j s,ss[j]? =some s→(j=i∨s.dst≠some d)∧s.dst≠some r:=by
    intro j s hj
    have:=List.all_eq_true.1 hz j (List.mem_range.2 (List.getElem?_eq_some_iff.1 hj).1)
    rw[hj]at this
    simpa using this
  have hrrep:r < a.tmps.size∧Rep κ v (a.tmps.getD r undef):=by
    rcases hp.env r v hr with⟨z,hz1,hz2,hz3⟩ | h
    · obtain⟨dz,rz,vz,hsz,_⟩:=hp.lazy z hz1
      rw[hsz]at hz3
      exact absurd hz3 (hother z _ hsz).2
    · exact h
  have hLκ:κ.L=L:=hp.le.L.trans hL
  have hdn:d < n:=q3 d rfl
  have hE:ERel κ [(r,v)] a:=by
    intro s u hu
    simp only[Env.get]at hu
    split at hu
    · rename_i he
      subst he
      obtain rfl:=Option.some.inj hu
      exact hrrep
    · cases hu
  unfold wpOp
  rw[ho]
  simp only
  have hwant:=wanted_sound (κ:=κ) (e:= [(r,v)]) (b:=true) (hLκ ▸ hok) hE q2 rfl
  rw[if_pos hwant]
  refine .inl (opW_sound (Q:=fun v' s'=> v'=v∧s'=st) ht hLκ hp.inv hE q4 ?_ ?_)
  · have:opS Pr (den Pr) [(r,v)] st (.mov (.t r))=some (v,st):=by simp[opS,bind1,pureR,Opd.ev,Env.get]
    simp[OpW,this]
  · rintro κ' u v' st' k1 k2 k3 _ ⟨rfl,rfl⟩
    refine hnext κ' _ ⟨by simpa using hp.size,closed_set hp.closed hp.size ho hn,?_,?_,hp.le.trans k1,k2,?_,by rw[put_size];exact hp.tmps,by rw[put_defs];exact hp.defs,hp.lazy⟩
    · intro j hj hjl
      rw[list_set hp.size hil]
      split
      · rfl
      · exact hp.before j hj hjl
    · intro j hj
      rw[list_set hp.size hil,if_neg (by omega)]
      exact hp.behind j hj
    · intro s w hw
      by_cases hsd:s=d
      · subst hsd
        right
        rw[hd]at hw
        obtain rfl:=Option.some.inj hw
        have hlt:s < a.tmps.size:=by rw[hp.tmps];exact hdn
        rw[put_size,q1]
        exact⟨hlt,by rw[act_put_eq hlt];exact k3⟩
      · rcases hp.env s w hw with⟨z,hz1,hz2,hz3⟩ | ⟨h1,h2⟩
        · left
          refine⟨z,hz1,?_,hz3⟩
          rw[list_set hp.size hil,if_neg]
          · exact hz2
          · rintro rfl
            rw[hs]at hz3
            simp only[Option.bind_some,Option.some.injEq]at hz3
            exact hsd hz3.symm
        · right
          rw[put_size,q1]
          have hne:(some d:Option Nat)≠some s:=fun h=> hsd (Option.some.inj h).symm
          exact⟨h1,by rw[act_put_ne hne];exact Rep.mono k1 h2⟩
theorem tail_sound (ht:Tie P Pr L){ops:Array Oper}{ss:List SOper}{B:List Nat}{lz:List Nat}{M:Nat}(hok:okOpers P L n ops.toList ss=true)(hB:okAnc B ops.toList 0=true)(hN:okNames ss B=true)
    (hsuf:∀ j,M≤j→j < ss.length→∀ i,i < j→i∈lz∨(B.getD j 0).testBit i=true) (hlz:lz.all (fun z=> lazyOk ss z)=true) (hlm:∀ z∈lz,z < M) {κ0:K} (hL:κ0.L=L) {d0:List Deferred} {st0:St} {Q':Env→St→Prop} {R:Exit→Act→World→Prop}
    (hfin:∀ κ' a' e' st',Q' e' st'→Fl st0 st'→κ0.le κ'→Inv Pr κ' st'→ERel κ' e' a'→a'.tmps.size=n→a'.defers=d0→R .normal a' κ'.w):
    ∀ (fuel:Nat) (k:Nat) (listed:Array Bool) (e:Env) (st:St) (a:Act) (κ:K),unl listed ops.size=fuel→M≤k→k≤ops.size→Place Pr ops ss lz κ0 κ n d0 k listed e st a→OpsW Pr ss (ss.drop k) e st Q'→Fl st0 st→wpAny P .any ops R fuel listed a κ.w:=by
  obtain⟨hlen,hops⟩:=okOpers_get hok
  have hlen':ops.size=ss.length:=by simpa using hlen
  have done:∀ (k:Nat) (listed:Array Bool) (e:Env) (st:St) (a:Act) (κ:K),k≤ops.size→Place Pr ops ss lz κ0 κ n d0 k listed e st a→OpsW Pr ss (ss.drop k) e st Q'→Fl st0 st→(∀ i,i < ops.size→listed.getD i false=true)→R .normal a κ.w:=by
    intro k listed e st a κ hk hp hq hf hall
    have hks:k=ops.size:=by
      rcases Nat.lt_or_ge k ops.size with h | h
      · have:=hp.behind k (Nat.le_refl _)
        rw[hall k h]at this
        cases this
      · omega
    rw[List.drop_of_length_le (by omega)]at hq
    refine hfin κ a e st hq hf hp.le hp.inv (fun s v hv=> ?_) hp.tmps hp.defs
    rcases hp.env s v hv with⟨z,hz1,hz2,hz3⟩ | h
    · have:=hlm z hz1
      have hzl:z < ops.size:=by
        rw[hlen']
        cases hsz:ss[z]? with
        | none=> rw[hsz]at hz3;simp at hz3
        | some s=> exact(List.getElem?_eq_some_iff.1 hsz).1
      rw[hall z hzl]at hz2
      cases hz2
    · exact h
  intro fuel
  induction fuel with
  | zero=>
    intro k listed e st a κ hu hMk hk hp hq hf
    have hall:∀ i,i < ops.size→listed.getD i false=true:=fun i hi=> unl_zero hu i hi
    refine⟨?_,done k listed e st a κ hk hp hq hf hall⟩
    apply List.eq_nil_iff_forall_not_mem.2
    intro j hj
    obtain⟨o,h1,h2,h3,_⟩:=ready_facts hB hp.size hp.closed hj
    rw[hall j h2]at h3
    cases h3
  | succ fuel ih=>
    intro k listed e st a κ hu hMk hk hp hq hf
    refine⟨fun hr=> done k listed e st a κ hk hp hq hf (ready_none hB hp.size hr),fun i hri=> ?_⟩
    obtain⟨o,ho,hil,hiun,hneeds,hbefore,hafter⟩:=ready_facts hB hp.size hp.closed hri
    have hun:unl (listed.setIfInBounds i true) ops.size=fuel:=by
      have:=unl_set (listed:=listed) hiun hil (by have:=hp.size;omega)
      omega
    rcases Nat.lt_or_ge i k with hik | hik
    · have hilz:i∈lz:=by
        by_cases h:i∈lz
        · exact h
        · rw[hp.before i hik h]at hiun
          cases hiun
      exact lazy_step ht hok hL hp hlz hilz hik ho hneeds hiun fun κ' a' hp'=> ih k _ e st a' κ' hun hMk hk hp' hq hf
    · have hki:i=k:=by
        rcases Nat.lt_or_ge k i with h | h
        · rcases hsuf i (by omega) (by omega) k h with h2 | h2
          · have:=hlm k h2
            omega
          · have h3:=hbefore k h2
            rw[hp.behind k (Nat.le_refl _)]at h3
            cases h3
        · omega
      subst hki
      obtain⟨s,hs⟩:∃ s,ss[i]? =some s:=⟨ss[i]'(by omega),List.getElem?_eq_getElem (by omega)⟩
      obtain⟨q1,q2,q3,q4⟩:=okOper_spec (hops i o s (by simpa using ho) hs)
      have hLκ:κ.L=L:=hp.le.L.trans hL
      have hd:ss.drop i=s::ss.drop (i+1):=by
        rw[List.drop_eq_getElem_cons (by omega)]
        congr 1
        exact(List.getElem?_eq_some_iff.1 hs).2
      rw[hd]at hq
      have hEm:ERel κ (mask (names ss s) e) a:=by
        intro t v hv
        obtain⟨h1,h2⟩:=mask_get hv
        rcases hp.env t v h2 with⟨z,hz1,hz2,hz3⟩ | h
        · cases hsz:ss[z]? with
          | none=> rw[hsz]at hz3;simp at hz3
          | some sz=>
            rw[hsz]at hz3
            simp only[Option.bind_some]at hz3
            have hzm:=hlm z hz1
            have:=hord_of hN z i sz s t hsz hs (by omega) hz3 h1
            unfold ordered at this
            rw[Nat.max_eq_right (by omega),Nat.min_eq_left (by omega)]at this
            rw[hbefore z this]at hz2
            cases hz2
        · exact h
      have hsame:Same (names ss s) e (mask (names ss s) e):=fun t ht'=> (mask_mem ht').symm
      have hgs:Same (gslot ss s) (mask (names ss s) e) e:=fun t ht'=> (hsame t (by unfold names;simp[ht'])).symm
      -- what is known behind it
      have hnext:∀ (κ':K) (u:Value) (x:V) (st':St),κ.le κ'→Inv Pr κ' st'→Rep κ' x u→Place Pr ops ss lz κ0 κ' n d0 (i+1) (listed.setIfInBounds i true) (put e s.dst x) st' (a.put o.dst u):=by
        intro κ' u x st' k1 k2 k3
        refine⟨by simpa using hp.size,closed_set hp.closed hp.size ho hneeds,?_,?_,hp.le.trans k1,k2,?_,by rw[put_size];exact hp.tmps,by rw[put_defs];exact hp.defs,?_⟩
        · intro j hj hjl
          rw[list_set hp.size hil]
          split
          · rfl
          · exact hp.before j (by omega) hjl
        · intro j hj
          rw[list_set hp.size hil,if_neg (by omega)]
          exact hp.behind j (by omega)
        · intro t w hw
          by_cases htd:s.dst=some t
          · right
            rw[htd]at hw
            simp only[put,Env.get,if_true,Option.some.injEq]at hw
            subst hw
            have hlt:t < a.tmps.size:=by rw[hp.tmps];exact q3 t htd
            rw[put_size,q1,htd]
            exact⟨hlt,by rw[act_put_eq hlt];exact k3⟩
          · rw[put_get_ne htd]at hw
            rcases hp.env t w hw with⟨z,hz1,hz2,hz3⟩ | ⟨h1,h2⟩
            · left
              refine⟨z,hz1,?_,hz3⟩
              have:=hlm z hz1
              rw[list_set hp.size hil,if_neg (by omega)]
              exact hz2
            · right
              rw[put_size,q1]
              exact⟨h1,by rw[act_put_ne htd];exact Rep.mono k1 h2⟩
        · intro z hz
          obtain⟨d,r,v,h1,h2,h3⟩:=hp.lazy z hz
          have hzz:=List.all_eq_true.1 hlz z hz
          unfold lazyOk at hzz
          rw[h1]at hzz
          simp only at hzz
          have:=List.all_eq_true.1 hzz i (List.mem_range.2 (by omega))
          rw[hs]at this
          have hzm:=hlm z hz
          have hne:i≠z:=by omega
          simp only[Bool.and_eq_true,Bool.or_eq_true,beq_iff_eq,hne,false_or,bne_iff_ne,ne_eq]at this
          exact⟨d,r,v,h1,by rw[put_get_ne this.2];exact h2,by rw[put_get_ne this.1];exact h3⟩
      simp only[OpsW]at hq
      unfold wpOp
      rw[ho]
      simp only
      split at hq
      · rename_i hw
        have hwant:=wanted_sound (κ:=κ) (hLκ ▸ hok) hEm q2 ((wants_same hgs).trans hw)
        rw[if_pos hwant]
        refine .inl (opW_sound ht hLκ hp.inv hEm q4 (OpW_same (fun t ht'=> hsame t (by unfold names;simp[ht'])) hq) ?_)
        intro κ' u x st' k1 k2 k3 k4 k5
        exact ih (i+1) _ _ st' _ κ' hun (by omega) (by omega) (hnext κ' u x st' k1 k2 k3) k5 (hf.trans k4)
      · rename_i hw
        have hwant:=wanted_sound (κ:=κ) (hLκ ▸ hok) hEm q2 ((wants_same hgs).trans hw)
        rw[hwant]
        simp only[Bool.false_eq_true,if_false]
        exact ih (i+1) _ _ st _ κ hun (by omega) (by omega) (hnext κ undef .un st (K.le.refl _) hp.inv rfl) hq hf
      · exact hq.elim
theorem head_sound (ht:Tie P Pr L){ops:Array Oper}{ss:List SOper}{B:List Nat}{lz:List Nat}{M:Nat}(hM:M≤ss.length)(hok:okOpers P L n ops.toList ss=true)(hB:okAnc B ops.toList 0=true)(hN:okNames ss B=true)
    (hsuf:∀ j,M≤j→j < ss.length→∀ i,i < j→i∈lz∨(B.getD j 0).testBit i=true) (hlz:lz.all (fun z=> lazyOk ss z)=true) (hlm:∀ z∈lz,z < M) {κ0:K} (hL:κ0.L=L) {d0:List Deferred} {st:St} {e0:Env} {Q:Env→Prop} {R:Exit→Act→World→Prop}
    (hdet:DetW Pr ss (ss.take M) e0 st Q) {a0:Act} (hi0:Inv Pr κ0 st) (hE0:ERel κ0 e0 a0) (hn0:a0.tmps.size=n) (hd0:a0.defers=d0)
    (hnext:∀ (listed:Array Bool) (e:Env) (a:Act) (κ:K),Q e→Place Pr ops ss lz κ0 κ n d0 M listed e st a→wpAny P .any ops R (unl listed ops.size) listed a κ.w):wpAny P .any ops R ops.size (Array.replicate ops.size false) a0 κ0.w:=by
  obtain⟨hlen,hops⟩:=okOpers_get hok
  have hlen':ops.size=ss.length:=by simpa using hlen
  obtain⟨E,X,hE,hQ,ht0⟩:=detW_trace hdet
  have hstep:∀ i s,ss[i]? =some s→i < M→E (i+1)=put (E i) s.dst (X i)∧((wants ss (E i) s.guard=some true∧OpW Pr (E i) st s.op (fun v' s'=> v'=X i∧s'=st))∨(wants ss (E i) s.guard=some false∧X i= .un)):=
    fun i s hs hi=> ht0 i s (by rw[List.getElem?_take,if_pos hi];exact hs)
  rw[List.length_take,Nat.min_eq_left hM]at hQ
  have hcvE:∀ s k,k≤M→(E k).get s=cv ss X e0 (fun _=> true) s k:=by
    intro s k
    induction k with
    | zero=> intro _;rw[hE];rfl
    | succ k ihk=>
      intro hk
      obtain⟨sk,hsk⟩:∃ sk,ss[k]? =some sk:=⟨ss[k]'(by omega),List.getElem?_eq_getElem (by omega)⟩
      rw[(hstep k sk hsk (by omega)).1,cv_succ,hsk]
      simp only[Option.bind_some]
      cases hd:sk.dst with
      | none=> simp[put,ihk (by omega)]
      | some d=>
        simp only[put,Env.get,Option.some.injEq,true_and]
        by_cases he:d=s
        · simp[he]
        · simp[he,ihk (by omega)]
  have hord:=hord_of hN
  let on:Array Bool→Nat→Bool:=fun listed i=> listed.getD i false
  -- what nobody else writes stays
  have hkeep:∀ (s k:Nat),k≤M→∀ d,(∀ j sj,k≤j→j < k+d→ss[j]? =some sj→sj.dst≠some s)→k+d≤M→(E (k+d)).get s=(E k).get s:=by
    intro s k hk d
    induction d with
    | zero=> intro _ _;rfl
    | succ d ihd=>
      intro h hkd
      obtain⟨sk,hsk⟩:∃ sk,ss[k+d]? =some sk:=⟨ss[k+d]'(by omega),List.getElem?_eq_getElem (by omega)⟩
      rw[← Nat.add_assoc,(hstep (k+d) sk hsk (by omega)).1,put_get_ne (h (k+d) sk (by omega) (by omega) hsk)]
      exact ihd (fun j sj h1 h2=> h j sj h1 (by omega)) (by omega)
  have fin:∀ (listed:Array Bool) (a:Act) (κ:K),listed.size=ops.size→Closed ops listed→(∀ i,M≤i→listed.getD i false=false)→κ0.le κ→Inv Pr κ st→
   (∀ (s:Nat) (v:V),cv ss X e0 (on listed) s ss.length=some v→s < a.tmps.size∧Rep κ v (a.tmps.getD s undef))→a.tmps.size=n→a.defers=d0→(∀ i,i < M→i∉lz→listed.getD i false=true)→wpAny P .any ops R (unl listed ops.size) listed a κ.w:=by
    intro listed a κ hsz hcl hbh hle hi henv hna hda hall
    refine hnext listed (E M) a κ hQ ⟨hsz,hcl,hall,hbh,hle,hi,fun s v hv=> ?_,hna,hda,fun z hz=> ?_⟩
    · by_cases hpend:∃ z∈lz,listed.getD z false=false∧(ss[z]?).bind (·.dst)=some s
      · exact .inl hpend
      · right
        refine henv s v ?_
        rw[hcvE s M (Nat.le_refl _)]at hv
        rw[← hv]
        obtain⟨m,hm⟩:∃ m,ss.length=M+m:=⟨ss.length - M,by omega⟩
        rw[hm,cv_skip m fun j h1 _ _=> hbh j h1]
        refine cv_congr M fun i hiM hd=> ?_
        by_cases hil:i∈lz
        · cases hq:listed.getD i false with
          | true=> rfl
          | false=> exact absurd ⟨i,hil,hq,hd⟩ hpend
        · exact hall i hiM hil
    · have hzm:=hlm z hz
      have hzz:=List.all_eq_true.1 hlz z hz
      unfold lazyOk at hzz
      split at hzz
      case h_2=> cases hzz
      rename_i d r hsz'
      have hother:∀ j s,ss[j]? =some s→(j=z∨s.dst≠some d)∧s.dst≠some r:=by
        intro j s hj
        have:=List.all_eq_true.1 hzz j (List.mem_range.2 (List.getElem?_eq_some_iff.1 hj).1)
        rw[hj]at this
        simpa using this
      obtain⟨h1,h2⟩:=hstep z _ hsz' hzm
      have hX:(E z).get r=some (X z):=by
        rcases h2 with⟨_,h2⟩ | ⟨h2,_⟩
        · have h2:OpW Pr (E z) st (.mov (.t r)) (fun v' s'=> v'=X z∧s'=st):=h2
          unfold OpW at h2
          simp only[opS]at h2
          split at h2
          · rename_i v' s' hop
            obtain⟨rfl,_⟩:=h2
            cases hg:Opd.ev Pr (E z) (.t r) with
            | none=> rw[hg]at hop;cases hop
            | some w=>
              rw[hg]at hop
              simp only[bind1,pureR,Option.some.injEq,Prod.mk.injEq]at hop
              rw[← hop.1]
              exact hg
          · exact h2.elim
        · simp[wants]at h2
      refine⟨d,r,X z,hsz',?_,?_⟩
      · obtain⟨m,hm⟩:∃ m,M=z+m:=⟨M - z,by omega⟩
        rw[hm,hkeep r z (by omega) m (fun j sj _ _ hj=> (hother j sj hj).2) (by omega)]
        exact hX
      · obtain⟨m,hm⟩:∃ m,M=z+1+m:=⟨M - (z+1),by omega⟩
        rw[hm,hkeep d (z+1) (by omega) m (fun j sj h1 _ hj=> (hother j sj hj).1.resolve_left (by omega)) (by omega),h1]
        simp[put,Env.get]
  have main:∀ (fuel:Nat) (listed:Array Bool) (a:Act) (κ:K),listed.size=ops.size→Closed ops listed→unl listed ops.size=fuel→(∀ i,M≤i→listed.getD i false=false)→κ0.le κ→Inv Pr κ st→
   (∀ (s:Nat) (v:V),cv ss X e0 (on listed) s ss.length=some v→s < a.tmps.size∧Rep κ v (a.tmps.getD s undef))→a.tmps.size=n→a.defers=d0→wpAny P .any ops R fuel listed a κ.w:=by
    intro fuel
    induction fuel with
    | zero=>
      intro listed a κ hsz hcl hun hbh hle hi henv hna hda
      have hall:∀ i,i < ops.size→listed.getD i false=true:=fun i hi=> unl_zero hun i hi
      rw[← hun]
      exact fin listed a κ hsz hcl hbh hle hi henv hna hda fun i hiM _=> hall i (by omega)
    | succ fuel ih=>
      intro listed a κ hsz hcl hun hbh hle hi henv hna hda
      by_cases hall:∀ i,i < M→i∉lz→listed.getD i false=true
      · rw[← hun]
        exact fin listed a κ hsz hcl hbh hle hi henv hna hda hall
      obtain⟨i0,hi0⟩:=Classical.not_forall.1 hall
      have hi0M:i0 < M:=by
        rcases Nat.lt_or_ge i0 M with h | h
        · exact h
        · exact absurd (fun h'=> absurd h' (by omega)) hi0
      have hi0l:i0∉lz:=fun h=> hi0 fun _ h'=> absurd h h'
      have hi0u:listed.getD i0 false=false:=by
        cases hq:listed.getD i0 false with
        | true=> exact absurd (fun _ _=> hq) hi0
        | false=> rfl
      refine⟨fun hr=> ?_,fun i hri=> ?_⟩
      · have:=ready_none hB hsz hr i0 (by omega)
        rw[hi0u]at this
        cases this
      · obtain⟨o,ho,hil,hiun,hneeds,hbefore,hafter⟩:=ready_facts hB hsz hcl hri
        have hiM:i < M:=by
          rcases Nat.lt_or_ge i M with h | h
          · exact h
          · rcases hsuf i h (by omega) i0 (by omega) with h2 | h2
            · exact absurd h2 hi0l
            · rw[hbefore i0 h2]at hi0u
              cases hi0u
        obtain⟨s,hs⟩:∃ s,ss[i]? =some s:=⟨ss[i]'(by omega),List.getElem?_eq_getElem (by omega)⟩
        obtain⟨q1,q2,q3,q4⟩:=okOper_spec (hops i o s (by simpa using ho) hs)
        have hwriter:∀ (j d:Nat),(ss[j]?).bind (·.dst)=some d→d∈names ss s→j≠i→(j < i→listed.getD j false=true)∧(i < j→listed.getD j false=false):=by
          intro j d hd hm hji
          cases hsj:ss[j]? with
          | none=> rw[hsj]at hd;simp at hd
          | some sj=>
            rw[hsj]at hd
            simp only[Option.bind_some]at hd
            have:=hord j i sj s d hsj hs hji hd hm
            unfold ordered at this
            constructor
            · intro hlt
              rw[Nat.max_eq_right (by omega),Nat.min_eq_left (by omega)]at this
              exact hbefore j this
            · intro hlt
              rw[Nat.max_eq_left (by omega),Nat.min_eq_right (by omega)]at this
              exact hafter j this
        have hval:∀ d∈names ss s,cv ss X e0 (on listed) d ss.length=(E i).get d:=by
          intro d hd
          obtain⟨m,hm⟩:∃ m,ss.length=i+m:=⟨ss.length - i,by omega⟩
          rw[hm,cv_skip m,hcvE d i (by omega)]
          · refine cv_congr i fun j hj hw=> ?_
            exact(hwriter j d hw hd (by omega)).1 hj
          · intro j hij _ hw
            by_cases hji:j=i
            · subst hji;exact hiun
            · exact(hwriter j d hw hd hji).2 (by omega)
        have hEm:ERel κ (mask (names ss s) (E i)) a:=by
          intro t v hv
          obtain⟨h1,h2⟩:=mask_get hv
          exact henv t v (by rw[hval t h1];exact h2)
        have hsame:Same (names ss s) (E i) (mask (names ss s) (E i)):=fun t ht'=> (mask_mem ht').symm
        have hgs:Same (gslot ss s) (mask (names ss s) (E i)) (E i):=fun t ht'=> (hsame t (by unfold names;simp[ht'])).symm
        obtain⟨hEi,hrunI⟩:=hstep i s hs hiM
        have hLκ:κ.L=L:=hle.L.trans hL
        have hnext':∀ (κ':K) (u:Value),κ.le κ'→Inv Pr κ' st→Rep κ' (X i) u→wpAny P .any ops R fuel (listed.setIfInBounds i true) (a.put o.dst u) κ'.w:=by
          intro κ' u k1 k2 k3
          have hon:∀ j,on (listed.setIfInBounds i true) j=if j=i then true else on listed j:=list_set hsz hil
          refine ih _ _ κ' (by simpa using hsz) (closed_set hcl hsz ho hneeds) ?_ ?_ (hle.trans k1) k2 ?_ (by rw[put_size];exact hna) (by rw[put_defs];exact hda)
          · have:=unl_set (listed:=listed) hiun hil (by omega)
            omega
          · intro j hj
            rw[list_set hsz hil,if_neg (by omega)]
            exact hbh j hj
          · intro t w hw
            by_cases htd:s.dst=some t
            · have hu':cv ss X e0 (on (listed.setIfInBounds i true)) t ss.length=some (X i):=by
                obtain⟨m,hm⟩:∃ m,ss.length=(i+1)+m:=⟨ss.length - (i+1),by omega⟩
                rw[hm,cv_skip m]
                · rw[cv_succ,if_pos ⟨by rw[hon,if_pos rfl],by rw[hs];exact htd⟩]
                · intro j hij _ hw
                  rw[hon,if_neg (by omega)]
                  exact(hwriter j t hw (by unfold names;rw[htd];simp) (by omega)).2 (by omega)
              rw[hu']at hw
              obtain rfl:=Option.some.inj hw
              have hlt:t < a.tmps.size:=by rw[hna];exact q3 t htd
              rw[put_size,q1,htd]
              exact⟨hlt,by rw[act_put_eq hlt];exact k3⟩
            · have hu':cv ss X e0 (on (listed.setIfInBounds i true)) t ss.length=cv ss X e0 (on listed) t ss.length:=by
                refine cv_congr _ fun j hj hwd=> ?_
                rw[hon,if_neg (fun e=> htd (by rw[e,hs]at hwd;exact hwd))]
              rw[hu']at hw
              obtain⟨r1,r2⟩:=henv t w hw
              rw[put_size,q1]
              exact⟨r1,by rw[act_put_ne htd];exact Rep.mono k1 r2⟩
        unfold wpOp
        rw[ho]
        simp only
        rcases hrunI with⟨hw,hop⟩ | ⟨hw,hXi⟩
        · have hwant:=wanted_sound (κ:=κ) (hLκ ▸ hok) hEm q2 ((wants_same hgs).trans hw)
          rw[if_pos hwant]
          refine .inl (opW_sound ht hLκ hi hEm q4 (OpW_same (fun t ht'=> hsame t (by unfold names;simp[ht'])) hop) ?_)
          rintro κ' u x st' k1 k2 k3 _ ⟨rfl,rfl⟩
          exact hnext' κ' u k1 k2 k3
        · have hwant:=wanted_sound (κ:=κ) (hLκ ▸ hok) hEm q2 ((wants_same hgs).trans hw)
          rw[hwant]
          simp only[Bool.false_eq_true,if_false]
          exact hnext' κ undef (K.le.refl _) hi (by rw[hXi];rfl)
  have hrep:∀ j:Nat,(Array.replicate ops.size false).getD j false=false:=fun j=> by
    rcases Nat.lt_or_ge j ops.size with h | h <;> simp[h]
  have hunl:unl (Array.replicate ops.size false) ops.size=ops.size:=by
    have:∀ k,unl (Array.replicate ops.size false) k=k:=by
      intro k
      induction k with
      | zero=> rfl
      | succ k ihk=> unfold unl;rw[ihk,hrep k];rfl
    exact this _
  refine main ops.size (Array.replicate ops.size false) a0 κ0 (by simp) ?_ hunl (fun i _=> hrep i) (K.le.refl _) hi0 ?_ hn0 hd0
  · intro j o _ hj
    rw[hrep]at hj
    cases hj
  · intro s v hv
    have:cv ss X e0 (on (Array.replicate ops.size false)) s ss.length=e0.get s:=by
      have:=cv_skip (ss:=ss) (X:=X) (e0:=e0) (on:=on (Array.replicate ops.size false)) (s:=s) (i:=0) ss.length (fun j _ _ _=> hrep j)
      rwa [Nat.zero_add]at this
    rw[this]at hv
    exact hE0 s v hv
end
theorem CodeW.drawn2 {Pr:Prog}{ops:List SOper}{B:List Nat}{e:Env}{st:St}{Q:Out→Prop}(M:Nat)(lz:List Nat)(hs:sufOk ops B M lz=true)(hM:M≤ops.length)
    (h:DetW Pr ops (ops.take M) e st fun e'=> OpsW Pr ops (ops.drop M) e' st fun e'' st''=> Q (.normal,e'',st'')):CodeW Pr (.region ops true B) e st Q:=by
  intro P L ht n code hok κ a R hL hi hE hn hR
  simp only[okCode]at hok
  split at hok
  case h_2=> cases hok
  rename_i id aops d'
  simp only[Bool.and_eq_true,beq_iff_eq,Bool.or_eq_true,Bool.not_eq_true']at hok
  obtain⟨⟨rfl,h1⟩,h2⟩:=hok
  have h2:=h2.resolve_left (by simp)
  simp only[okDraw2,Bool.and_eq_true]at h2
  obtain⟨⟨hB,hN⟩,_⟩:=h2
  simp only[sufOk,Bool.and_eq_true]at hs
  obtain⟨⟨hs1,hs2⟩,hx⟩:=hs
  have hN:=okNames_of hN hx
  have hsuf:∀ j,M≤j→j < ops.length→∀ i,i < j→i∈lz∨(B.getD j 0).testBit i=true:=by
    intro j hj hjl i hij
    have:=List.all_eq_true.1 hs1 j (List.mem_range.2 hjl)
    simp only[Bool.or_eq_true,decide_eq_true_eq]at this
    rcases this with h | h
    · omega
    · have:=List.all_eq_true.1 h i (List.mem_range.2 hij)
      simpa using this
  have hlz:lz.all (fun z=> lazyOk ops z)=true:=List.all_eq_true.2 fun z hz=> by
    have:=List.all_eq_true.1 hs2 z hz
    simp only[Bool.and_eq_true]at this
    exact this.2
  have hlm:∀ z∈lz,z < M:=fun z hz=> by
    have:=List.all_eq_true.1 hs2 z hz
    simp only[Bool.and_eq_true,decide_eq_true_eq]at this
    exact this.1
  refine wp_region_any ht.m ?_
  obtain⟨g1,g2⟩:=hi.grow (w':={κ.w with drawn:=κ.w.drawn+1}) (grownBy_heap rfl rfl rfl rfl)
  obtain⟨hlen,_⟩:=okOpers_get h1
  have hlen':aops.size=ops.length:=by simpa using hlen
  refine head_sound ht hM h1 hB hN hsuf hlz hlm (κ0:=κ.to {κ.w with drawn:=κ.w.drawn+1}) hL h g2 (hE.mono g1) hn rfl ?_
  intro listed e' a' κ' hq hp
  refine tail_sound ht h1 hB hN hsuf hlz hlm (κ0:=κ.to {κ.w with drawn:=κ.w.drawn+1}) hL (st0:=st) (Q':=fun e'' st''=> Q (.normal,e'',st'')) ?_ _ M listed e' st a' κ' rfl (Nat.le_refl _) (by omega) hp hq (Fl.refl _)
  intro κ2 a2 e2 st2 q1 q2 q3 q4 q5 q6 q7
  exact hR (.normal,e2,st2) κ2 a2 q1 q2 (g1.trans q3) q4 q5 q6 q7
end Go.Sh
namespace Go.Sh
open Go.RowKit
def Stab (Pr:Prog)(e:Env)(st:St):List SOper→Prop
  | []=> True
  | s::r=> (∃ d v,s.dst=some d∧e.get d=some v∧OpW Pr e st s.op (fun v' s'=> v'=v∧s'=st))∧Stab Pr e st r
theorem Stab.mem {Pr:Prog}{e:Env}{st:St}:∀ {rd:List SOper},Stab Pr e st rd→∀ s∈rd,∃ d v,s.dst=some d∧e.get d=some v∧OpW Pr e st s.op (fun v' s'=> v'=v∧s'=st)
  | [],_,s,hs=> by cases hs
  | x::r,h,s,hs=> by
    cases hs with
    | head=> exact h.1
    | tail _ hs=> exact Stab.mem h.2 s hs
def SemiW (Pr:Prog)(rd:List SOper):List SOper→Env→St→(Env→St→Prop)→Prop
  | [],e,st,Q=> Stab Pr e st rd∧Q e st
  | o::r,e,st,Q=> Stab Pr e st rd∧OpW Pr e st o.op fun v st'=> SemiW Pr rd r (put e o.dst v) st' Q
theorem SemiW.stab {Pr:Prog}{rd:List SOper}{c:List SOper}{e:Env}{st:St}{Q:Env→St→Prop}(h:SemiW Pr rd c e st Q):Stab Pr e st rd:=by
  cases c with
  | nil=> exact h.1
  | cons _ _=> exact h.1
def picks (ss:List SOper)(l:List Nat):List SOper:=l.filterMap (ss[·]?)
def rdOk (ss:List SOper)(z:Nat):Bool:=match ss[z]? with
  | some ⟨some d,none,op⟩=> !op.tms.contains d && (List.range ss.length).all fun i=> match ss[i]? with
    | some s=> i==z || (s.dst !=some d && (decide (z < i) || !(names ss s).contains d))
    | none=> true
  | _=> false
def chOk (ss:List SOper)(B:List Nat)(c:Nat):Bool:=match ss[c]? with
  | some ⟨_,none,_⟩=> true
  | _=> false
def chain (B:List Nat):List Nat→Bool
  | []=> true
  | c::r=> r.all (fun j=> decide (c < j) && (B.getD j 0).testBit c) && chain B r
def semiOk (ss:List SOper)(B:List Nat)(M:Nat)(rd ch lz:List Nat):Bool:=
  decide (M≤ss.length) && ((List.range M).all fun i=> rd.contains i || ch.contains i) && rd.all (fun z=> decide (z < M) && !ch.contains z && rdOk ss z) && ch.all (fun c=> decide (c < M) && chOk ss B c) && chain B ch &&
    ((List.range ss.length).all fun j=> decide (j < M) || ((List.range j).all fun i=> lz.contains i || (B.getD j 0).testBit i)) && (lz.all fun z=> rd.contains z && lazyOk ss z) && noX ss
section
variable {Pr:Prog}{P:Program}{L:Link}{n:Nat}
structure PlaceS (Pr:Prog)(ops:Array Oper)(ss:List SOper)(M:Nat)(rd:List Nat)(κ0 κ:K)(n:Nat)(d0:List Deferred)(r:List Nat)(done:List Nat)(listed:Array Bool)(e:Env)(st:St)(a:Act):Prop where
  size:listed.size=ops.size
  closed:Closed ops listed
  todo:∀ i∈r,listed.getD i false=false
  done:∀ i∈done,listed.getD i false=true
  behind:∀ i,M≤i→listed.getD i false=false
  le:κ0.le κ
  inv:Inv Pr κ st
  env:∀ s v,e.get s=some v→(∃ z∈rd,listed.getD z false=false∧(ss[z]?).bind (·.dst)=some s)∨(s < a.tmps.size∧Rep κ v (a.tmps.getD s undef))
  tmps:a.tmps.size=n
  defs:a.defers=d0
theorem semi_sound (ht:Tie P Pr L){ops:Array Oper}{ss:List SOper}{B:List Nat}{M:Nat}{rd ch lz:List Nat}(hok:okOpers P L n ops.toList ss=true)(hB:okAnc B ops.toList 0=true)(hN:okNames ss B=true)(hsemi:semiOk ss B M rd ch lz=true)
    {κ0:K} (hL:κ0.L=L) {d0:List Deferred} {st0:St} {Q':Env→St→Prop} {R:Exit→Act→World→Prop}
    (hfin:∀ κ' a' e' st',Q' e' st'→Fl st0 st'→κ0.le κ'→Inv Pr κ' st'→ERel κ' e' a'→a'.tmps.size=n→a'.defers=d0→R .normal a' κ'.w):
    ∀ (fuel:Nat) (r dn:List Nat) (listed:Array Bool) (e:Env) (st:St) (a:Act) (κ:K),unl listed ops.size=fuel→ch=dn++r→PlaceS Pr ops ss M rd κ0 κ n d0 r dn listed e st a→SemiW Pr (picks ss rd) (picks ss r) e st (fun e' st'=> OpsW Pr ss (ss.drop M) e' st' Q')→Fl st0 st→wpAny P .any ops R fuel listed a κ.w:=by
  obtain⟨hlen,hops⟩:=okOpers_get hok
  have hlen':ops.size=ss.length:=by simpa using hlen
  simp only[semiOk,Bool.and_eq_true,decide_eq_true_eq]at hsemi
  obtain⟨⟨⟨⟨⟨⟨⟨hM,hall⟩,hrd⟩,hch⟩,hcn⟩,hsu⟩,hlzz⟩,hx⟩:=hsemi
  have hlz:lz.all (fun z=> lazyOk ss z)=true:=List.all_eq_true.2 fun z hz=> by
    have:=List.all_eq_true.1 hlzz z hz
    simp only[Bool.and_eq_true]at this
    exact this.2
  have hlr:∀ z∈lz,z∈rd:=fun z hz=> by
    have:=List.all_eq_true.1 hlzz z hz
    simp only[Bool.and_eq_true]at this
    simpa using this.1
  have hcov:∀ i,i < M→i∈rd∨i∈ch:=fun i hi=> by
    have:=List.all_eq_true.1 hall i (List.mem_range.2 hi)
    simpa using this
  have hrd1:∀ z∈rd,z < M∧z∉ch∧rdOk ss z=true:=fun z hz=> by
    have:=List.all_eq_true.1 hrd z hz
    simpa[and_assoc]using this
  have hch1:∀ c∈ch,c < M∧chOk ss B c=true:=fun c hc=> by
    have:=List.all_eq_true.1 hch c hc
    simpa using this
  have hsuf:∀ j,M≤j→j < ss.length→∀ i,i < j→i∈lz∨(B.getD j 0).testBit i=true:=fun j hj hjl i hij=> by
    have:=List.all_eq_true.1 hsu j (List.mem_range.2 hjl)
    simp only[Bool.or_eq_true,decide_eq_true_eq]at this
    rcases this with h | h
    · omega
    · simpa using List.all_eq_true.1 h i (List.mem_range.2 hij)
  have hcons:∀ {r:List Nat} {c:Nat},chain B (c::r)=true→∀ j∈r,c < j∧(B.getD j 0).testBit c=true:=fun h j hj=> by
    simp only[chain,Bool.and_eq_true]at h
    have:=List.all_eq_true.1 h.1 j hj
    simpa using this
  have htl:∀ {d r:List Nat},chain B (d++r)=true→chain B r=true:=by
    intro d
    induction d with
    | nil=> exact fun h=> h
    | cons x d ih=>
      intro r h
      simp only[List.cons_append,chain,Bool.and_eq_true]at h
      exact ih h.2
  have hrs:∀ z∈rd,∃ d op,ss[z]? =some ⟨some d,none,op⟩∧d∉op.tms∧∀ i s,ss[i]? =some s→i≠z→s.dst≠some d∧(z < i∨d∉names ss s):=by
    intro z hz
    have h:=(hrd1 z hz).2.2
    unfold rdOk at h
    split at h
    case h_2=> cases h
    rename_i d op hs
    simp only[Bool.and_eq_true]at h
    refine⟨d,op,hs,by simpa using h.1,fun i s hi hne=> ?_⟩
    have:=List.all_eq_true.1 h.2 i (List.mem_range.2 (List.getElem?_eq_some_iff.1 hi).1)
    rw[hi]at this
    simpa[hne]using this
  have hmem:∀ {l:List Nat} {i:Nat} {s:SOper},i∈l→ss[i]? =some s→s∈picks ss l:=fun hi hs=> List.mem_filterMap.2 ⟨_,hi,hs⟩
  have fin:∀ (fuel:Nat) (r dn:List Nat) (listed:Array Bool) (e:Env) (st:St) (a:Act) (κ:K),unl listed ops.size=fuel→ch=dn++r→PlaceS Pr ops ss M rd κ0 κ n d0 r dn listed e st a→SemiW Pr (picks ss rd) (picks ss r) e st (fun e' st'=> OpsW Pr ss (ss.drop M) e' st' Q')→Fl st0 st→(∀ i,i < M→i∉lz→listed.getD i false=true)→wpAny P .any ops R fuel listed a κ.w:=by
    intro fuel r dn listed e st a κ hu hcd hp hq hf hal
    have hr:r= []:=by
      cases r with
      | nil=> rfl
      | cons c r=>
        have h1:=hp.todo c List.mem_cons_self
        rw[hal c (hch1 c (by rw[hcd];simp)).1 (fun h=> (hrd1 c (hlr c h)).2.1 (by rw[hcd];simp))]at h1
        cases h1
    subst hr
    have hq2:OpsW Pr ss (ss.drop M) e st Q':=hq.2
    refine tail_sound ht (lz:=lz) hok hB hN hsuf hlz (fun z hz=> (hrd1 z (hlr z hz)).1) hL hfin fuel M listed e st a κ hu (Nat.le_refl _) (by omega) ?_ hq2 hf
    refine⟨hp.size,hp.closed,hal,hp.behind,hp.le,hp.inv,fun s v hv=> ?_,hp.tmps,hp.defs,fun z hz=> ?_⟩
    rcases hp.env s v hv with⟨z,hz1,hz2,_⟩ | h
    · by_cases hzl:z∈lz
      · exact .inl ⟨z,hzl,hz2,‹_›⟩
      · rw[hal z (hrd1 z hz1).1 hzl]at hz2
        cases hz2
    · exact .inr h
    · obtain⟨d,op,hs,_⟩:=hrs z (hlr z hz)
      have hzz:=List.all_eq_true.1 hlz z hz
      unfold lazyOk at hzz
      rw[hs]at hzz
      split at hzz
      case h_2=> cases hzz
      rename_i d2 r2 heq
      simp only[Option.some.injEq,SOper.mk.injEq,true_and]at heq
      obtain⟨rfl,rfl⟩:=heq
      obtain⟨d',v,e1,e2,h2⟩:=hq.stab.mem _ (hmem (hlr z hz) hs)
      simp only[Option.some.injEq]at e1
      subst e1
      have h2:OpW Pr e st (.mov (.t r2)) (fun v' s'=> v'=v∧s'=st):=h2
      unfold OpW at h2
      simp only[opS]at h2
      refine⟨d,r2,v,hs,?_,e2⟩
      split at h2
      · rename_i v' s' hop
        obtain⟨rfl,_⟩:=h2
        cases hg:Opd.ev Pr e (.t r2) with
        | none=> rw[hg]at hop;cases hop
        | some w=>
          rw[hg]at hop
          simp only[bind1,pureR,Option.some.injEq,Prod.mk.injEq]at hop
          rw[← hop.1]
          exact hg
      · exact h2.elim
  intro fuel
  induction fuel with
  | zero=>
    intro r dn listed e st a κ hu hcd hp hq hf
    exact fin 0 r dn listed e st a κ hu hcd hp hq hf fun i hi _=> unl_zero hu i (by omega)
  | succ fuel ih=>
    intro r dn listed e st a κ hu hcd hp hq hf
    by_cases hal:∀ i,i < M→i∉lz→listed.getD i false=true
    · exact fin _ r dn listed e st a κ hu hcd hp hq hf hal
    obtain⟨i0,hi0⟩:=Classical.not_forall.1 hal
    have hi0M:i0 < M:=by
      rcases Nat.lt_or_ge i0 M with h | h
      · exact h
      · exact absurd (fun h'=> absurd h' (by omega)) hi0
    have hi0l:i0∉lz:=fun h=> hi0 fun _ h'=> absurd h h'
    have hi0u:listed.getD i0 false=false:=by
      cases hq:listed.getD i0 false with
      | true=> exact absurd (fun _ _=> hq) hi0
      | false=> rfl
    refine⟨fun hr=> ?_,fun i hri=> ?_⟩
    · have:=ready_none hB hp.size hr i0 (by omega)
      rw[hi0u]at this
      cases this
    obtain⟨o,ho,hil,hiun,hneeds,hbefore,hafter⟩:=ready_facts hB hp.size hp.closed hri
    have hun:unl (listed.setIfInBounds i true) ops.size=fuel:=by
      have:=unl_set (listed:=listed) hiun hil (by have:=hp.size;omega)
      omega
    have hiM:i < M:=by
      rcases Nat.lt_or_ge i M with h | h
      · exact h
      · rw[hbefore i0 ((hsuf i h (by omega) i0 (by omega)).resolve_left hi0l)]at hi0u
        cases hi0u
    obtain⟨s,hs⟩:∃ s,ss[i]? =some s:=⟨ss[i]'(by omega),List.getElem?_eq_getElem (by omega)⟩
    obtain⟨q1,q2,q3,q4⟩:=okOper_spec (hops i o s (by simpa using ho) hs)
    have hLκ:κ.L=L:=hp.le.L.trans hL
    have hord:=hord_of hN
    have hEm:ERel κ (mask (s.op.tms) e) a:=by
      intro t v hv
      obtain⟨h1,h2⟩:=mask_get hv
      rcases hp.env t v h2 with⟨z,hz1,hz2,hz3⟩ | h
      · obtain⟨d,op,hsz,hown,hoth⟩:=hrs z hz1
        rw[hsz]at hz3
        simp only[Option.bind_some,Option.some.injEq]at hz3
        subst hz3
        have hnm:d∈names ss s:=by unfold names;simp[h1]
        by_cases hiz:i=z
        · subst hiz
          rw[hs]at hsz
          obtain rfl:=Option.some.inj hsz
          exact absurd h1 hown
        · have hzi:z < i:=((hoth i s hs hiz).2).resolve_right (fun h=> h hnm)
          have:=hord z i _ s d hsz hs (fun h=> hiz h.symm) rfl hnm
          unfold ordered at this
          rw[Nat.max_eq_right (by omega),Nat.min_eq_left (by omega)]at this
          rw[hbefore z this]at hz2
          cases hz2
      · exact h
    have hsame:Same s.op.tms e (mask s.op.tms e):=fun t ht'=> (mask_mem ht').symm
    have hnc:∀ z∈rd,z∉ch:=fun z hz=> (hrd1 z hz).2.1
    rcases hcov i hiM with hir | hic
    · obtain⟨d,op,hs',hown,hoth⟩:=hrs i hir
      have hse:s=⟨some d,none,op⟩:=Option.some.inj (hs.symm.trans hs')
      obtain⟨d',v,hd1,hd2,hop⟩:=hq.stab.mem s (hmem hir hs)
      have hd:d'=d:=by rw[hse]at hd1;exact(Option.some.inj hd1).symm
      subst hd
      have hg:s.guard=none:=by rw[hse]
      unfold wpOp
      rw[ho]
      simp only
      have hwant:=wanted_sound (κ:=κ) (b:=true) (hLκ ▸ hok) hEm q2 (by rw[hg];rfl)
      rw[if_pos hwant]
      refine .inl (opW_sound ht hLκ hp.inv hEm q4 (OpW_same hsame hop) ?_)
      rintro κ' u x st' k1 k2 k3 k4 ⟨rfl,rfl⟩
      refine ih r dn _ e _ _ κ' hun hcd ⟨by simpa using hp.size,closed_set hp.closed hp.size ho hneeds,fun j hj=> ?_,fun j hj=> ?_,fun j hj=> ?_,hp.le.trans k1,k2,fun t w hw=> ?_,by rw[put_size];exact hp.tmps,by rw[put_defs];exact hp.defs⟩ hq hf
      · rw[list_set hp.size hil,if_neg (fun e=> hnc i hir (by rw[hcd,← e];exact List.mem_append_right _ hj))]
        exact hp.todo j hj
      · rw[list_set hp.size hil]
        split
        · rfl
        · exact hp.done j hj
      · rw[list_set hp.size hil,if_neg (by omega)]
        exact hp.behind j hj
      · by_cases htd:t=d'
        · subst htd
          right
          rw[hd2]at hw
          obtain rfl:=Option.some.inj hw
          have hlt:t < a.tmps.size:=by rw[hp.tmps];exact q3 t hd1
          rw[put_size,q1,hd1]
          exact⟨hlt,by rw[act_put_eq hlt];exact k3⟩
        · rcases hp.env t w hw with⟨z,hz1,hz2,hz3⟩ | ⟨h1,h2⟩
          · left
            refine⟨z,hz1,?_,hz3⟩
            rw[list_set hp.size hil,if_neg]
            · exact hz2
            · rintro rfl
              rw[hs]at hz3
              simp only[Option.bind_some]at hz3
              rw[hd1]at hz3
              exact htd (Option.some.inj hz3).symm
          · right
            rw[put_size,q1]
            exact⟨h1,by rw[act_put_ne (by rw[hd1];exact fun h=> htd (Option.some.inj h).symm)];exact Rep.mono k1 h2⟩
    · have hir:i∈r:=by
        rw[hcd]at hic
        rcases List.mem_append.1 hic with h | h
        · rw[hp.done i h]at hiun
          cases hiun
        · exact h
      obtain⟨r',rfl⟩:∃ r',r=i::r':=by
        cases r with
        | nil=> cases hir
        | cons c r'=>
          by_cases hci:i=c
          · exact⟨r',by rw[hci]⟩
          · have hm:i∈r':=by
              cases hir with
              | head=> exact absurd rfl hci
              | tail _ h=> exact h
            have h1:=(hcons (htl (hcd ▸ hcn)) i hm).2
            have h2:=hp.todo c List.mem_cons_self
            rw[hbefore c h1]at h2
            cases h2
      have hg:s.guard=none:=by
        have h:=(hch1 i hic).2
        unfold chOk at h
        rw[hs]at h
        obtain⟨sd,sg,sp⟩:=s
        cases sg with
        | none=> rfl
        | some _=> simp at h
      have hpk:picks ss (i::r')=s::picks ss r':=by
        unfold picks
        rw[List.filterMap_cons,hs]
      rw[hpk]at hq
      have hop:OpW Pr e st s.op fun v st'=> SemiW Pr (picks ss rd) (picks ss r') (put e s.dst v) st' (fun e' st'=> OpsW Pr ss (ss.drop M) e' st' Q'):=hq.2
      have hcl:=hcons (htl (hcd ▸ hcn))
      unfold wpOp
      rw[ho]
      simp only
      have hwant:=wanted_sound (κ:=κ) (b:=true) (hLκ ▸ hok) hEm q2 (by rw[hg];rfl)
      rw[if_pos hwant]
      refine .inl (opW_sound ht hLκ hp.inv hEm q4 (OpW_same hsame hop) ?_)
      intro κ' u x st' k1 k2 k3 k4 k5
      refine ih r' (dn++ [i]) _ _ st' _ κ' hun (by simp[hcd]) ⟨by simpa using hp.size,closed_set hp.closed hp.size ho hneeds,fun j hj=> ?_,fun j hj=> ?_,fun j hj=> ?_,hp.le.trans k1,k2,fun t w hw=> ?_,by rw[put_size];exact hp.tmps,by rw[put_defs];exact hp.defs⟩ k5 (hf.trans k4)
      · have:=(hcl j hj).1
        rw[list_set hp.size hil,if_neg (by omega)]
        exact hp.todo j (List.mem_cons_of_mem _ hj)
      · rw[list_set hp.size hil]
        split
        · rfl
        · rcases List.mem_append.1 hj with h | h
          · exact hp.done j h
          · rename_i hne
            exact absurd (by simpa using h) hne
      · rw[list_set hp.size hil,if_neg (by omega)]
        exact hp.behind j hj
      · by_cases htd:s.dst=some t
        · right
          rw[htd]at hw
          simp only[put,Env.get,if_true,Option.some.injEq]at hw
          subst hw
          have hlt:t < a.tmps.size:=by rw[hp.tmps];exact q3 t htd
          rw[put_size,q1,htd]
          exact⟨hlt,by rw[act_put_eq hlt];exact k3⟩
        · rw[put_get_ne htd]at hw
          rcases hp.env t w hw with⟨z,hz1,hz2,hz3⟩ | ⟨h1,h2⟩
          · left
            refine⟨z,hz1,?_,hz3⟩
            rw[list_set hp.size hil,if_neg]
            · exact hz2
            · rintro rfl
              exact hnc z hz1 hic
          · right
            rw[put_size,q1]
            exact⟨h1,by rw[act_put_ne htd];exact Rep.mono k1 h2⟩
theorem detW_told {all:List SOper}{st:St}:∀ {l:List SOper} {e:Env} {Q:Env→Prop},DetW Pr all l e st Q→∃ e1,Q e1∧∀ s v,e1.get s=some v→(∃ o∈l,o.dst=some s)∨e.get s=some v
  | [],e,Q,h=> ⟨e,h,fun s v hv=> .inr hv⟩
  | o::r,e,Q,h=> by
    have key:∀ x,DetW Pr all r (put e o.dst x) st Q→∃ e1,Q e1∧∀ s v,e1.get s=some v→(∃ o'∈o::r,o'.dst=some s)∨e.get s=some v:=by
      intro x hx
      obtain⟨e1,h1,h2⟩:=detW_told hx
      refine⟨e1,h1,fun s v hv=> ?_⟩
      rcases h2 s v hv with⟨o',h3,h4⟩ | h3
      · exact .inl ⟨o',List.mem_cons_of_mem _ h3,h4⟩
      · by_cases hd:o.dst=some s
        · exact .inl ⟨o,List.mem_cons_self,hd⟩
        · rw[put_get_ne hd]at h3
          exact .inr h3
    simp only[DetW]at h
    split at h
    · obtain⟨v,_,h2⟩:=h
      exact key v h2
    · exact key .un h
    · exact h.elim
end
theorem CodeW.drawn3 {Pr:Prog}{ops:List SOper}{B:List Nat}{e:Env}{st:St}{Q:Out→Prop}(M:Nat)(rd ch lz:List Nat)(hs:semiOk ops B M rd ch lz=true)
    (h:DetW Pr ops (picks ops rd) e st fun e'=> SemiW Pr (picks ops rd) (picks ops ch) e' st fun e' st'=> OpsW Pr ops (ops.drop M) e' st' fun e'' st''=> Q (.normal,e'',st'')):CodeW Pr (.region ops true B) e st Q:=by
  intro P L ht n code hok κ a R hL hi hE hn hR
  simp only[okCode]at hok
  split at hok
  case h_2=> cases hok
  rename_i id aops d'
  simp only[Bool.and_eq_true,beq_iff_eq,Bool.or_eq_true,Bool.not_eq_true']at hok
  obtain⟨⟨rfl,h1⟩,h2⟩:=hok
  have h2:=h2.resolve_left (by simp)
  simp only[okDraw2,Bool.and_eq_true]at h2
  obtain⟨⟨hB,hN⟩,_⟩:=h2
  refine wp_region_any ht.m ?_
  obtain⟨g1,g2⟩:=hi.grow (w':={κ.w with drawn:=κ.w.drawn+1}) (grownBy_heap rfl rfl rfl rfl)
  obtain⟨hlen,_⟩:=okOpers_get h1
  obtain⟨e1,h3,h4⟩:=detW_told h
  have hrep:∀ j:Nat,(Array.replicate aops.size false).getD j false=false:=fun j=> by
    rcases Nat.lt_or_ge j aops.size with h | h <;> simp[h]
  have hunl:unl (Array.replicate aops.size false) aops.size=aops.size:=by
    have:∀ k,unl (Array.replicate aops.size false) k=k:=by
      intro k
      induction k with
      | zero=> rfl
      | succ k ihk=> unfold unl;rw[ihk,hrep k];rfl
    exact this _
  have hx:noX ops=true:=by
    have:=hs
    simp only[semiOk,Bool.and_eq_true]at this
    exact this.2
  refine semi_sound ht (n:=n) h1 hB (okNames_of hN hx) hs (κ0:=κ.to {κ.w with drawn:=κ.w.drawn+1}) hL (st0:=st) (d0:=a.defers) (Q':=fun e'' st''=> Q (.normal,e'',st'')) ?_ aops.size ch [] (Array.replicate aops.size false) e1 st a (κ.to {κ.w with drawn:=κ.w.drawn+1}) hunl rfl ?_ h3 (Fl.refl _)
  · intro κ2 a2 e2 st2 q1 q2 q3 q4 q5 q6 q7
    exact hR (.normal,e2,st2) κ2 a2 q1 q2 (g1.trans q3) q4 q5 q6 q7
  · refine⟨by simp,?_,fun i _=> hrep i,(fun i hi=> by cases hi),fun i _=> hrep i,K.le.refl _,g2,fun s v hv=> ?_,hn,rfl⟩
    · intro j o _ hj
      rw[hrep]at hj
      cases hj
    · rcases h4 s v hv with⟨o,ho,hd⟩ | h5
      · left
        obtain⟨z,hz1,hz2⟩:=List.mem_filterMap.1 ho
        exact⟨z,hz1,hrep z,by rw[hz2];exact hd⟩
      · exact .inr ((hE.mono g1) s v h5)
end Go.Sh
