/- Part of the proof. -/
import Derived.Test.YtidigkielipghaaGreatDoorShLnr1
import Derived.Test.YtidigkielipghaaGreatDoorShLnoC
set_option linter.unusedVariables false
set_option linter.unusedSimpArgs false
set_option linter.unusedSectionVars false
namespace Go.Sh
theorem find_map (n:Byt8)(f:Byt8→V):∀ (l:List Byt8),findE (.s n) (l.map fun n=> (D.s n,f n))=some (if n∈l then some (f n) else none)
  | []=> by simp[findE]
  | k::r=> by
    rw[List.map_cons,findE]
    by_cases h:n=k
    · subst h
      simp[eqD]
    · have h':(n==k)=false:=by simpa using h
      simp[eqD,h',find_map n f r,h]
theorem set_map (n:Byt8)(f:Byt8→V)(v:V):∀ (l:List Byt8),l.Nodup→setE (.s n) v (l.map fun n=> (D.s n,f n))=some ((if n∈l then l else l++ [n]).map fun x=> (D.s x,if x=n then v else f x))
  | [],_=> by simp[setE]
  | k::r,h=> by
    have ih:=set_map n f v r (List.nodup_cons.1 h).2
    rw[List.map_cons,setE]
    by_cases e:n=k
    · subst e
      have hn:=(List.nodup_cons.1 h).1
      have hr:r.map (fun x=> (D.s x,f x))=r.map fun x=> (D.s x,if x=n then v else f x):=List.map_congr_left fun x hx=> by
        rw[if_neg]
        rintro rfl
        exact hn hx
      simp[eqD,hr]
    · have h':(n==k)=false:=by simpa using e
      have e':¬ k=n:=fun a=> e a.symm
      by_cases hm:n∈r
      · simp[eqD,h',ih,hm,e,e']
      · simp[eqD,h',ih,hm,e,e']
structure UI (m:Nat)(G:Gth)(T:Byt8→Bool→Nat)(P:List (Nat×List V))(st:St):Prop where
  fl:st.floor=0
  tf:st.tfloor=0
  mp:st.mapOf m=some ((keysN G).map fun n=> (.s n,.agg (knV (getN' n G) (T n false) (T n true))))
  nd:(keysN G).Nodup
  tk:∀ n b,usd G n b≠0→st.tips[T n b]? =some (usd G n b)
  ti:∀ n b n' b',usd G n b≠0→usd G n' b'≠0→T n b=T n' b'→n=n'∧b=b'
  pv:∀ x∈P,st.row x.1=some x.2
def US (m:Nat)(G:Gth)(P:List (Nat×List V))(st:St):Prop:=∃ T,UI m G T P st
def UC (m:Nat)(G:Gth)(P:List (Nat×List V))(n:Byt8)(a c e:V)(st:St):Prop:=∃ T,UI m G T P st∧knV (getN' n G) (T n false) (T n true)= [a,c,e]
section
variable {m:Nat}{G:Gth}{P:List (Nat×List V)}{st st':St}{T T':Byt8→Bool→Nat}{n:Byt8}
theorem UI.kp (h:UI m G T P st){A B:Nat→Prop}(k:Kp st st' A B)(hm:¬ A m)(hT:∀ n b,usd G n b≠0→¬ B (T n b))(hP:∀ x∈P,¬ A x.1):UI m G T P st':=
  ⟨k.floor.trans h.fl,k.tfloor.trans h.tf,(map_of_heap (k.heap m (map_lt h.mp) hm)).trans h.mp,h.nd,
    fun n b hu=> (k.tips _ (List.getElem?_eq_some_iff.1 (h.tk n b hu)).1 (hT n b hu)).trans (h.tk n b hu),h.ti,fun x hx=> (row_of_heap (k.heap _ (row_lt (h.pv x hx)) (hP x hx))).trans (h.pv x hx)⟩
theorem UI.push (h:UI m G T P st)(cs:List V):UI m G T ((st.heap.length,cs)::P) (st.push (.row cs)):=by
  have h':=h.kp (A:=fun _=> False) (B:=fun _=> False) (.push (.row cs)) (fun e=> e) (fun _ _ _ e=> e) (fun _ _ e=> e)
  refine⟨h'.fl,h'.tf,h'.mp,h'.nd,h'.tk,h'.ti,?_⟩
  intro x hx
  rcases List.mem_cons.1 hx with rfl | hx
  · exact row_push_new rfl
  · exact h'.pv x hx
theorem UI.sub {P':List (Nat×List V)}(h:UI m G T P st)(hs:∀ x∈P',x∈P):UI m G T P' st:=⟨h.fl,h.tf,h.mp,h.nd,h.tk,h.ti,fun x hx=> h.pv x (hs x hx)⟩
theorem US.push (h:US m G P st)(cs:List V):US m G ((st.heap.length,cs)::P) (st.push (.row cs)):=by
  obtain⟨T,h⟩:=h
  exact⟨T,h.push cs⟩
theorem US.sub {P':List (Nat×List V)}(h:US m G P st)(hs:∀ x∈P',x∈P):US m G P' st:=by
  obtain⟨T,h⟩:=h
  exact⟨T,h.sub hs⟩
theorem US.fl (h:US m G P st):st.floor=0:=by
  obtain⟨T,h⟩:=h
  exact h.fl
theorem US.pr (h:US m G P st){i:Nat}{cs:List V}(hx:(i,cs)∈P):st.row i=some cs:=by
  obtain⟨T,h⟩:=h
  exact h.pv _ hx
theorem UC.push {a c e:V}(h:UC m G P n a c e st)(cs:List V):UC m G ((st.heap.length,cs)::P) n a c e (st.push (.row cs)):=by
  obtain⟨T,h,h2⟩:=h
  exact⟨T,h.push cs,h2⟩
theorem US.look (h:US m G P st)(n:Byt8):∃ a c e,lookV true false (.agg [.d (.sl 0 false []),.d (.sl 0 false []),.d (.b false)]) st (.map m) (.d (.s n))=some (.agg [a,c,e])∧UC m G P n a c e st:=by
  obtain⟨T,h⟩:=h
  by_cases hn:n∈keysN G
  · refine⟨_,_,_,?_,T,h,rfl⟩
    have hf:=find_map n (fun n=> .agg (knV (getN' n G) (T n false) (T n true))) (keysN G)
    rw[if_pos hn]at hf
    simp[lookV,keyOk,h.mp,hf,lookOut]
    rfl
  · refine⟨_,_,_,?_,T,h,rfl⟩
    have hf:=find_map n (fun n=> .agg (knV (getN' n G) (T n false) (T n true))) (keysN G)
    rw[if_neg hn]at hf
    simp[lookV,keyOk,h.mp,hf,lookOut,get_not hn,kn0,grl]
theorem UI.set (h:UI m G T P st){k':Kn}{A B:Nat→Prop}(k:Kp st st' A B)(hA:¬ A m){P':List (Nat×List V)}(hP:∀ x∈P',x∈P∧¬ A x.1)(hB:∀ t,B t→∃ b,usd G n b≠0∧t=T n b)
    (hT:∀ x b,x≠n→T' x b=T x b) (hu:∀ b,lenK k' b≠0→st'.tips[T' n b]? =some (lenK k' b)∧(usd G n b≠0∧T' n b=T n b∨st.tips.length≤T' n b)) (hd:lenK k' false≠0→lenK k' true≠0→T' n false≠T' n true):
    ∃ s5,mapSetV true st' (.map m) (.d (.s n)) (.agg (knV k' (T' n false) (T' n true)))=some s5∧UI m (updN n (fun _=> k') G) T' P' s5:=by
  have hg:∀ x,getN' x (updN n (fun _=> k') G)=if n=x then k' else getN' x G:=fun x=> by
    rw[get_upd]
    by_cases e:x=n
    · rw[if_pos e,if_pos e.symm]
    · rw[if_neg e,if_neg fun a=> e a.symm]
  have hus:∀ x b,usd (updN n (fun _=> k') G) x b=if n=x then lenK k' b else usd G x b:=fun x b=> by
    rw[usd_eq,hg,usd_eq]
    split <;> rfl
  have htl:∀ x b,usd G x b≠0→T x b < st.tips.length:=fun x b hx=> (List.getElem?_eq_some_iff.1 (h.tk x b hx)).1
  have hold:∀ x b,x≠n→usd G x b≠0→st'.tips[T x b]? =some (usd G x b):=fun x b hx hux=> by
    rw[k.tips _ (htl x b hux),h.tk x b hux]
    intro hb
    obtain⟨b',h1,h2⟩:=hB _ hb
    exact hx (h.ti x b n b' hux h1 h2).1
  have hm':=(map_of_heap (k.heap m (map_lt h.mp) hA)).trans h.mp
  have hf':=k.floor.trans h.fl
  have hset:=set_map n (fun n=> .agg (knV (getN' n G) (T n false) (T n true))) (.agg (knV k' (T' n false) (T' n true))) (keysN G) h.nd
  refine⟨st'.putM m ((if n∈keysN G then keysN G else keysN G++ [n]).map fun x=> (D.s x,if x=n then V.agg (knV k' (T' n false) (T' n true)) else V.agg (knV (getN' x G) (T x false) (T x true)))),?_,?_⟩
  · simp[mapSetV,keyOk,hm',hset]
    exact setBlk_putM hf'
  · refine⟨hf',k.tfloor.trans h.tf,?_,?_,fun x b hx=> ?_,fun x b x' b' hx hx' e=> ?_,fun x hx=> ?_⟩
    · rw[mapOf_putM (map_lt hm'),keys_upd]
      refine congrArg some (List.map_congr_left fun x hx=> ?_)
      rw[hg]
      by_cases e:x=n
      · subst e
        rw[if_pos rfl,if_pos rfl]
      · rw[if_neg e,if_neg fun a=> e a.symm,hT x false e,hT x true e]
    · exact nodup_upd n _ h.nd
    · rw[hus]at hx ⊢
      show st'.tips[T' x b]? =_
      by_cases e:n=x
      · subst e
        rw[if_pos rfl]at hx ⊢
        exact(hu b hx).1
      · have e':x≠n:=fun a=> e a.symm
        rw[if_neg e]at hx ⊢
        rw[hT x b e']
        exact hold x b e' hx
    · rw[hus]at hx hx'
      by_cases e1:n=x
      · subst e1
        rw[if_pos rfl]at hx
        by_cases e2:n=x'
        · subst e2
          rw[if_pos rfl]at hx'
          refine⟨rfl,?_⟩
          cases b <;> cases b'
          · rfl
          · exact absurd e (hd hx hx')
          · exact absurd e.symm (hd hx' hx)
          · rfl
        · have e2':x'≠n:=fun a=> e2 a.symm
          rw[if_neg e2]at hx'
          rw[hT x' b' e2']at e
          rcases(hu b hx).2 with⟨h1,h2⟩ | h2
          · rw[h2]at e
            exact h.ti n b x' b' h1 hx' e
          · have:=htl x' b' hx'
            omega
      · have e1':x≠n:=fun a=> e1 a.symm
        rw[if_neg e1]at hx
        rw[hT x b e1']at e
        by_cases e2:n=x'
        · subst e2
          rw[if_pos rfl]at hx'
          rcases(hu b' hx').2 with⟨h1,h2⟩ | h2
          · rw[h2]at e
            exact h.ti x b n b' hx h1 e
          · have:=htl x b hx
            omega
        · have e2':x'≠n:=fun a=> e2 a.symm
          rw[if_neg e2]at hx'
          rw[hT x' b' e2']at e
          exact h.ti x b x' b' hx hx' e
    · obtain⟨h1,h2⟩:=hP x hx
      have hr:=h.pv x h1
      have hr':=(row_of_heap (k.heap _ (row_lt hr) h2)).trans hr
      rw[row_putM (row_map_ne hr' hm')]
      exact hr'
end
end Go.Sh
namespace Go.Sh
section
variable {m:Nat}{G:Gth}{P:List (Nat×List V)}{st:St}{n:Byt8}{a c e:V}{r:Nat}
theorem UC.fs (h:UC m G ((r,[a,c,e])::P) n a c e st)(hr:∀ x∈P,x.1≠r)(b:Bnd)(hb:(getN' n G).fs.length < 1099511627776):∃ x s3 s4 s5,appV 3 32 st a (.d (.sl 1 true b.cells))=some (x,s3)∧x.ok1=true∧x.cs= [x]∧s3.row r=some [a,c,e]∧s3.setBlk r (.row [x,c,e])=some s4∧s4.row r=some [x,c,e]∧(∀ y∈P,s4.row y.1=some y.2)∧mapSetV true s4 (.map m) (.d (.s n)) (.agg [x,c,e])=some s5∧US m (updN n (addFs b) G) P s5:=by
  obtain⟨T,h,h2⟩:=h
  simp only[knV,List.cons.injEq,and_true]at h2
  obtain⟨rfl,rfl,rfl⟩:=h2
  obtain⟨t',tips',h1,h2,h3,h4,h5⟩:=grl_app (by':=32) Bnd.c3 (l:=(getN' n G).fs) (t:=T n false) (st:=st) (fun hl=> h.tk n false (by simp[usd];exact hl)) h.tf b (by omega) (by omega)
  have hr0:=h.pv _ List.mem_cons_self
  simp only at hr0
  obtain⟨s3,hs3⟩:∃ s3:St,s3={st with tips:=tips'}:=⟨_,rfl⟩
  rw[← hs3]at h1
  have hr1:s3.row r=_:=(show s3.row r=st.row r by rw[hs3];rfl).trans hr0
  have hf1:s3.floor=0:=by rw[hs3];exact h.fl
  have hone:=grl_one Bnd.cells 3 ((getN' n G).fs++ [b]) t'
  have k1:Kp st s3 (fun i=> i=r) (fun u=> (getN' n G).fs≠ []∧u=T n false):=by
    refine⟨by rw[hs3],by rw[hs3],by rw[hs3];exact Nat.le_refl _,by rw[hs3];exact h2,fun i _ _=> by rw[hs3],fun u hu hnu=> ?_⟩
    rw[hs3]
    refine h3 u hu ?_
    by_cases e:(getN' n G).fs= []
    · exact .inl e
    · exact .inr fun e'=> hnu ⟨e,e'⟩
  have hlt:=row_lt hr1
  obtain⟨nr,hnr⟩:∃ nr:List V,nr= [grl Bnd.cells 3 ((getN' n G).fs++ [b]) t',grl TbS.cells 5 (getN' n G).ts (T n true),.d (.b (getN' n G).ex)]:=⟨_,rfl⟩
  have k2:=k1.trans (Kp.put (id:=r) (cs:=nr) rfl)
  have hr2:(s3.put r nr).row r=some nr:=row_put_eq hlt
  have hmr:¬ m=r:=fun e=> row_map_ne hr0 h.mp e.symm
  obtain⟨T',hT'⟩:∃ T':Byt8→Bool→Nat,∀ x d,T' x d=if x=n∧d=false then t' else T x d:=⟨_,fun _ _=> rfl⟩
  have hTn:T' n false=t':=by rw[hT',if_pos ⟨rfl,rfl⟩]
  have hTo:T' n true=T n true:=by rw[hT',if_neg (fun e=> by cases e.2)]
  obtain⟨s5,q1,q2⟩:=h.set (n:=n) (k':=addFs b (getN' n G)) (T':=T') k2 hmr (P':=P) (fun x hx=> ⟨List.mem_cons_of_mem _ hx,hr x hx⟩) (by
    rintro t ⟨e1,rfl⟩
    exact⟨false,by simp[usd];exact e1,rfl⟩) (fun x d hx=> by rw[hT',if_neg fun e=> hx e.1]) (fun d hd=> by
    cases d
    · rw[hTn]
      refine⟨?_,?_⟩
      · simp only[lenK,addFs]
        rw[← h4]
        show(St.put _ _ _).tips[t']? =_
        simp[St.put,hs3]
      · rcases h5 with⟨h5,rfl⟩ | h5
        · exact .inl ⟨by simp[usd];exact h5,rfl⟩
        · exact .inr (by omega)
    · rw[hTo]
      have hu:usd G n true≠0:=by simpa[lenK,addFs,usd]using hd
      refine⟨?_,.inl ⟨hu,rfl⟩⟩
      have ht:=h.tk n true hu
      rw[k2.tips _ (List.getElem?_eq_some_iff.1 ht).1,ht]
      · rfl
      · rintro⟨e1,e2⟩
        have:=(h.ti n true n false hu (by simp[usd];exact e1) e2).2
        cases this) (fun hd1 hd2=> by
    rw[hTn,hTo]
    have hu:usd G n true≠0:=by simpa[lenK,addFs,usd]using hd2
    have ht:=h.tk n true hu
    have hlt':=(List.getElem?_eq_some_iff.1 ht).1
    rcases h5 with⟨h5,rfl⟩ | h5
    · intro e
      have:=(h.ti n false n true (by simp[usd];exact h5) hu e).2
      cases this
    · omega)
  have hkn:knV (addFs b (getN' n G)) (T' n false) (T' n true)=nr:=by
    rw[hTn,hTo,hnr]
    rfl
  rw[hkn]at q1
  rw[← upd_const n (addFs b)]at q2
  refine⟨_,s3,s3.put r nr,s5,h1,hone.1,hone.2,hr1,by rw[hnr];exact setBlk_put hf1,by rw[hr2,hnr],fun y hy=> ?_,by rw[← hnr];exact q1,T',q2⟩
  have hy:=h.pv _ (List.mem_cons_of_mem _ hy)
  exact(row_of_heap (k2.heap _ (row_lt hy) (hr y ‹_›))).trans hy
theorem UC.ts (h:UC m G ((r,[a,c,e])::P) n a c e st)(hr:∀ x∈P,x.1≠r)(b:TbS)(hb:(getN' n G).ts.length < 1099511627776):∃ x s3 s4 s5,appV 5 48 st c (.d (.sl 1 true b.cells))=some (x,s3)∧x.ok1=true∧x.cs= [x]∧s3.row r=some [a,c,e]∧s3.setBlk r (.row [a,x,e])=some s4∧s4.row r=some [a,x,e]∧(∀ y∈P,s4.row y.1=some y.2)∧mapSetV true s4 (.map m) (.d (.s n)) (.agg [a,x,e])=some s5∧US m (updN n (addTs b) G) P s5:=by
  obtain⟨T,h,h2⟩:=h
  simp only[knV,List.cons.injEq,and_true]at h2
  obtain⟨rfl,rfl,rfl⟩:=h2
  obtain⟨t',tips',h1,h2,h3,h4,h5⟩:=grl_app (by':=48) TbS.c5 (l:=(getN' n G).ts) (t:=T n true) (st:=st) (fun hl=> h.tk n true (by simp[usd];exact hl)) h.tf b (by omega) (by omega)
  have hr0:=h.pv _ List.mem_cons_self
  simp only at hr0
  obtain⟨s3,hs3⟩:∃ s3:St,s3={st with tips:=tips'}:=⟨_,rfl⟩
  rw[← hs3]at h1
  have hr1:s3.row r=_:=(show s3.row r=st.row r by rw[hs3];rfl).trans hr0
  have hf1:s3.floor=0:=by rw[hs3];exact h.fl
  have hone:=grl_one TbS.cells 5 ((getN' n G).ts++ [b]) t'
  have k1:Kp st s3 (fun i=> i=r) (fun u=> (getN' n G).ts≠ []∧u=T n true):=by
    refine⟨by rw[hs3],by rw[hs3],by rw[hs3];exact Nat.le_refl _,by rw[hs3];exact h2,fun i _ _=> by rw[hs3],fun u hu hnu=> ?_⟩
    rw[hs3]
    refine h3 u hu ?_
    by_cases e:(getN' n G).ts= []
    · exact .inl e
    · exact .inr fun e'=> hnu ⟨e,e'⟩
  have hlt:=row_lt hr1
  obtain⟨nr,hnr⟩:∃ nr:List V,nr= [grl Bnd.cells 3 (getN' n G).fs (T n false),grl TbS.cells 5 ((getN' n G).ts++ [b]) t',.d (.b (getN' n G).ex)]:=⟨_,rfl⟩
  have k2:=k1.trans (Kp.put (id:=r) (cs:=nr) rfl)
  have hr2:(s3.put r nr).row r=some nr:=row_put_eq hlt
  have hmr:¬ m=r:=fun e=> row_map_ne hr0 h.mp e.symm
  obtain⟨T',hT'⟩:∃ T':Byt8→Bool→Nat,∀ x d,T' x d=if x=n∧d=true then t' else T x d:=⟨_,fun _ _=> rfl⟩
  have hTn:T' n true=t':=by rw[hT',if_pos ⟨rfl,rfl⟩]
  have hTo:T' n false=T n false:=by rw[hT',if_neg (fun e=> by cases e.2)]
  obtain⟨s5,q1,q2⟩:=h.set (n:=n) (k':=addTs b (getN' n G)) (T':=T') k2 hmr (P':=P) (fun x hx=> ⟨List.mem_cons_of_mem _ hx,hr x hx⟩) (by
    rintro t ⟨e1,rfl⟩
    exact⟨true,by simp[usd];exact e1,rfl⟩) (fun x d hx=> by rw[hT',if_neg fun e=> hx e.1]) (fun d hd=> by
    cases d
    · rw[hTo]
      have hu:usd G n false≠0:=by simpa[lenK,addTs,usd]using hd
      refine⟨?_,.inl ⟨hu,rfl⟩⟩
      have ht:=h.tk n false hu
      rw[k2.tips _ (List.getElem?_eq_some_iff.1 ht).1,ht]
      · rfl
      · rintro⟨e1,e2⟩
        have:=(h.ti n false n true hu (by simp[usd];exact e1) e2).2
        cases this
    · rw[hTn]
      refine⟨?_,?_⟩
      · simp only[lenK,addTs]
        rw[← h4]
        show(St.put _ _ _).tips[t']? =_
        simp[St.put,hs3]
      · rcases h5 with⟨h5,rfl⟩ | h5
        · exact .inl ⟨by simp[usd];exact h5,rfl⟩
        · exact .inr (by omega)) (fun hd1 hd2=> by
    rw[hTn,hTo]
    have hu:usd G n false≠0:=by simpa[lenK,addTs,usd]using hd1
    have ht:=h.tk n false hu
    have hlt':=(List.getElem?_eq_some_iff.1 ht).1
    rcases h5 with⟨h5,rfl⟩ | h5
    · intro e
      have:=(h.ti n true n false (by simp[usd];exact h5) hu e.symm).2
      cases this
    · omega)
  have hkn:knV (addTs b (getN' n G)) (T' n false) (T' n true)=nr:=by
    rw[hTn,hTo,hnr]
    rfl
  rw[hkn]at q1
  rw[← upd_const n (addTs b)]at q2
  refine⟨_,s3,s3.put r nr,s5,h1,hone.1,hone.2,hr1,by rw[hnr];exact setBlk_put hf1,by rw[hr2,hnr],fun y hy=> ?_,by rw[← hnr];exact q1,T',q2⟩
  have hy:=h.pv _ (List.mem_cons_of_mem _ hy)
  exact(row_of_heap (k2.heap _ (row_lt hy) (hr y ‹_›))).trans hy
theorem UC.ex (h:UC m G ((r,[a,c,e])::P) n a c e st)(hr:∀ x∈P,x.1≠r):∃ s4 s5,st.row r=some [a,c,e]∧st.setBlk r (.row [a,c,.d (.b true)])=some s4∧s4.row r=some [a,c,.d (.b true)]∧(∀ y∈P,s4.row y.1=some y.2)∧mapSetV true s4 (.map m) (.d (.s n)) (.agg [a,c,.d (.b true)])=some s5∧US m (updN n setEx G) P s5:=by
  obtain⟨T,h,h2⟩:=h
  simp only[knV,List.cons.injEq,and_true]at h2
  obtain⟨rfl,rfl,rfl⟩:=h2
  have hr0:=h.pv _ List.mem_cons_self
  simp only at hr0
  have hlt:=row_lt hr0
  obtain⟨nr,hnr⟩:∃ nr:List V,nr= [grl Bnd.cells 3 (getN' n G).fs (T n false),grl TbS.cells 5 (getN' n G).ts (T n true),.d (.b true)]:=⟨_,rfl⟩
  have k2:Kp st (st.put r nr) (fun i=> i=r) (fun _=> False):=Kp.put rfl
  have hr2:(st.put r nr).row r=some nr:=row_put_eq hlt
  have hmr:¬ m=r:=fun e=> row_map_ne hr0 h.mp e.symm
  obtain⟨s5,q1,q2⟩:=h.set (n:=n) (k':=setEx (getN' n G)) (T':=T) k2 hmr (P':=P) (fun x hx=> ⟨List.mem_cons_of_mem _ hx,hr x hx⟩) (fun _ e=> e.elim) (fun _ _ _=> rfl) (fun d hd=> by
    have hu:usd G n d≠0:=by
      rw[usd_eq]
      cases d <;> exact hd
    have ht:=h.tk n d hu
    refine⟨?_,.inl ⟨hu,rfl⟩⟩
    rw[k2.tips _ (List.getElem?_eq_some_iff.1 ht).1 (fun e=> e),ht,usd_eq]
    cases d <;> rfl) (fun hd1 hd2 e=> by
    have:=(h.ti n false n true hd1 hd2 e).2
    cases this)
  have hkn:knV (setEx (getN' n G)) (T n false) (T n true)=nr:=by rw[hnr];rfl
  rw[hkn]at q1
  rw[← upd_const n setEx]at q2
  refine⟨st.put r nr,s5,hr0,by rw[hnr];exact setBlk_put h.fl,by rw[hr2,hnr],fun y hy=> ?_,by rw[← hnr];exact q1,T,q2⟩
  have hy':=h.pv _ (List.mem_cons_of_mem _ hy)
  exact(row_of_heap (k2.heap _ (row_lt hy') (hr y hy))).trans hy'
end
end Go.Sh
namespace Go.Sh
section
variable {pr:Prog}(hp:Sub r15Fns pr){m:Nat}{G0:Gth}{P:List (Nat×List V)}{c0:Nat}{o:ObS}{u:V}{os:List ObS}{i:Nat}{st:St}
include hp
theorem usesF (hu:SlD 5 u (os.map ObS.cells))(ho:os[i]? =some o)(hn:os.length≤64)(h:US m G0 P st)(hG:GB c0 G0)(hc:c0+o.fn.length < 1099511627776):
    ∃ e s,cden pr (.loop [0,3,4,5] false F373_b1) [(0,u),(3,.map m),(4,.d (.i .i64 (i:Nat))),(5,.d (.i .i64 0))] st=some (.exit 2,e,s)∧e.get 0=some u∧e.get 3=some (.map m)∧e.get 4=some (.d (.i .i64 (i:Nat)))∧US m (o.fn.zipIdx.foldl (addF i) G0) P s∧GB (c0+o.fn.length) (o.fn.zipIdx.foldl (addF i) G0):=by
  have hi:=(List.getElem?_eq_some_iff.1 ho).1
  have hl:=dsl_d FnS.c4 o.n2 o.fn
  have hll:=hl.len
  rw[List.length_map]at hll
  have hia:=hu.iaddr (i:=(i:Int)) (k:= .i64) (by omega) (by simp;omega)
  simp only[Int.toNat_natCast]at hia
  have hfa:=hu.faddr (i:=i) (o:=0) (off:=1)
  have hld:∀ st,loadV 1 false st (elP 5 u i 1)=some (dsl FnS.cells o.n2 o.fn):=fun st=> by
    rw[hu.load (el:=o.cells) (by simp[ho]) (by omega) (by omega)]
    rfl
  obtain⟨w,hw⟩:∃ w,w=dsl FnS.cells o.n2 o.fn:=⟨_,rfl⟩
  rw[← hw]at hl hll hld
  clear hw
  obtain⟨J,hJ⟩:∃ J:Nat→Env→St→Prop,∀ n e s,J n e s↔∃ j,n=o.fn.length - j∧j≤o.fn.length∧e= [(0,u),(3,.map m),(4,.d (.i .i64 (i:Nat))),(5,.d (.i .i64 (j:Nat)))]∧US m ((o.fn.zipIdx.take j).foldl (addF i) G0) P s∧GB (c0+j) ((o.fn.zipIdx.take j).foldl (addF i) G0):=⟨_,fun _ _ _=> Iff.rfl⟩
  obtain⟨r,hr,e,s,rfl,hQ⟩:∃ r,cden pr (.loop [0,3,4,5] false F373_b1) [(0,u),(3,.map m),(4,.d (.i .i64 (i:Nat))),(5,.d (.i .i64 0))] st=some r∧∃ e s,r=(.exit 2,e,s)∧e.get 0=some u∧e.get 3=some (.map m)∧e.get 4=some (.d (.i .i64 (i:Nat)))∧US m (o.fn.zipIdx.foldl (addF i) G0) P s∧GB (c0+o.fn.length) (o.fn.zipIdx.foldl (addF i) G0):=by
    refine loop_j J ?_ (n:=o.fn.length) ((hJ _ _ _).2 ⟨0,by omega,by omega,by simp,by simpa using h,by simpa using hG⟩)
    intro n e s hh
    obtain⟨j,rfl,hj,rfl,hs,hg⟩:=(hJ _ _ _).1 hh
    rcases Nat.lt_or_ge j o.fn.length with hlt | hge
    · obtain⟨x,hx⟩:∃ x,o.fn[j]? =some x:=⟨_,List.getElem?_eq_getElem hlt⟩
      have hn1:IntKind.wrap .i64 ((j:Int)+1)=j+1:=wrap_i64 (by omega) (by omega)
      have hja:=hl.iaddr (i:=(j:Int)) (k:= .i64) (by omega) (by simp;omega)
      simp only[Int.toNat_natCast]at hja
      have hlx:∀ st,loadV 4 true st (elP 4 w j 0)=some (.agg (ofDs x.cells)):=fun st=> by
        rw[hl.load (el:=x.cells) (by simp[hx]) (by omega) (by omega)]
        rfl
      have hzx:o.fn.zipIdx[j]? =some (x,j):=by simp[hx]
      have hfold:(o.fn.zipIdx.take (j+1)).foldl (addF i) G0=addF i ((o.fn.zipIdx.take j).foldl (addF i) G0) (x,j):=by
        rw[List.take_add_one,hzx,List.foldl_append]
        rfl
      have hg1:=hg.addF (k:=i) (x,j)
      rw[← hfold]at hg1
      generalize (o.fn.zipIdx.take j).foldl (addF i) G0=G at hs hg hfold
      have hfl:=hs.fl
      obtain⟨nm,gl,fi,co⟩:=x
      have hJ1:∀ s',US m ((o.fn.zipIdx.take (j+1)).foldl (addF i) G0) P s'→∃ q,q < o.fn.length - j∧J q [(0,u),(3,.map m),(4,.d (.i .i64 (i:Nat))),(5,.d (.i .i64 ((j:Int)+1)))] s':=fun s' hs'=>
        ⟨o.fn.length - (j+1),by omega,(hJ _ _ _).2 ⟨j+1,rfl,hlt,by simp,hs',hg1⟩⟩
      have hPl:∀ y∈P,y.1 < s.heap.length:=fun y hy=> row_lt (hs.pr (i:=y.1) (cs:=y.2) hy)
      cases gl
      · have hp1:=hs.push [.d (.s nm),.d (.b false),.d (.i .i64 fi),.d (.i .i64 co)]
        have hfin:addF i G (⟨nm,false,fi,co⟩,j)=G:=by simp[addF]
        rw[hfold,hfin]at hJ1
        simp[F373_b1,hlt,hia,hfa,hld,hll,hja,hlx,hn1,hu.esc,FnS.cells,ofDs,lay,hfl]
        exact hJ1 _ (hp1.sub fun x hx=> List.mem_cons_of_mem _ hx)
      · have hp1:=hs.push [.d (.s nm),.d (.b true),.d (.i .i64 fi),.d (.i .i64 co)]
        have hfin:addF i G (⟨nm,true,fi,co⟩,j)=updN nm (addFs ⟨nm,i,j⟩) G:=by simp[addF];rfl
        rw[hfold,hfin]at hJ1
        obtain⟨a,c,e,hlk,uc⟩:=hp1.look nm
        have uc2:=uc.push [a,c,e]
        have hlen:(s.push (.row [.d (.s nm),.d (.b true),.d (.i .i64 fi),.d (.i .i64 co)])).heap.length=s.heap.length+1:=by simp
        rw[hlen]at uc2
        obtain⟨z,s3,s4,s5,f1,f2,f3,f4,f5,f6,f7,f8,f9⟩:=uc2.fs (fun y hy=> by
          rcases List.mem_cons.1 hy with rfl | hy
          · simp
          · have:=hPl y hy
            omega) ⟨nm,i,j⟩ (by have:=(hg nm).1;omega)
        have g1:=f7 _ List.mem_cons_self
        simp only[Bnd.cells]at f1 g1
        simp[F373_b1,hlt,hia,hfa,hld,hll,hja,hlx,hn1,hu.esc,FnS.cells,ofDs,lay,hfl,zeroV,hlk,f1,f2,f3,f4,f5,f6,f8,g1,fillV,toDs,toD,reps]
        exact hJ1 _ (f9.sub fun x hx=> List.mem_cons_of_mem _ hx)
    · obtain rfl:j=o.fn.length:=by omega
      have hz:o.fn.zipIdx.take o.fn.length=o.fn.zipIdx:=List.take_of_length_le (by simp)
      rw[hz]at hs hg
      simp[F373_b1,hia,hfa,hld,hll,hu.esc]
      exact⟨_,_,⟨rfl,rfl⟩,rfl,rfl,rfl,hs,hg⟩
  exact⟨e,s,hr,hQ⟩
theorem usesT (hu:SlD 5 u (os.map ObS.cells))(ho:os[i]? =some o)(hn:os.length≤64)(h:US m G0 P st)(hG:GB c0 G0)(hc:c0+o.tb.length < 1099511627776):
    ∃ e s,cden pr (.loop [0,3,4,8] false F373_b2) [(0,u),(3,.map m),(4,.d (.i .i64 (i:Nat))),(8,.d (.i .i64 0))] st=some (.exit 4,e,s)∧e.get 0=some u∧e.get 3=some (.map m)∧e.get 4=some (.d (.i .i64 (i:Nat)))∧US m (o.tb.foldl addT G0) P s∧GB (c0+o.tb.length) (o.tb.foldl addT G0):=by
  have hi:=(List.getElem?_eq_some_iff.1 ho).1
  have hl:=dsl_d TbS.c5 o.n3 o.tb
  have hll:=hl.len
  rw[List.length_map]at hll
  have hia:=hu.iaddr (i:=(i:Int)) (k:= .i64) (by omega) (by simp;omega)
  simp only[Int.toNat_natCast]at hia
  have hfa:=hu.faddr (i:=i) (o:=0) (off:=2)
  have hld:∀ st,loadV 1 false st (elP 5 u i 2)=some (dsl TbS.cells o.n3 o.tb):=fun st=> by
    rw[hu.load (el:=o.cells) (by simp[ho]) (by omega) (by omega)]
    rfl
  obtain⟨w,hw⟩:∃ w,w=dsl TbS.cells o.n3 o.tb:=⟨_,rfl⟩
  rw[← hw]at hl hll hld
  clear hw
  obtain⟨J,hJ⟩:∃ J:Nat→Env→St→Prop,∀ n e s,J n e s↔∃ j,n=o.tb.length - j∧j≤o.tb.length∧e= [(0,u),(3,.map m),(4,.d (.i .i64 (i:Nat))),(8,.d (.i .i64 (j:Nat)))]∧US m ((o.tb.take j).foldl addT G0) P s∧GB (c0+j) ((o.tb.take j).foldl addT G0):=⟨_,fun _ _ _=> Iff.rfl⟩
  obtain⟨r,hr,e,s,rfl,hQ⟩:∃ r,cden pr (.loop [0,3,4,8] false F373_b2) [(0,u),(3,.map m),(4,.d (.i .i64 (i:Nat))),(8,.d (.i .i64 0))] st=some r∧∃ e s,r=(.exit 4,e,s)∧e.get 0=some u∧e.get 3=some (.map m)∧e.get 4=some (.d (.i .i64 (i:Nat)))∧US m (o.tb.foldl addT G0) P s∧GB (c0+o.tb.length) (o.tb.foldl addT G0):=by
    refine loop_j J ?_ (n:=o.tb.length) ((hJ _ _ _).2 ⟨0,by omega,by omega,by simp,by simpa using h,by simpa using hG⟩)
    intro n e s hh
    obtain⟨j,rfl,hj,rfl,hs,hg⟩:=(hJ _ _ _).1 hh
    rcases Nat.lt_or_ge j o.tb.length with hlt | hge
    · obtain⟨x,hx⟩:∃ x,o.tb[j]? =some x:=⟨_,List.getElem?_eq_getElem hlt⟩
      have hn1:IntKind.wrap .i64 ((j:Int)+1)=j+1:=wrap_i64 (by omega) (by omega)
      have hja:=hl.iaddr (i:=(j:Int)) (k:= .i64) (by omega) (by simp;omega)
      simp only[Int.toNat_natCast]at hja
      have hlx:∀ st,loadV 5 true st (elP 5 w j 0)=some (.agg (ofDs x.cells)):=fun st=> by
        rw[hl.load (el:=x.cells) (by simp[hx]) (by omega) (by omega)]
        rfl
      have hfold:(o.tb.take (j+1)).foldl addT G0=addT ((o.tb.take j).foldl addT G0) x:=by
        rw[List.take_add_one,hx,List.foldl_append]
        rfl
      have hg1:=hg.addT x
      rw[← hfold]at hg1
      generalize (o.tb.take j).foldl addT G0=G at hs hg hfold
      have hfl:=hs.fl
      obtain⟨nm,kd,ky,vl,en⟩:=x
      have hJ1:∀ s',US m ((o.tb.take (j+1)).foldl addT G0) P s'→∃ q,q < o.tb.length - j∧J q [(0,u),(3,.map m),(4,.d (.i .i64 (i:Nat))),(8,.d (.i .i64 ((j:Int)+1)))] s':=fun s' hs'=>
        ⟨o.tb.length - (j+1),by omega,(hJ _ _ _).2 ⟨j+1,rfl,hlt,by simp,hs',hg1⟩⟩
      have hPl:∀ y∈P,y.1 < s.heap.length:=fun y hy=> row_lt (hs.pr (i:=y.1) (cs:=y.2) hy)
      have hp1:=hs.push [.d (.s nm),.d (.i .i64 kd),.d (.i .i64 ky),.d (.i .i64 vl),.d (.i .i64 en)]
      have hfin:addT G ⟨nm,kd,ky,vl,en⟩=updN nm (addTs ⟨nm,kd,ky,vl,en⟩) G:=rfl
      rw[hfold,hfin]at hJ1
      obtain⟨a,c,e,hlk,uc⟩:=hp1.look nm
      have uc2:=uc.push [a,c,e]
      have hlen:(s.push (.row [.d (.s nm),.d (.i .i64 kd),.d (.i .i64 ky),.d (.i .i64 vl),.d (.i .i64 en)])).heap.length=s.heap.length+1:=by simp
      rw[hlen]at uc2
      obtain⟨z,s3,s4,s5,f1,f2,f3,f4,f5,f6,f7,f8,f9⟩:=uc2.ts (fun y hy=> by
        rcases List.mem_cons.1 hy with rfl | hy
        · simp
        · have:=hPl y hy
          omega) ⟨nm,kd,ky,vl,en⟩ (by have:=(hg nm).2;omega)
      have g1:=f7 _ List.mem_cons_self
      simp only[TbS.cells]at f1 g1
      simp[F373_b2,hlt,hia,hfa,hld,hll,hja,hlx,hn1,hu.esc,TbS.cells,ofDs,lay,hfl,zeroV,hlk,f1,f2,f3,f4,f5,f6,f8,g1,fillV,toDs,toD,reps]
      exact hJ1 _ (f9.sub fun x hx=> List.mem_cons_of_mem _ hx)
    · obtain rfl:j=o.tb.length:=by omega
      have hz:o.tb.take o.tb.length=o.tb:=List.take_of_length_le (by simp)
      rw[hz]at hs hg
      simp[F373_b2,hia,hfa,hld,hll,hu.esc]
      exact⟨_,_,⟨rfl,rfl⟩,rfl,rfl,rfl,hs,hg⟩
  exact⟨e,s,hr,hQ⟩
theorem usesE (hu:SlD 5 u (os.map ObS.cells))(ho:os[i]? =some o)(hn:os.length≤64)(h:US m G0 P st)(hG:GB c0 G0)(hc:c0+o.ex.length < 1099511627776):
    ∃ e s,cden pr (.loop [0,3,4,11] false F373_b3) [(0,u),(3,.map m),(4,.d (.i .i64 (i:Nat))),(11,.d (.i .i64 0))] st=some (.exit 6,e,s)∧e.get 0=some u∧e.get 3=some (.map m)∧e.get 4=some (.d (.i .i64 (i:Nat)))∧US m (o.ex.foldl addE G0) P s∧GB (c0+o.ex.length) (o.ex.foldl addE G0):=by
  have hi:=(List.getElem?_eq_some_iff.1 ho).1
  have hl:=dsl_d txC1 o.n4 o.ex
  have hll:=hl.len
  rw[List.length_map]at hll
  have hia:=hu.iaddr (i:=(i:Int)) (k:= .i64) (by omega) (by simp;omega)
  simp only[Int.toNat_natCast]at hia
  have hfa:=hu.faddr (i:=i) (o:=0) (off:=3)
  have hld:∀ st,loadV 1 false st (elP 5 u i 3)=some (dsl txC o.n4 o.ex):=fun st=> by
    rw[hu.load (el:=o.cells) (by simp[ho]) (by omega) (by omega)]
    rfl
  obtain⟨w,hw⟩:∃ w,w=dsl txC o.n4 o.ex:=⟨_,rfl⟩
  rw[← hw]at hl hll hld
  clear hw
  obtain⟨J,hJ⟩:∃ J:Nat→Env→St→Prop,∀ n e s,J n e s↔∃ j,n=o.ex.length - j∧j≤o.ex.length∧e= [(0,u),(3,.map m),(4,.d (.i .i64 (i:Nat))),(11,.d (.i .i64 (j:Nat)))]∧US m ((o.ex.take j).foldl addE G0) P s∧GB (c0+j) ((o.ex.take j).foldl addE G0):=⟨_,fun _ _ _=> Iff.rfl⟩
  obtain⟨r,hr,e,s,rfl,hQ⟩:∃ r,cden pr (.loop [0,3,4,11] false F373_b3) [(0,u),(3,.map m),(4,.d (.i .i64 (i:Nat))),(11,.d (.i .i64 0))] st=some r∧∃ e s,r=(.exit 6,e,s)∧e.get 0=some u∧e.get 3=some (.map m)∧e.get 4=some (.d (.i .i64 (i:Nat)))∧US m (o.ex.foldl addE G0) P s∧GB (c0+o.ex.length) (o.ex.foldl addE G0):=by
    refine loop_j J ?_ (n:=o.ex.length) ((hJ _ _ _).2 ⟨0,by omega,by omega,by simp,by simpa using h,by simpa using hG⟩)
    intro n e s hh
    obtain⟨j,rfl,hj,rfl,hs,hg⟩:=(hJ _ _ _).1 hh
    rcases Nat.lt_or_ge j o.ex.length with hlt | hge
    · obtain⟨x,hx⟩:∃ x,o.ex[j]? =some x:=⟨_,List.getElem?_eq_getElem hlt⟩
      have hn1:IntKind.wrap .i64 ((j:Int)+1)=j+1:=wrap_i64 (by omega) (by omega)
      have hja:=hl.iaddr (i:=(j:Int)) (k:= .i64) (by omega) (by simp;omega)
      simp only[Int.toNat_natCast]at hja
      have hlx:∀ st,loadV 1 false st (elP 1 w j 0)=some (.d (.s x)):=fun st=> by
        rw[hl.load (el:=txC x) (by simp[hx]) (by omega) (by omega)]
        rfl
      have hfold:(o.ex.take (j+1)).foldl addE G0=addE ((o.ex.take j).foldl addE G0) x:=by
        rw[List.take_add_one,hx,List.foldl_append]
        rfl
      have hg1:=hg.addE x
      rw[← hfold]at hg1
      generalize (o.ex.take j).foldl addE G0=G at hs hg hfold
      have hfl:=hs.fl
      have hJ1:∀ s',US m ((o.ex.take (j+1)).foldl addE G0) P s'→∃ q,q < o.ex.length - j∧J q [(0,u),(3,.map m),(4,.d (.i .i64 (i:Nat))),(11,.d (.i .i64 ((j:Int)+1)))] s':=fun s' hs'=>
        ⟨o.ex.length - (j+1),by omega,(hJ _ _ _).2 ⟨j+1,rfl,hlt,by simp,hs',hg1⟩⟩
      have hPl:∀ y∈P,y.1 < s.heap.length:=fun y hy=> row_lt (hs.pr (i:=y.1) (cs:=y.2) hy)
      have hfin:addE G x=updN x setEx G:=rfl
      rw[hfold,hfin]at hJ1
      obtain⟨a,c,e,hlk,uc⟩:=hs.look x
      have uc2:=uc.push [a,c,e]
      obtain⟨s4,s5,f4,f5,f6,f7,f8,f9⟩:=uc2.ex (fun y hy=> by
        have:=hPl y hy
        omega)
      simp[F373_b3,hlt,hia,hfa,hld,hll,hja,hlx,hn1,hu.esc,ofDs,lay,hfl,zeroV,hlk,f4,f5,f6,f8,fillV,toDs,toD,reps]
      exact hJ1 _ f9
    · obtain rfl:j=o.ex.length:=by omega
      have hz:o.ex.take o.ex.length=o.ex:=List.take_of_length_le (by simp)
      rw[hz]at hs hg
      simp[F373_b3,hia,hfa,hld,hll,hu.esc]
      exact⟨_,_,⟨rfl,rfl⟩,rfl,rfl,rfl,hs,hg⟩
  exact⟨e,s,hr,hQ⟩
end
end Go.Sh
namespace Go.Sh
section
variable {pr:Prog}(hp:Sub r15Fns pr){P:List (Nat×List V)}{st:St}
include hp
theorem den_uses {u:V}{os:List ObS}(hu:SlD 5 u (os.map ObS.cells))(hn:os.length≤64)(hf:∀ o∈os,o.few)(h0:st.floor=0)(h1:st.tfloor=0)(hP:∀ x∈P,st.row x.1=some x.2):
    ∃ m s,den pr 373 [u] st=some (.map m,s)∧US m (gathA os) P s:=by
  obtain⟨m,hm⟩:∃ m,m=st.heap.length:=⟨_,rfl⟩
  obtain⟨s0,hs0⟩:∃ s0,s0=st.push (.map []):=⟨_,rfl⟩
  have hg0:US m [] P s0:=by
    refine⟨fun _ _=> 0,by rw[hs0];exact h0,by rw[hs0];exact h1,?_,by simp[keysN],fun n b hu=> ?_,fun n b n' b' hu=> ?_,fun x hx=> ?_⟩
    · rw[hs0,hm]
      exact mapOf_push_new
    · cases b <;> simp[usd,getN',kn0]at hu
    · cases b <;> simp[usd,getN',kn0]at hu
    · have:=row_lt (hP x hx)
      rw[hs0,row_old this]
      exact hP x hx
  have hlen:=hu.len
  rw[List.length_map]at hlen
  refine⟨m,?_⟩
  rw[den_fn (hp.at 2 rfl) rfl rfl,start_raw _ rfl]
  simp[F373,ofDs,lay,capsV]
  rw[← hs0,← hm]
  generalize hL:cden pr (.loop _ _ F373_b0) _ _=q
  obtain⟨r,rfl,e,s,rfl,he3,hgs⟩:∃ r,q=some r∧∃ e s,r=(.exit 0,e,s)∧e.get 3=some (.map m)∧US m (gathA os) P s:=by
    rw[← hL]
    clear hL
    obtain⟨J,hJ⟩:∃ J:Nat→Env→St→Prop,∀ n e s,J n e s↔∃ i,n=os.length - i∧i≤os.length∧e= [(0,u),(3,.map m),(4,.d (.i .i64 (i:Nat)))]∧US m ((os.zipIdx.take i).foldl gathO []) P s∧GB (i * 4096) ((os.zipIdx.take i).foldl gathO []):=⟨_,fun _ _ _=> Iff.rfl⟩
    refine loop_j J ?_ (n:=os.length) ((hJ _ _ _).2 ⟨0,by omega,by omega,by simp,by simpa using hg0,fun n=> by simp[getN',kn0]⟩)
    intro n e s hh
    obtain⟨i,rfl,hi,rfl,hs,hg⟩:=(hJ _ _ _).1 hh
    rcases Nat.lt_or_ge i os.length with hlt | hge
    · obtain⟨o,ho⟩:∃ o,os[i]? =some o:=⟨_,List.getElem?_eq_getElem hlt⟩
      have hof:=hf o (List.mem_of_getElem? ho)
      have hof1:=hof.fn
      have hof2:=hof.tb
      have hof3:=hof.ex
      have hn1:IntKind.wrap .i64 ((i:Int)+1)=i+1:=wrap_i64 (by omega) (by omega)
      have hzx:os.zipIdx[i]? =some (o,i):=by simp[ho]
      have hfold:(os.zipIdx.take (i+1)).foldl gathO []=gathO ((os.zipIdx.take i).foldl gathO []) (o,i):=by
        rw[List.take_add_one,hzx,List.foldl_append]
        rfl
      have hJ1:∀ s',US m ((os.zipIdx.take (i+1)).foldl gathO []) P s'→GB ((i+1) * 4096) ((os.zipIdx.take (i+1)).foldl gathO [])→∃ q,q < os.length - i∧J q [(0,u),(3,.map m),(4,.d (.i .i64 ((i:Int)+1)))] s':=fun s' hs' hg'=>
        ⟨os.length - (i+1),by omega,(hJ _ _ _).2 ⟨i+1,rfl,hlt,by simp,hs',hg'⟩⟩
      rw[hfold]at hJ1
      generalize (os.zipIdx.take i).foldl gathO []=G at hs hg hJ1
      clear hfold
      obtain⟨e1,s1,a1,a0,a3,a4,hs1,hg1⟩:=usesF hp hu ho hn hs hg (by omega)
      obtain⟨e2,s2,b1,b0,b3,b4,hs2,hg2⟩:=usesT hp hu ho hn hs1 hg1 (by omega)
      obtain⟨e3,s3,c1,c0,c3,c4,hs3,hg3⟩:=usesE hp hu ho hn hs2 hg2 (by omega)
      simp[F373_b0,hlt,hlen,hu.esc,a1,a0,a3,a4,b1,b0,b3,b4,c1,c0,c3,c4,hn1]
      exact hJ1 _ hs3 (hg3.mono (by omega))
    · obtain rfl:i=os.length:=by omega
      rw[List.take_of_length_le (by simp)]at hs
      simp[F373_b0,hlen,hu.esc]
      exact⟨_,_,⟨rfl,rfl⟩,rfl,hs⟩
  simp[he3]
  exact hgs
end
end Go.Sh
namespace Go.Sh
theorem grl_closeC {α:Type}(c:α→List D)(sz:Nat)(l:List α)(t:Nat):closeC (grl c sz l t)=some (dsl c (decide (0 < l.length)) l):=by
  unfold grl
  cases l with
  | nil=> rfl
  | cons x r=> rfl
theorem knV_close (k:Kn)(a b:Nat):close1 (.agg (knV k a b))=some (.agg [dsl Bnd.cells (decide (0 < k.fs.length)) k.fs,dsl TbS.cells (decide (0 < k.ts.length)) k.ts,.d (.b k.ex)]):=by
  simp only[close1,knV,closeCs,grl_closeC]
  rfl
theorem diffB_cons (t:TbS)(r:List TbS):diffB (t::r)=r.any fun x=> decide (x≠t):=by
  simp[diffB]
section
variable {pr:Prog}(hp:Sub r15Fns pr){st:St}
include hp
theorem den_rwrong {j:Nat}(hj:j < 3){k:Kn}{a b:Nat}(hl:k.ts.length < 1099511627776):den pr 374 [.d (.i .i64 ((162+j:Nat):Int)),.agg (knV k a b)] st=some (.d (.b (ruleB j k)),st):=by
  refine den_shut (hp.at 3 rfl) rfl rfl (by simp only[closeA,knV_close];rfl) ?_
  have hu:=dsl_d Bnd.c3 (decide (0 < k.fs.length)) k.fs
  have hw:=dsl_d TbS.c5 (decide (0 < k.ts.length)) k.ts
  have hlu:=hu.len
  have hlw:=hw.len
  rw[List.length_map]at hlu hlw
  obtain⟨u,huu⟩:∃ u,u=dsl Bnd.cells (decide (0 < k.fs.length)) k.fs:=⟨_,rfl⟩
  obtain⟨w,hww⟩:∃ u,u=dsl TbS.cells (decide (0 < k.ts.length)) k.ts:=⟨_,rfl⟩
  rw[← huu]at hu hlu ⊢
  rw[← hww]at hw hlw ⊢
  clear huu hww
  obtain rfl | rfl | rfl:j=0∨j=1∨j=2:=by omega
  · simp only[ruleB,twiceB]
    by_cases h1:1 < k.fs.length
    · have h1':(1:Int) < k.fs.length:=by omega
      simp[F374,hlu,hlw,h1,h1']
    · have h1':¬ (1:Int) < k.fs.length:=by omega
      by_cases h2:k.fs.length=1
      · by_cases h3:0 < k.ts.length
        · simp[F374,hlu,hlw,h2,h3]
        · simp[F374,hlu,hlw,h2,h3]
      · have h2':¬ (k.fs.length:Int)=1:=by omega
        simp[F374,hlu,hlw,h1,h1',h2,h2']
  · simp only[ruleB,undefB]
    cases k.ex
    · simp[F374,hlu,hlw]
    · by_cases h2:k.fs.length=0
      · simp[F374,hlu,hlw,h2]
      · have h2':¬ (k.fs.length:Int)=0:=by omega
        simp[F374,hlu,hlw,h2,h2']
  · simp only[ruleB]
    simp[F374]
    obtain⟨R,hR⟩:∃ R,R=diffB k.ts:=⟨_,rfl⟩
    rw[← hR]
    obtain⟨ts,hts⟩:∃ ts,ts=k.ts:=⟨_,rfl⟩
    rw[← hts]at hR hl hlw hw
    clear hts
    obtain⟨kx,hkx⟩:∃ kx,kx=k.ex:=⟨_,rfl⟩
    rw[← hkx]
    clear hkx
    generalize hL:cden pr (.loop _ _ F374_b0) _ _=q
    obtain⟨r,rfl,hQ⟩:∃ r,q=some r∧((R=false∧∃ e s,r=(.exit 1,e,s))∨(R=true∧∃ e s,r=(.ret,e,s)∧e.get 4=some (.d (.b true)))):=by
      rw[← hL]
      clear hL
      cases ts with
      | nil=>
        refine loop_j (fun n e s=> e= [(3,.ptr 0 0),(5,.d (.i .i64 1))]∧s=s0 [.row [u,w,.d (.b kx)]] [] 0 0) ?_ (n:=0) ⟨by simp,by simp⟩
        rintro n e s ⟨rfl,rfl⟩
        have:R=false:=hR
        simp[F374_b0,hlw,this]
      | cons t r=>
        rw[diffB_cons]at hR
        refine loop_j (fun n e s=> ∃ j,n=r.length - j∧j≤r.length∧e= [(3,.ptr 0 0),(5,.d (.i .i64 ((j:Int)+1)))]∧s=s0 [.row [u,w,.d (.b kx)]] [] 0 0∧R=(r.drop j).any fun x=> decide (x≠t)) ?_ (n:=r.length) ⟨0,by omega,by omega,by simp,by simp,by rw[hR];simp⟩
        rintro n e s ⟨j,rfl,hj,rfl,rfl,hRj⟩
        simp only[List.length_cons]at hlw hl
        have hlw':lenV w=some (r.length+1):=hlw
        have h0:∀ st,loadV 5 true st (elP 5 w 0 0)=some (.agg (ofDs t.cells)):=fun st=> by
          rw[hw.load (i:=0) (el:=t.cells) (by simp) (by omega) (by omega)]
          rfl
        have hi0:=hw.iaddr (i:=(0:Int)) (k:= .i64) (by omega) (by simp)
        simp only[Int.toNat_zero]at hi0
        rcases Nat.lt_or_ge j r.length with h | h
        · obtain⟨x,hx⟩:∃ x,r[j]? =some x:=⟨_,List.getElem?_eq_getElem h⟩
          have hn1:IntKind.wrap .i64 ((j:Int)+1+1)=(j:Int)+1+1:=wrap_i64 (by omega) (by omega)
          have hia:=hw.iaddr (i:=((j:Int)+1)) (k:= .i64) (by omega) (by simp;omega)
          rw[show((j:Int)+1).toNat=j+1 by omega]at hia
          have hld:∀ st,loadV 5 true st (elP 5 w (j+1) 0)=some (.agg (ofDs x.cells)):=fun st=> by
            rw[hw.load (el:=x.cells) (by simp[hx]) (by omega) (by omega)]
            rfl
          have hlt:r.length - (j+1) < r.length - j:=by omega
          have hc:(j:Int)+1 < (r.length:Int)+1:=by omega
          have hev:=eqV_tab x t
          rw[drop_cons9 hx,List.any_cons]at hRj
          by_cases c:x=t
          · simp only[c,ne_eq,not_true_eq_false,decide_false,Bool.false_or]at hRj
            rw[c]at hld hev
            simp only[decide_true]at hev
            simp[F374_b0,h,hlw',hia,hi0,hld,h0,hev,hn1,hc]
            exact⟨_,hlt,j+1,rfl,h,by simp,by simpa using hRj⟩
          · have hRt:R=true:=by rw[hRj];simp[c]
            rw[decide_eq_false c]at hev
            simp[F374_b0,h,hlw',hia,hi0,hld,h0,hev,hn1,hc,hRt]
        · obtain rfl:j=r.length:=by omega
          rw[List.drop_length]at hRj
          have hRf:R=false:=hRj
          simp[F374_b0,hlw',hRf]
    rcases hQ with⟨h1,e,s,rfl⟩ | ⟨h1,e,s,rfl,h2⟩
    · simp[h1]
    · simp[h1,h2]
end
end Go.Sh
namespace Go.Sh
section
variable {pr:Prog}(hp:Sub r15Fns pr){m:Nat}{G:Gth}{P:List (Nat×List V)}{s:St}{S:List Byt8}
include hp
theorem loopV {j:Nat}(hj:j < 3)(hs:US m G P s)(hZ:(0,Z2)∈P)(hB:GB 1099511627775 G)(hSl:S.length < 1099511627776){code:Int}(hcode:code=((162+j:Nat):Int)):
    ∃ e,(viol S G j=none∧cden pr (.loop [2,8,9,10,11] false F366_b2) [(2,.ptr 0 0),(8,dsl txC true S),(9,.map m),(10,.d (.i .i64 code)),(11,.d (.i .i64 0))] s=some (.exit 4,e,s)∧e.get 2=some (.ptr 0 0)∧e.get 8=some (dsl txC true S)∧e.get 9=some (.map m)∧e.get 10=some (.d (.i .i64 code)))∨
      (∃ n s',viol S G j=some n∧cden pr (.loop [2,8,9,10,11] false F366_b2) [(2,.ptr 0 0),(8,dsl txC true S),(9,.map m),(10,.d (.i .i64 code)),(11,.d (.i .i64 0))] s=some (.ret,e,s')∧e.get 2=some (.ptr 0 0)∧e.get 3=some (.d (.s n))∧e.get 4=some (.d (.i .i64 code))∧s'.row 0=some Z2):=by
  have hu:=dsl_d txC1 true S
  have hlen:=hu.len
  rw[List.length_map]at hlen
  obtain⟨v,hv⟩:∃ v,v=dsl txC true S:=⟨_,rfl⟩
  rw[← hv]at hu hlen ⊢
  have hvi:∀ (i:Nat),(∃ cs,elP 1 v i 0= .ep cs):=fun i=> hu.ep i
  clear hv
  have r0r:=hs.pr hZ
  have hfl:=hs.fl
  have hsb:=fun cs=> setBlk_put (st:=s) (id:=0) (cs:=cs) hfl
  obtain⟨r,hr,hQ⟩:∃ r,cden pr (.loop [2,8,9,10,11] false F366_b2) [(2,.ptr 0 0),(8,v),(9,.map m),(10,.d (.i .i64 code)),(11,.d (.i .i64 0))] s=some r∧((viol S G j=none∧∃ e,r=(.exit 4,e,s)∧e.get 2=some (.ptr 0 0)∧e.get 8=some v∧e.get 9=some (.map m)∧e.get 10=some (.d (.i .i64 code)))∨
      (∃ n,viol S G j=some n∧∃ e s',r=(.ret,e,s')∧e.get 2=some (.ptr 0 0)∧e.get 3=some (.d (.s n))∧e.get 4=some (.d (.i .i64 code))∧s'.row 0=some Z2)):=by
    obtain⟨J,hJ⟩:∃ J:Nat→Env→St→Prop,∀ n e t,J n e t↔∃ i,n=S.length - i∧i≤S.length∧e= [(2,.ptr 0 0),(8,v),(9,.map m),(10,.d (.i .i64 code)),(11,.d (.i .i64 (i:Nat)))]∧t=s∧∀ n∈S.take i,ruleB j (getN' n G)=false:=⟨_,fun _ _ _=> Iff.rfl⟩
    refine loop_j J ?_ (n:=S.length) ((hJ _ _ _).2 ⟨0,by omega,by omega,by simp,rfl,fun n hn=> by simp at hn⟩)
    intro n e t hh
    obtain⟨i,rfl,hi,rfl,rfl,hq⟩:=(hJ _ _ _).1 hh
    rcases Nat.lt_or_ge i S.length with hlt | hge
    · obtain⟨x,hx⟩:∃ x,S[i]? =some x:=⟨_,List.getElem?_eq_getElem hlt⟩
      have hn1:IntKind.wrap .i64 ((i:Int)+1)=i+1:=wrap_i64 (by omega) (by omega)
      have hia:=hu.iaddr (i:=(i:Int)) (k:= .i64) (by omega) (by simp;omega)
      simp only[Int.toNat_natCast]at hia
      obtain⟨cs,hcs⟩:=hvi i
      have hld:∀ st,loadV 1 false st (elP 1 v i 0)=some (.d (.s x)):=fun st=> by
        rw[hu.load (el:=txC x) (by simp[hx]) (by omega) (by omega)]
        rfl
      rw[hcs]at hia hld
      obtain⟨a,c,e,hlk,T,hui,hkn⟩:=hs.look x
      have hrx:=fun st=> den_rwrong hp (st:=st) hj (k:=getN' x G) (a:=T x false) (b:=T x true) (by have:=(hB x).2;omega)
      rw[hkn,← hcode]at hrx
      cases hrb:ruleB j (getN' x G)
      · rw[hrb]at hrx
        simp only[F366_b2]
        simp[hlt,hlen,hu.esc,hn1,hia,hld,hlk,zeroV,ofDs,hrx]
        refine⟨S.length - (i+1),by omega,(hJ _ _ _).2 ⟨i+1,rfl,hlt,by simp,rfl,fun n hn=> ?_⟩⟩
        rw[List.take_add_one,hx,List.mem_append]at hn
        rcases hn with hn | hn
        · exact hq n hn
        · simp at hn
          rw[hn,hrb]
      · rw[hrb]at hrx
        have hvio:viol S G j=some x:=by
          unfold viol
          rw[List.find?_eq_some_iff_getElem]
          obtain⟨h1,h2⟩:=List.getElem?_eq_some_iff.1 hx
          refine⟨hrb,i,h1,h2,fun k hk=> ?_⟩
          have:=hq S[k] (by rw[List.mem_take_iff_getElem];exact⟨k,by omega,rfl⟩)
          simp[this]
        simp only[F366_b2]
        simp[hlt,hlen,hu.esc,hn1,hia,hld,hlk,zeroV,ofDs,hrx,hvio,fillV,lay,apartE,apartV,r0r,Z2,hsb]
        exact⟨_,_,⟨rfl,rfl⟩,rfl,rfl,rfl,by rw[row_put_eq (row_lt r0r)]⟩
    · obtain rfl:i=S.length:=by omega
      have hvio:viol S G j=none:=by
        rw[List.take_of_length_le (Nat.le_refl _)]at hq
        unfold viol
        rw[List.find?_eq_none]
        intro n hn
        simp[hq n hn]
      simp only[F366_b2]
      simp[hvio,hlen,hu.esc]
  rcases hQ with⟨h1,e,rfl,h2⟩ | ⟨n,h1,e,s',rfl,h2⟩
  · exact⟨e,.inl ⟨h1,hr,h2⟩⟩
  · exact⟨e,.inr ⟨n,s',h1,hr,h2⟩⟩
theorem loopVV (hs:US m G P s)(hZ:(0,Z2)∈P)(hB:GB 1099511627775 G)(hSl:S.length < 1099511627776):
    ∃ e s',(firstR S G=none∧cden pr (.loop [2,8,9,10] false F366_b1) [(2,.ptr 0 0),(8,dsl txC true S),(9,.map m),(10,.d (.i .i64 162))] s=some (.exit 2,e,s)∧e.get 2=some (.ptr 0 0)∧e.get 8=some (dsl txC true S)∧e.get 9=some (.map m))∨
      (∃ n c,firstR S G=some (n,c)∧cden pr (.loop [2,8,9,10] false F366_b1) [(2,.ptr 0 0),(8,dsl txC true S),(9,.map m),(10,.d (.i .i64 162))] s=some (.ret,e,s')∧e.get 2=some (.ptr 0 0)∧e.get 3=some (.d (.s n))∧e.get 4=some (.d (.i .i64 c))∧s'.row 0=some Z2):=by
  obtain⟨r,hr,hQ⟩:∃ r,cden pr (.loop [2,8,9,10] false F366_b1) [(2,.ptr 0 0),(8,dsl txC true S),(9,.map m),(10,.d (.i .i64 162))] s=some r∧((firstR S G=none∧∃ e,r=(.exit 2,e,s)∧e.get 2=some (.ptr 0 0)∧e.get 8=some (dsl txC true S)∧e.get 9=some (.map m))∨
      (∃ n c,firstR S G=some (n,c)∧∃ e s',r=(.ret,e,s')∧e.get 2=some (.ptr 0 0)∧e.get 3=some (.d (.s n))∧e.get 4=some (.d (.i .i64 c))∧s'.row 0=some Z2)):=by
    obtain⟨w,hw⟩:∃ w,w=dsl txC true S:=⟨_,rfl⟩
    have hwo:w.ok1=true:=by rw[hw];rfl
    obtain⟨J,hJ⟩:∃ J:Nat→Env→St→Prop,∀ n e t,J n e t↔∃ (j:Nat) (code:Int),n=3 - j∧j≤3∧code=((162+j:Nat):Int)∧e= [(2,.ptr 0 0),(8,w),(9,.map m),(10,.d (.i .i64 code))]∧t=s∧∀ i,i < j→viol S G i=none:=⟨_,fun _ _ _=> Iff.rfl⟩
    rw[← hw]
    refine loop_j J ?_ (n:=3) ((hJ _ _ _).2 ⟨0,162,by omega,by omega,by omega,by simp,rfl,fun i hi=> by omega⟩)
    intro n e t hh
    obtain⟨j,code,rfl,hj,hcode,rfl,rfl,hv⟩:=(hJ _ _ _).1 hh
    rcases Nat.lt_or_ge j 3 with hlt | hge
    · have hn1:IntKind.wrap .i64 (code+1)=code+1:=wrap_i64 (by omega) (by omega)
      have hc:code≤164:=by omega
      obtain⟨e,⟨v1,e1,g2,g8,g9,g10⟩ | ⟨n,s',v1,e1,g2,g3,g4,g0⟩⟩:=loopV hp (j:=j) (S:=S) hlt hs hZ hB hSl hcode
      · rw[← hw]at e1 g8
        simp only[F366_b1]
        simp[hc,e1,g2,g8,g9,g10,hn1]
        refine⟨3 - (j+1),by omega,(hJ _ _ _).2 ⟨j+1,code+1,rfl,hlt,by omega,by simp,rfl,fun i hi=> ?_⟩⟩
        by_cases h:i=j
        · rw[h,v1]
        · exact hv i (by omega)
      · rw[← hw]at e1
        have hfr:firstR S G=some (n,code):=by
          unfold firstR
          obtain rfl | rfl | rfl:j=0∨j=1∨j=2:=by omega
          · rw[v1,hcode]
            rfl
          · rw[hv 0 (by omega)]
            simp only[v1,hcode]
            rfl
          · rw[hv 0 (by omega),hv 1 (by omega)]
            simp only[v1,hcode]
            rfl
        simp only[F366_b1]
        simp[hc,e1,hfr]
        exact⟨_,_,⟨rfl,rfl⟩,_,_,⟨rfl,rfl⟩,g2,g3,g4,g0⟩
    · obtain rfl:j=3:=by omega
      have hc:¬ code≤164:=by omega
      have hfr:firstR S G=none:=by
        unfold firstR
        rw[hv 0 (by omega),hv 1 (by omega),hv 2 (by omega)]
        rfl
      simp only[F366_b1]
      simp[hc,hfr]
  rcases hQ with⟨h1,e,rfl,h2⟩ | ⟨n,c,h1,e,s',rfl,h2⟩
  · exact⟨e,s,.inl ⟨h1,hr,h2⟩⟩
  · exact⟨e,s',.inr ⟨n,c,h1,hr,h2⟩⟩
end
end Go.Sh
namespace Go.Sh
structure UW (m:Nat)(G:Gth)(T:Byt8→Bool→Nat)(r:Nat)(F:List Bnd)(Tb:List TbS)(s:St):Prop where
  fl:s.floor=0
  tf:s.tfloor=0
  mp:s.mapOf m=some ((keysN G).map fun n=> (.s n,.agg (knV (getN' n G) (T n false) (T n true))))
  r0:r≠0
  z:s.row 0=some Z2
  out:∃ fv tv a b,s.row r=some [fv,tv]∧Grw Bnd.cells 3 F a fv s∧Grw TbS.cells 5 Tb b tv s∧∀ x y,a=some x→b=some y→x≠y
section
variable {m:Nat}{G:Gth}{T:Byt8→Bool→Nat}{r:Nat}{F:List Bnd}{Tb:List TbS}{s:St}
theorem UW.push (h:UW m G T r F Tb s)(cs:List V):UW m G T r F Tb (s.push (.row cs)):=by
  obtain⟨fv,tv,a,b,h1,h2,h3,h4⟩:=h.out
  exact⟨h.fl,h.tf,by rw[mapOf_old (map_lt h.mp)];exact h.mp,h.r0,by rw[row_old (row_lt h.z)];exact h.z,fv,tv,a,b,by rw[row_old (row_lt h1)];exact h1,h2.tips fun _ _ _=> rfl,h3.tips fun _ _ _=> rfl,h4⟩
theorem UW.look (h:UW m G T r F Tb s)(n:Byt8):∃ a b,lookV true false (.agg [.d (.sl 0 false []),.d (.sl 0 false []),.d (.b false)]) s (.map m) (.d (.s n))=some (.agg (knV (getN' n G) a b)):=by
  have hf:=find_map n (fun n=> .agg (knV (getN' n G) (T n false) (T n true))) (keysN G)
  by_cases hn:n∈keysN G
  · refine⟨T n false,T n true,?_⟩
    rw[if_pos hn]at hf
    simp[lookV,keyOk,h.mp,hf,lookOut]
  · refine⟨0,0,?_⟩
    rw[if_neg hn]at hf
    rw[get_not hn]
    simp[lookV,keyOk,h.mp,hf,lookOut]
    rfl
theorem UW.fs (h:UW m G T r F Tb s)(z:Bnd)(hb:F.length+1 < 1099511627776):∃ fv tv x s1 s2,s.row r=some [fv,tv]∧appV 3 32 s fv (.d (.sl 1 true z.cells))=some (x,s1)∧s1.row r=some [fv,tv]∧s1.setBlk r (.row [x,tv])=some s2∧x.ok1=true∧x.cs= [x]∧(∀ i,i≠r→s2.row i=s.row i)∧UW m G T r (F++ [z]) Tb s2:=by
  obtain⟨fv,tv,a,b,hr,h1,h2,h3⟩:=h.out
  have hvw:vw 3 s (.d (.sl 1 true z.cells))=some ([z].length,([z].map Bnd.cells).flatten):=by simp[vw]
  obtain⟨t',tips',x,e1,e2,e3,e4,e5⟩:=h1.app (by':=32) Bnd.c3 h.tf hvw (by simp only[List.length_cons,List.length_nil];omega) (by simp only[List.length_cons,List.length_nil];omega)
  obtain⟨s1,hs1⟩:∃ s1:St,s1={s with tips:=tips'}:=⟨_,rfl⟩
  rw[← hs1]at e1 e2
  have hf1:s1.floor=0:=by rw[hs1];exact h.fl
  have hrow1:∀ i,s1.row i=s.row i:=fun i=> by rw[hs1];rfl
  have hmap1:∀ i,s1.mapOf i=s.mapOf i:=fun i=> by rw[hs1];rfl
  have hlr:=row_lt hr
  have hl1:s1.heap.length=s.heap.length:=by rw[hs1]
  have hmr:m≠r:=fun e=> row_map_ne hr h.mp e.symm
  refine⟨fv,tv,x,s1,s1.put r [x,tv],hr,e1,by rw[hrow1];exact hr,setBlk_put hf1,e2.one.1,e2.one.2,fun i hi=> by rw[row_put_ne hi,hrow1],⟨hf1,by rw[← h.tf,hs1];rfl,?_,h.r0,?_,x,tv,some t',b,row_put_eq (by rw[hl1];exact hlr),?_,?_,fun x y hx hy=> ?_⟩⟩
  · rw[mapOf_put hmr,hmap1]
    exact h.mp
  · rw[row_put_ne (Ne.symm h.r0),hrow1]
    exact h.z
  · exact e2.tips fun u _ _=> rfl
  · have:Grw TbS.cells 5 Tb b tv s1:=h2.tips fun u hu hlt=> by
      rw[hs1]
      refine e4 u hlt fun e=> ?_
      exact h3 u u e hu rfl
    exact this.tips fun u _ _=> rfl
  · obtain rfl:=Option.some.inj hx
    rcases e3 with e3 | e3
    · exact h3 _ _ e3 hy
    · intro e
      subst e
      subst hy
      have:=(List.getElem?_eq_some_iff.1 h2.2).1
      omega
theorem UW.ts (h:UW m G T r F Tb s)(z:TbS)(hb:Tb.length+1 < 1099511627776):∃ fv tv x s1 s2,s.row r=some [fv,tv]∧appV 5 48 s tv (.d (.sl 1 true z.cells))=some (x,s1)∧s1.row r=some [fv,tv]∧s1.setBlk r (.row [fv,x])=some s2∧x.ok1=true∧x.cs= [x]∧(∀ i,i≠r→s2.row i=s.row i)∧UW m G T r F (Tb++ [z]) s2:=by
  obtain⟨fv,tv,a,b,hr,h1,h2,h3⟩:=h.out
  have hvw:vw 5 s (.d (.sl 1 true z.cells))=some ([z].length,([z].map TbS.cells).flatten):=by simp[vw]
  obtain⟨t',tips',x,e1,e2,e3,e4,e5⟩:=h2.app (by':=48) TbS.c5 h.tf hvw (by simp only[List.length_cons,List.length_nil];omega) (by simp only[List.length_cons,List.length_nil];omega)
  obtain⟨s1,hs1⟩:∃ s1:St,s1={s with tips:=tips'}:=⟨_,rfl⟩
  rw[← hs1]at e1 e2
  have hf1:s1.floor=0:=by rw[hs1];exact h.fl
  have hrow1:∀ i,s1.row i=s.row i:=fun i=> by rw[hs1];rfl
  have hmap1:∀ i,s1.mapOf i=s.mapOf i:=fun i=> by rw[hs1];rfl
  have hlr:=row_lt hr
  have hl1:s1.heap.length=s.heap.length:=by rw[hs1]
  have hmr:m≠r:=fun e=> row_map_ne hr h.mp e.symm
  refine⟨fv,tv,x,s1,s1.put r [fv,x],hr,e1,by rw[hrow1];exact hr,setBlk_put hf1,e2.one.1,e2.one.2,fun i hi=> by rw[row_put_ne hi,hrow1],⟨hf1,by rw[← h.tf,hs1];rfl,?_,h.r0,?_,fv,x,a,some t',row_put_eq (by rw[hl1];exact hlr),?_,?_,fun x y hx hy=> ?_⟩⟩
  · rw[mapOf_put hmr,hmap1]
    exact h.mp
  · rw[row_put_ne (Ne.symm h.r0),hrow1]
    exact h.z
  · have:Grw Bnd.cells 3 F a fv s1:=h1.tips fun u hu hlt=> by
      rw[hs1]
      refine e4 u hlt fun e=> ?_
      exact h3 u u hu e rfl
    exact this.tips fun u _ _=> rfl
  · exact e2.tips fun u _ _=> rfl
  · obtain rfl:=Option.some.inj hy
    rcases e3 with e3 | e3
    · exact h3 _ _ hx e3
    · intro e
      subst e
      subst hx
      have:=(List.getElem?_eq_some_iff.1 h1.2).1
      omega
end
section
variable {pr:Prog}(hp:Sub r15Fns pr){m:Nat}{G:Gth}{T:Byt8→Bool→Nat}{r:Nat}{s:St}{S:List Byt8}
include hp
theorem loopQ (h:UW m G T r [] [] s)(hS1:∀ n∈S,(getN' n G).fs.length≤1)(hSl:S.length≤262144):
    ∃ e s',cden pr (.loop [2,8,9,12,13] false F366_b3) [(2,.ptr 0 0),(8,dsl txC true S),(9,.map m),(12,.ptr r 0),(13,.d (.i .i64 0))] s=some (.exit 6,e,s')∧e.get 2=some (.ptr 0 0)∧e.get 12=some (.ptr r 0)∧UW m G T r (S.flatMap fun n=> (getN' n G).fs) (S.flatMap fun n=> (getN' n G).ts.take 1) s':=by
  have hu:=dsl_d txC1 true S
  have hlen:=hu.len
  rw[List.length_map]at hlen
  obtain⟨v,hv⟩:∃ v,v=dsl txC true S:=⟨_,rfl⟩
  rw[← hv]at hu hlen ⊢
  clear hv
  obtain⟨x,hx,e,s',rfl,hQ⟩:∃ x,cden pr (.loop [2,8,9,12,13] false F366_b3) [(2,.ptr 0 0),(8,v),(9,.map m),(12,.ptr r 0),(13,.d (.i .i64 0))] s=some x∧∃ e s',x=(.exit 6,e,s')∧e.get 2=some (.ptr 0 0)∧e.get 12=some (.ptr r 0)∧UW m G T r (S.flatMap fun n=> (getN' n G).fs) (S.flatMap fun n=> (getN' n G).ts.take 1) s':=by
    obtain⟨J,hJ⟩:∃ J:Nat→Env→St→Prop,∀ n e t,J n e t↔∃ i,n=S.length - i∧i≤S.length∧e= [(2,.ptr 0 0),(8,v),(9,.map m),(12,.ptr r 0),(13,.d (.i .i64 (i:Nat)))]∧UW m G T r ((S.take i).flatMap fun n=> (getN' n G).fs) ((S.take i).flatMap fun n=> (getN' n G).ts.take 1) t∧((S.take i).flatMap fun n=> (getN' n G).fs).length≤i∧((S.take i).flatMap fun n=> (getN' n G).ts.take 1).length≤i:=⟨_,fun _ _ _=> Iff.rfl⟩
    refine loop_j J ?_ (n:=S.length) ((hJ _ _ _).2 ⟨0,by omega,by omega,by simp,by simpa using h,by simp,by simp⟩)
    intro n e t hh
    obtain⟨i,rfl,hi,rfl,ht,b1,b2⟩:=(hJ _ _ _).1 hh
    rcases Nat.lt_or_ge i S.length with hlt | hge
    · obtain⟨n,hn⟩:∃ n,S[i]? =some n:=⟨_,List.getElem?_eq_getElem hlt⟩
      have hf1:=hS1 n (List.mem_of_getElem? hn)
      have hn1:IntKind.wrap .i64 ((i:Int)+1)=i+1:=wrap_i64 (by omega) (by omega)
      have hia:=hu.iaddr (i:=(i:Int)) (k:= .i64) (by omega) (by simp;omega)
      simp only[Int.toNat_natCast]at hia
      have hld:∀ st,loadV 1 false st (elP 1 v i 0)=some (.d (.s n)):=fun st=> by
        rw[hu.load (el:=txC n) (by simp[hn]) (by omega) (by omega)]
        rfl
      have hF:(S.take (i+1)).flatMap (fun n=> (getN' n G).fs)=(S.take i).flatMap (fun n=> (getN' n G).fs)++(getN' n G).fs:=by rw[List.take_add_one,hn];simp
      have hT:(S.take (i+1)).flatMap (fun n=> (getN' n G).ts.take 1)=(S.take i).flatMap (fun n=> (getN' n G).ts.take 1)++(getN' n G).ts.take 1:=by rw[List.take_add_one,hn];simp
      have hJ1:∀ t',UW m G T r ((S.take i).flatMap (fun n=> (getN' n G).fs)++(getN' n G).fs) ((S.take i).flatMap (fun n=> (getN' n G).ts.take 1)++(getN' n G).ts.take 1) t'→∃ q,q < S.length - i∧J q [(2,.ptr 0 0),(8,v),(9,.map m),(12,.ptr r 0),(13,.d (.i .i64 ((i:Int)+1)))] t':=fun t' ht'=>
        ⟨S.length - (i+1),by omega,(hJ _ _ _).2 ⟨i+1,rfl,hlt,by simp,by rw[hF,hT];exact ht',by rw[hF,List.length_append];omega,by rw[hT,List.length_append,List.length_take];omega⟩⟩
      generalize (S.take i).flatMap (fun n=> (getN' n G).fs)=F at ht b1 hJ1
      generalize (S.take i).flatMap (fun n=> (getN' n G).ts.take 1)=Tb at ht b2 hJ1
      obtain⟨ka,kb,hlk⟩:=ht.look n
      generalize getN' n G=kk at hf1 hJ1 hlk
      obtain⟨fs,ts,ex⟩:=kk
      simp only at hf1 hJ1
      have hfl:=ht.fl
      have hl1:=grl_len Bnd.cells 3 fs ka
      have hl2:=grl_len TbS.cells 5 ts kb
      have ho1:=grl_one Bnd.cells 3 fs ka
      have ho2:=grl_one TbS.cells 5 ts kb
      have ha1:∀ x,fs[0]? =some x→∃ w,iaddrV 3 (grl Bnd.cells 3 fs ka) (.d (.i .i64 0))=some w∧∀ s,loadV 3 true s w=some (.agg (ofDs x.cells)):=fun x hx=> grl_at Bnd.c3 (by omega) hx
      have ha2:∀ x,ts[0]? =some x→∃ w,iaddrV 5 (grl TbS.cells 5 ts kb) (.d (.i .i64 0))=some w∧∀ s,loadV 5 true s w=some (.agg (ofDs x.cells)):=fun x hx=> grl_at TbS.c5 (by omega) hx
      simp only[knV]at hlk
      generalize grl Bnd.cells 3 fs ka=vf at hlk hl1 ho1 ha1
      generalize grl TbS.cells 5 ts kb=vt at hlk hl2 ho2 ha2
      have hp1:=ht.push [vf,vt,.d (.b ex)]
      have hr7:(t.push (.row [vf,vt,.d (.b ex)])).row t.heap.length=some [vf,vt,.d (.b ex)]:=row_push_new rfl
      have hrr:t.heap.length≠r:=by
        obtain⟨_,_,_,_,hr,_⟩:=ht.out
        have:=row_lt hr
        omega
      obtain⟨sp,hsp⟩:∃ sp,sp=t.push (.row [vf,vt,.d (.b ex)]):=⟨_,rfl⟩
      have hset7:∀ cs,(t.push (.row cs)).setBlk t.heap.length (.row [vf,vt,.d (.b ex)])=some sp:=fun cs=> by rw[setBlk_push rfl (by rw[hfl];omega),hsp]
      have hrow7:∀ cs,(t.push (.row cs)).row t.heap.length=some cs:=fun cs=> row_push_new rfl
      rw[← hsp]at hp1 hr7
      clear hsp
      cases fs with
      | nil=>
        cases ts with
        | nil=>
          simp only[F366_b3]
          simp[hlt,hlen,hu.esc,hn1,hia,hld,hlk,zeroV,ofDs,lay,hset7,hrow7,hr7,hl1,hl2,ho1.1,ho1.2,ho2.1,ho2.2]
          exact hJ1 _ (by simpa using hp1)
        | cons y tr=>
          obtain⟨w2,hw2,hq2⟩:=ha2 y rfl
          obtain⟨fv,tv,x,s1,s2,f1,f2,f3,f4,f5,f6,f7,f8⟩:=hp1.ts y (by omega)
          simp only[TbS.cells]at f2
          simp only[F366_b3]
          simp[hlt,hlen,hu.esc,hn1,hia,hld,hlk,zeroV,ofDs,lay,hset7,hrow7,hr7,hl1,hl2,ho1.1,ho1.2,ho2.1,ho2.2,hw2,hq2,f1,f2,f3,f4,f5,f6,fillV,toDs,toD,reps,TbS.cells]
          exact hJ1 _ (by simpa using f8)
      | cons x0 fr=>
        have hfr:fr= []:=by
          simp only[List.length_cons]at hf1
          exact List.length_eq_zero_iff.1 (by omega)
        subst hfr
        obtain⟨w1,hw1,hq1⟩:=ha1 x0 rfl
        obtain⟨fv,tv,x,s1,s2,f1,f2,f3,f4,f5,f6,f7,f8⟩:=hp1.fs x0 (by omega)
        simp only[Bnd.cells]at f2
        have hr72:s2.row t.heap.length=some [vf,vt,.d (.b ex)]:=(f7 _ hrr).trans hr7
        cases ts with
        | nil=>
          simp only[F366_b3]
          simp[hlt,hlen,hu.esc,hn1,hia,hld,hlk,zeroV,ofDs,lay,hset7,hrow7,hr7,hr72,hl1,hl2,ho1.1,ho1.2,ho2.1,ho2.2,hw1,hq1,f1,f2,f3,f4,f5,f6,fillV,toDs,toD,reps,Bnd.cells]
          exact hJ1 _ (by simpa using f8)
        | cons y tr=>
          obtain⟨w2,hw2,hq2⟩:=ha2 y rfl
          obtain⟨fv',tv',x',s1',s2',g1,g2,g3,g4,g5,g6,g7,g8⟩:=f8.ts y (by omega)
          simp only[TbS.cells]at g2
          simp only[F366_b3]
          simp[hlt,hlen,hu.esc,hn1,hia,hld,hlk,zeroV,ofDs,lay,hset7,hrow7,hr7,hr72,hl1,hl2,ho1.1,ho1.2,ho2.1,ho2.2,hw1,hq1,hw2,hq2,f1,f2,f3,f4,f5,f6,g1,g2,g3,g4,g5,g6,fillV,toDs,toD,reps,Bnd.cells,TbS.cells]
          exact hJ1 _ (by simpa using g8)
    · obtain rfl:i=S.length:=by omega
      rw[List.take_of_length_le (Nat.le_refl _)]at ht
      simp only[F366_b3]
      simp[hlen,hu.esc]
      exact⟨_,_,⟨rfl,rfl⟩,rfl,rfl,ht⟩
  exact⟨e,s',hx,hQ⟩
end
end Go.Sh
