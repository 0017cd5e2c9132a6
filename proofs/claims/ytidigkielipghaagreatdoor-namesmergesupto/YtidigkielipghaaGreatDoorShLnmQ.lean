/- Part of the proof. -/
import Derived.Test.YtidigkielipghaaGreatDoorShLnmN
set_option linter.unusedVariables false
set_option linter.unusedSimpArgs false
set_option linter.unusedSectionVars false
namespace Go.Sh
open Go.RowKit Go.WideElems Go.WideShapes Go.Maps
theorem strLess_lt:∀ (x y:List UInt8),strLess x y=true↔x < y
  | _,[]=> by simp[strLess]
  | [],_::_=> by simp[strLess]
  | a::x,b::y=> by
    rw[List.cons_lt_cons_iff]
    simp only[strLess,Bool.or_eq_true,decide_eq_true_eq,Bool.and_eq_true,beq_iff_eq,strLess_lt x y]
theorem strLess_tri:∀ (x y:List UInt8),x≠y→strLess y x=false→strLess x y=true
  | [],[],h,_=> absurd rfl h
  | [],_::_,_,_=> rfl
  | _::_,[],_,h=> by simp[strLess]at h
  | a::x,b::y,h,h2=> by
    simp only[strLess,Bool.or_eq_false_iff,Bool.and_eq_false_iff,decide_eq_false_iff_not]at h2
    simp only[strLess,Bool.or_eq_true,decide_eq_true_eq,Bool.and_eq_true,beq_iff_eq]
    by_cases hab:a=b
    · subst hab
      right
      refine⟨rfl,strLess_tri x y (fun e=> h (by rw[e])) ?_⟩
      rcases h2.2 with h3 | h3
      · simp at h3
      · exact h3
    · left
      have h1:=h2.1
      rw[UInt8.lt_iff_toNat_lt]at h1 ⊢
      have:a.toNat≠b.toNat:=fun e=> hab (UInt8.toNat_inj.1 e)
      omega
theorem srtS_pair (l:List Byt8)(h:l.Nodup):(srtS l).Pairwise fun x y=> strLess x y=true:=by
  have h1:(srtS l).Pairwise fun x y=> leB x y=true:=by
    unfold srtS
    exact List.pairwise_mergeSort (fun a b c h1 h2=> by simp only[leB,decide_eq_true_eq]at *;exact List.le_trans h1 h2) (fun a b=> by simp only[leB,Bool.or_eq_true,decide_eq_true_eq];exact List.le_total a b) l
  have h2:(srtS l).Nodup:=(List.mergeSort_perm l leB).nodup_iff.2 h
  have h3:=h1.and h2
  refine h3.imp ?_
  rintro x y ⟨h4,h5⟩
  refine strLess_tri x y h5 ?_
  simp only[leB,decide_eq_true_eq]at h4
  rw[Bool.eq_false_iff]
  intro e
  exact absurd ((strLess_lt y x).1 e) (List.not_lt.2 h4)
theorem gathA_cp (os:List ObS):gathA (os.map ObS.cp)=gathA os:=by
  unfold gathA
  rw[List.zipIdx_map,List.foldl_map]
  rfl
theorem mem_fsO {n:Byt8}{k:Nat}{o:ObS}{b:Bnd}:b∈fsO n k o↔∃ (j:Nat) (f:FnS),o.fn[j]? =some f∧f.gl=true∧f.nm=n∧b=⟨n,k,j⟩:=by
  unfold fsO
  rw[List.mem_filterMap]
  constructor
  · rintro⟨⟨f,j⟩,h1,h2⟩
    split at h2
    · rename_i h
      obtain rfl:=Option.some.inj h2
      exact⟨j,f,List.mem_zipIdx_iff_getElem?.1 h1,h.1,h.2,rfl⟩
    · cases h2
  · rintro⟨j,f,h1,h2,h3,rfl⟩
    exact⟨(f,j),List.mem_zipIdx_iff_getElem?.2 h1,by rw[if_pos ⟨h2,h3⟩]⟩
theorem mem_fsA {n:Byt8}{os:List ObS}{b:Bnd}:b∈fsA n os↔∃ (k j:Nat) (o:ObS) (f:FnS),os[k]? =some o∧o.fn[j]? =some f∧f.gl=true∧f.nm=n∧b=⟨n,k,j⟩:=by
  unfold fsA
  rw[List.mem_flatMap]
  constructor
  · rintro⟨⟨o,k⟩,h1,h2⟩
    obtain⟨j,f,h3,h4,h5,h6⟩:=mem_fsO.1 h2
    exact⟨k,j,o,f,List.mem_zipIdx_iff_getElem?.1 h1,h3,h4,h5,h6⟩
  · rintro⟨k,j,o,f,h1,h2,h3,h4,h5⟩
    exact⟨(o,k),List.mem_zipIdx_iff_getElem?.2 h1,mem_fsO.2 ⟨j,f,h2,h3,h4,h5⟩⟩
/-! ### How many -/
def glN (o:ObS):List Byt8:=(o.fn.filter fun f=> f.gl).map FnS.nm
theorem fsO_len (n:Byt8)(k:Nat)(o:ObS):(fsO n k o).length=(glN o).count n:=by
  unfold fsO glN
  have:∀ (l:List FnS) (j:Nat),((l.zipIdx j).filterMap fun x=> if x.1.gl=true∧x.1.nm=n then some (⟨n,(k:Int),(x.2:Int)⟩:Bnd) else none).length=((l.filter fun f=> f.gl).map FnS.nm).count n:=by
    intro l
    induction l with
    | nil=> intro j;rfl
    | cons f r ih=>
      intro j
      rw[List.zipIdx_cons,List.filterMap_cons]
      have:=ih (j+1)
      cases hg:f.gl
      · simp[hg,this]
      · by_cases hn:f.nm=n
        · simp[hg,hn,this]
        · have hn':(f.nm==n)=false:=by simpa using hn
          simp[hg,hn,this,List.count_cons,hn']
  exact this o.fn 0
theorem fsA_len (n:Byt8)(os:List ObS):(fsA n os).length=(os.flatMap glN).count n:=by
  unfold fsA
  have:∀ (l:List ObS) (j:Nat),((l.zipIdx j).flatMap fun x=> fsO n x.2 x.1).length=(l.flatMap glN).count n:=by
    intro l
    induction l with
    | nil=> intro j;rfl
    | cons o r ih=>
      intro j
      rw[List.zipIdx_cons,List.flatMap_cons,List.flatMap_cons,List.length_append,List.count_append,ih,fsO_len]
  exact this os 0
theorem globs1_eq (os:List ObS):globs1 os=(os.flatMap glN).length:=by
  unfold globs1
  rw[List.length_flatMap]
  congr 1
  exact List.map_congr_left fun o _=> by simp[glob1,glN]
theorem sum_count (S:List Byt8)(hS:S.Nodup):∀ (L:List Byt8),(∀ x∈L,x∈S)→(S.map fun n=> L.count n).sum=L.length
  | [],_=> by
    have:∀ l:List Byt8,(l.map fun n=> ([]:List Byt8).count n).sum=0:=by
      intro l
      induction l with
      | nil=> rfl
      | cons a r ih=> rw[List.map_cons,List.sum_cons,ih];rfl
    rw[this]
    rfl
  | x::L,h=> by
    have ih:=sum_count S hS L fun y hy=> h y (List.mem_cons_of_mem _ hy)
    have h1:(S.map fun n=> (x::L).count n).sum=(S.map fun n=> L.count n).sum+S.count x:=by
      clear ih hS h
      induction S with
      | nil=> rfl
      | cons a r ih=>
        rw[List.map_cons,List.map_cons,List.sum_cons,List.sum_cons,ih,List.count_cons,List.count_cons]
        by_cases e:x=a
        · subst e
          simp
          omega
        · have e1:(x==a)=false:=by simpa using e
          have e2:(a==x)=false:=by simpa using fun q=> e q.symm
          simp[e1,e2]
          omega
    have h2:S.count x=1:=by
      have:=List.nodup_iff_count.1 hS x
      have hp:=List.count_pos_iff.2 (h x List.mem_cons_self)
      omega
    rw[h1,ih,h2,List.length_cons]
/-! ### NamesBind -/
theorem ruleB_none {S:List Byt8}{G:Gth}{j:Nat}(h:viol S G j=none):∀ n∈S,ruleB j (getN' n G)=false:=fun n hn=> by
  unfold viol at h
  rw[List.find?_eq_none]at h
  simpa using h n hn
theorem firstR_none {S:List Byt8}{G:Gth}(h:firstR S G=none):∀ n∈S,twiceB (getN' n G)=false∧undefB (getN' n G)=false∧diffB (getN' n G).ts=false:=by
  unfold firstR at h
  intro n hn
  cases h0:viol S G 0 with
  | some x=> rw[h0]at h;cases h
  | none=>
    rw[h0]at h
    simp only at h
    cases h1:viol S G 1 with
    | some x=> rw[h1]at h;cases h
    | none=>
      rw[h1]at h
      simp only[Option.map_eq_none_iff]at h
      exact⟨ruleB_none h0 n hn,ruleB_none h1 n hn,ruleB_none h n hn⟩
theorem mrgR_err {chk:ObS→Bool}{os:List ObS}{F:List Bnd}{Tb:List TbS}{nm:Byt8}{e:Int}(h:mrgR chk os=(F,Tb,nm,e))(he:e≠0):F= []∧Tb= []:=by
  unfold mrgR at h
  split at h
  · simp only[Prod.mk.injEq]at h
    exact⟨h.1.symm,h.2.1.symm⟩
  · split at h
    · split at h
      · simp only[Prod.mk.injEq]at h
        exact⟨h.1.symm,h.2.1.symm⟩
      · simp only[Prod.mk.injEq]at h
        exact absurd h.2.2.2.symm he
    · simp only[Prod.mk.injEq]at h
      exact⟨h.1.symm,h.2.1.symm⟩
theorem mrgR_ok {chk:ObS→Bool}{os:List ObS}{F:List Bnd}{Tb:List TbS}{nm:Byt8}(h:mrgR chk os=(F,Tb,nm,0)):os.length≤64∧firstR (srtS (keysN (gathA os))) (gathA os)=none∧F=(srtS (keysN (gathA os))).flatMap (fun n=> (getN' n (gathA os)).fs)∧Tb=(srtS (keysN (gathA os))).flatMap fun n=> (getN' n (gathA os)).ts.take 1:=by
  unfold mrgR at h
  split at h
  · simp at h
  · rename_i h64
    split at h
    · split at h
      · rename_i n c hfr
        simp only[Prod.mk.injEq]at h
        obtain⟨_,_,_,rfl⟩:=h
        exfalso
        unfold firstR at hfr
        split at hfr
        · simp at hfr
        · split at hfr
          · simp at hfr
          · simp[Option.map_eq_some_iff]at hfr
      · rename_i hfr
        simp only[Prod.mk.injEq]at h
        exact⟨by omega,hfr,h.1.symm,h.2.1.symm⟩
    · simp at h
theorem names_sub {g:Byt8→List Bnd}:∀ (S:List Byt8),(∀ n∈S,(g n).length≤1∧∀ b∈g n,b.nm=n)→((S.flatMap g).map Bnd.nm).Sublist S
  | [],_=> .slnil
  | n::S,h=> by
    have ih:=names_sub S fun m hm=> h m (List.mem_cons_of_mem _ hm)
    obtain⟨h1,h2⟩:=h n List.mem_cons_self
    rw[List.flatMap_cons,List.map_append]
    cases hg:g n with
    | nil=> exact ih.cons n
    | cons b r=>
      rw[hg]at h1 h2
      have hr:r= []:=by
        cases r with
        | nil=> rfl
        | cons a r=> simp at h1
      subst hr
      have:=h2 b List.mem_cons_self
      simp only[List.map_cons,List.map_nil,List.cons_append,List.nil_append]
      rw[this]
      exact ih.cons_cons n
theorem bindOk {chk:ObS→Bool}{os:List ObS}{F:List Bnd}{Tb:List TbS}{nm:Byt8}(h:mrgR chk (os.map ObS.cp)=(F,Tb,nm,0))(hfew:∀ o∈os,o.few):BindOk os F Tb:=by
  obtain⟨h64,hfr,hF,hT⟩:=mrgR_ok h
  rw[gathA_cp]at hfr hF hT
  rw[List.length_map]at h64
  obtain⟨S,hS⟩:∃ S,S=srtS (keysN (gathA os)):=⟨_,rfl⟩
  rw[← hS]at hfr hF hT
  have hrl:=firstR_none hfr
  have hmS:∀ n,n∈S↔∃ o∈os,inO n o:=fun n=> by rw[hS,srtS_mem,gathA_keys]
  have hpw:S.Pairwise fun x y=> strLess x y=true:=by rw[hS];exact srtS_pair _ (gathA_nodup os)
  have hnd:S.Nodup:=by rw[hS];exact(List.mergeSort_perm _ leB).nodup_iff.2 (gathA_nodup os)
  have hSl:S.length≤196608:=by
    have:=gathA_KB hfew
    rw[hS,srtS_len]
    omega
  simp only[gathA_get]at hF hT hrl
  have hF':F=S.flatMap fun n=> fsA n os:=hF
  have hT':Tb=S.flatMap fun n=> (tsA n os).take 1:=hT
  clear hF hT hfr h
  have hcnt:globs1 os=F.length:=by
    rw[globs1_eq,hF',← sum_count S hnd (os.flatMap glN),List.length_flatMap]
    · congr 1
      exact List.map_congr_left fun n _=> (fsA_len n os).symm
    · intro x hx
      rw[List.mem_flatMap]at hx
      obtain⟨o,ho,hx⟩:=hx
      rw[hmS]
      refine⟨o,ho,.inl ?_⟩
      unfold glN at hx
      obtain⟨f,hf,rfl⟩:=List.mem_map.1 hx
      rw[List.mem_filter]at hf
      exact⟨f,hf.1,hf.2,rfl⟩
  have hsub:(F.map Bnd.nm).Sublist S:=by
    rw[hF']
    refine names_sub S fun n hn=> ⟨?_,fun b hb=> ?_⟩
    · have:=(hrl n hn).1
      unfold twiceB at this
      simp only[Bool.or_eq_false_iff,decide_eq_false_iff_not]at this
      omega
    · obtain⟨k,j,o,f,_,_,_,_,rfl⟩:=mem_fsA.1 hb
      rfl
  have hFl:F.length≤S.length:=by
    have:=hsub.length_le
    rwa [List.length_map]at this
  refine⟨fun o ho n hn=> ?_,fun o ho t ht=> ?_,fun i b c hb hc=> ?_,fun b hb=> ?_,hcnt,by omega,?_⟩
  · have hnS:n∈S:=(hmS n).2 ⟨o,ho,.inr (.inr hn)⟩
    have h2:=(hrl n hnS).2.1
    have hex:exA n os=true:=by
      unfold exA
      rw[List.any_eq_true]
      exact⟨o,ho,by simpa[exO]using hn⟩
    unfold undefB at h2
    simp only[hex,Bool.true_and,decide_eq_false_iff_not]at h2
    cases hfs:fsA n os with
    | nil=> rw[hfs]at h2;simp at h2
    | cons b r=>
      have hb:b∈fsA n os:=by rw[hfs];exact List.mem_cons_self
      refine⟨b,?_,?_⟩
      · rw[hF',List.mem_flatMap]
        exact⟨n,hnS,hb⟩
      · obtain⟨k,j,o,f,_,_,_,_,rfl⟩:=mem_fsA.1 hb
        rfl
  · have hnS:t.nm∈S:=(hmS t.nm).2 ⟨o,ho,.inr (.inl ⟨t,ht,rfl⟩)⟩
    have h2:=(hrl t.nm hnS).2.2
    have hmt:t∈tsA t.nm os:=by
      unfold tsA
      rw[List.mem_flatMap]
      refine⟨o,ho,?_⟩
      unfold tsO
      rw[List.mem_filter]
      exact⟨ht,by simp⟩
    rw[hT',List.mem_flatMap]
    refine⟨t.nm,hnS,?_⟩
    cases hts:tsA t.nm os with
    | nil=> rw[hts]at hmt;cases hmt
    | cons a r=>
      rw[hts]at h2 hmt
      have:t=a:=by
        unfold diffB at h2
        rw[List.any_eq_false]at h2
        simpa using h2 t hmt
      rw[this]
      simp
  · have hp:=hpw.sublist hsub
    rw[List.pairwise_map]at hp
    obtain⟨h1,h1'⟩:=List.getElem?_eq_some_iff.1 hb
    obtain⟨h2,h2'⟩:=List.getElem?_eq_some_iff.1 hc
    have:=List.pairwise_iff_getElem.1 hp i (i+1) h1 h2 (by omega)
    rw[h1',h2']at this
    exact this
  · rw[hF',List.mem_flatMap]at hb
    obtain⟨n,hn,hb⟩:=hb
    obtain⟨k,j,o,f,h1,h2,h3,h4,rfl⟩:=mem_fsA.1 hb
    exact⟨k,j,o,f,rfl,rfl,h1,h2,h4,h3⟩
  · have:∀ l:List Byt8,(l.flatMap fun n=> (tsA n os).take 1).length≤l.length:=by
      intro l
      induction l with
      | nil=> simp
      | cons a r ih=>
        rw[List.flatMap_cons,List.length_append,List.length_take,List.length_cons]
        omega
    have h1:=this S
    rw[hT']
    omega
end Go.Sh
