/- Part of the proof. -/
import Derived.Test.YtidigkielipghaaGreatDoorShLisa
set_option linter.unusedVariables false
set_option linter.unusedSimpArgs false
namespace Go.Sh
abbrev Byt8:=List UInt8
structure FnS where
  nm:Byt8
  gl:Bool
  fi:Int
  co:Int
  deriving DecidableEq
structure TbS where
  nm:Byt8
  kind:Int
  key:Int
  val:Int
  ent:Int
  deriving DecidableEq
structure RlS where
  at':Int
  kind:Int
  name:Int
  deriving DecidableEq
structure ObS where
  tx:List Ins
  fn:List FnS
  tb:List TbS
  ex:List Byt8
  rl:List RlS
  n1:Bool
  n2:Bool
  n3:Bool
  n4:Bool
  n5:Bool
structure Bnd where
  nm:Byt8
  ob:Int
  fn:Int
  deriving DecidableEq
structure Kn where
  fs:List Bnd
  ts:List TbS
  ex:Bool
def kn0:Kn:=⟨[],[],false⟩
abbrev Gth:=List (Byt8×Kn)
def updN (n:Byt8)(f:Kn→Kn):Gth→Gth
  | []=> [(n,f kn0)]
  | (m,k)::r=> if m=n then(m,f k)::r else(m,k)::updN n f r
def getN' (n:Byt8):Gth→Kn
  | []=> kn0
  | (m,k)::r=> if m=n then k else getN' n r
def keysN (G:Gth):List Byt8:=G.map (·.1)
theorem get_upd (n m:Byt8)(f:Kn→Kn):∀ G:Gth,getN' m (updN n f G)=if m=n then f (getN' n G) else getN' m G
  | []=> by
    simp only[updN,getN']
    by_cases h:n=m
    · subst h;simp
    · rw[if_neg h,if_neg (fun e=> h e.symm)]
  | (k,v)::r=> by
    have ih:=get_upd n m f r
    simp only[updN,getN']
    by_cases hk:k=n
    · subst hk
      simp only[if_true,getN']
      by_cases hm:k=m
      · subst hm;simp
      · rw[if_neg hm,if_neg hm,if_neg (fun e=> hm e.symm)]
    · rw[if_neg hk]
      simp only[getN',if_neg hk]
      by_cases hm:k=m
      · subst hm;simp[hk]
      · rw[if_neg hm,if_neg hm,ih]
theorem mem_keys_upd (n m:Byt8)(f:Kn→Kn):∀ G:Gth,m∈keysN (updN n f G)↔m=n∨m∈keysN G
  | []=> by simp[updN,keysN]
  | (k,v)::r=> by
    have ih:=mem_keys_upd n m f r
    simp only[keysN]at ih ⊢
    simp only[updN]
    split
    · rename_i h
      subst h
      simp
    · simp only[List.map_cons,List.mem_cons,ih]
      constructor
      · rintro(h | h | h)
        · exact .inr (.inl h)
        · exact .inl h
        · exact .inr (.inr h)
      · rintro(h | h | h)
        · exact .inr (.inl h)
        · exact .inl h
        · exact .inr (.inr h)
theorem nodup_upd (n:Byt8)(f:Kn→Kn):∀ {G:Gth},(keysN G).Nodup→(keysN (updN n f G)).Nodup
  | [],_=> by simp[updN,keysN]
  | (k,v)::r,h=> by
    simp only[keysN,List.map_cons,List.nodup_cons]at h
    simp only[updN]
    split
    · simpa[keysN]using h
    · rename_i hk
      have ih:=nodup_upd n f (G:=r) h.2
      have hm:=mem_keys_upd n k f r
      simp only[keysN]at ih hm
      simp only[keysN,List.map_cons,List.nodup_cons]
      exact⟨fun e=> by
        rcases hm.1 e with e | e
        · exact hk e
        · exact h.1 e,ih⟩
/-! ### Gathering -/
def addF (k:Int)(G:Gth)(x:FnS×Nat):Gth:=if x.1.gl then updN x.1.nm (fun y=> {y with fs:=y.fs++ [⟨x.1.nm,k,(x.2:Int)⟩]}) G else G
def addT (G:Gth)(t:TbS):Gth:=updN t.nm (fun y=> {y with ts:=y.ts++ [t]}) G
def addE (G:Gth)(n:Byt8):Gth:=updN n (fun y=> {y with ex:=true}) G
def gathO (G:Gth)(x:ObS×Nat):Gth:=x.1.ex.foldl addE (x.1.tb.foldl addT (x.1.fn.zipIdx.foldl (addF x.2) G))
def gathA (os:List ObS):Gth:=os.zipIdx.foldl gathO []
def fsO (n:Byt8)(k:Nat)(o:ObS):List Bnd:=o.fn.zipIdx.filterMap fun x=> if x.1.gl=true∧x.1.nm=n then some ⟨n,(k:Int),(x.2:Int)⟩ else none
def tsO (n:Byt8)(o:ObS):List TbS:=o.tb.filter fun t=> decide (t.nm=n)
def exO (n:Byt8)(o:ObS):Bool:=decide (n∈o.ex)
def inO (n:Byt8)(o:ObS):Prop:=(∃ f∈o.fn,f.gl=true∧f.nm=n)∨(∃ t∈o.tb,t.nm=n)∨n∈o.ex
theorem fold_F (k:Nat)(n:Byt8):∀ (l:List (FnS×Nat)) (G:Gth),getN' n (l.foldl (addF k) G)={getN' n G with fs:=(getN' n G).fs++l.filterMap fun x=> if x.1.gl=true∧x.1.nm=n then some ⟨n,(k:Int),(x.2:Int)⟩ else none}∧
    (∀ m,m∈keysN (l.foldl (addF k) G)↔m∈keysN G∨∃ x∈l,x.1.gl=true∧x.1.nm=m)∧((keysN G).Nodup→(keysN (l.foldl (addF k) G)).Nodup)
  | [],G=> ⟨by simp,by simp,fun h=> h⟩
  | x::l,G=> by
    obtain⟨h1,h2,h3⟩:=fold_F k n l (addF k G x)
    rw[List.foldl_cons]
    have e:getN' n (addF k G x)={getN' n G with fs:=(getN' n G).fs++(if x.1.gl=true∧x.1.nm=n then [⟨n,(k:Int),(x.2:Int)⟩]else [])}:=by
      unfold addF
      by_cases hg:x.1.gl=true
      · rw[if_pos hg,get_upd]
        by_cases hn:n=x.1.nm
        · rw[if_pos hn,if_pos ⟨hg,hn.symm⟩,← hn]
        · rw[if_neg hn,if_neg (fun e=> hn e.2.symm),List.append_nil]
      · rw[if_neg hg,if_neg (fun e=> hg e.1),List.append_nil]
    have e2:∀ m,m∈keysN (addF k G x)↔m∈keysN G∨(x.1.gl=true∧x.1.nm=m):=fun m=> by
      unfold addF
      by_cases hg:x.1.gl=true
      · rw[if_pos hg,mem_keys_upd]
        constructor
        · rintro(h | h)
          · exact .inr ⟨hg,h.symm⟩
          · exact .inl h
        · rintro(h | h)
          · exact .inr h
          · exact .inl h.2.symm
      · rw[if_neg hg]
        exact⟨.inl,fun h=> h.elim id fun e=> absurd e.1 hg⟩
    refine⟨?_,fun m=> ?_,fun h=> h3 ?_⟩
    · rw[h1,e]
      simp only[List.filterMap_cons]
      by_cases hc:x.1.gl=true∧x.1.nm=n
      · simp[hc]
      · simp[hc]
    · rw[h2 m,e2 m]
      simp only[List.mem_cons,exists_eq_or_imp,or_assoc]
    · unfold addF
      split
      · exact nodup_upd _ _ h
      · exact h
theorem fold_T (n:Byt8):∀ (l:List TbS) (G:Gth),getN' n (l.foldl addT G)={getN' n G with ts:=(getN' n G).ts++l.filter fun t=> decide (t.nm=n)}∧
    (∀ m,m∈keysN (l.foldl addT G)↔m∈keysN G∨∃ x∈l,x.nm=m)∧((keysN G).Nodup→(keysN (l.foldl addT G)).Nodup)
  | [],G=> ⟨by simp,by simp,fun h=> h⟩
  | x::l,G=> by
    obtain⟨h1,h2,h3⟩:=fold_T n l (addT G x)
    rw[List.foldl_cons]
    refine⟨?_,fun m=> ?_,fun h=> h3 (nodup_upd _ _ h)⟩
    · rw[h1]
      unfold addT
      rw[get_upd]
      by_cases hn:n=x.nm
      · simp[hn]
      · have:¬ x.nm=n:=fun e=> hn e.symm
        simp[hn,this]
    · rw[h2 m]
      unfold addT
      rw[mem_keys_upd]
      simp only[List.mem_cons,exists_eq_or_imp]
      constructor
      · rintro((h | h) | h)
        · exact .inr (.inl h.symm)
        · exact .inl h
        · exact .inr (.inr h)
      · rintro(h | h | h)
        · exact .inl (.inr h)
        · exact .inl (.inl h.symm)
        · exact .inr h
theorem fold_E (n:Byt8):∀ (l:List Byt8) (G:Gth),getN' n (l.foldl addE G)={getN' n G with ex:=(getN' n G).ex || decide (n∈l)}∧
    (∀ m,m∈keysN (l.foldl addE G)↔m∈keysN G∨m∈l)∧((keysN G).Nodup→(keysN (l.foldl addE G)).Nodup)
  | [],G=> ⟨by simp,by simp,fun h=> h⟩
  | x::l,G=> by
    obtain⟨h1,h2,h3⟩:=fold_E n l (addE G x)
    rw[List.foldl_cons]
    refine⟨?_,fun m=> ?_,fun h=> h3 (nodup_upd _ _ h)⟩
    · rw[h1]
      unfold addE
      rw[get_upd]
      by_cases hn:n=x
      · subst hn;simp
      · simp[hn]
    · rw[h2 m]
      unfold addE
      rw[mem_keys_upd]
      simp only[List.mem_cons]
      constructor
      · rintro((h | h) | h)
        · exact .inr (.inl h)
        · exact .inl h
        · exact .inr (.inr h)
      · rintro(h | h | h)
        · exact .inl (.inr h)
        · exact .inl (.inl h)
        · exact .inr h
theorem gathO_get (n:Byt8)(G:Gth)(x:ObS×Nat):getN' n (gathO G x)=⟨(getN' n G).fs++fsO n x.2 x.1,(getN' n G).ts++tsO n x.1,(getN' n G).ex || exO n x.1⟩:=by
  unfold gathO
  rw[(fold_E n _ _).1,(fold_T n _ _).1,(fold_F x.2 n _ _).1]
  rfl
theorem gathO_keys (G:Gth)(x:ObS×Nat)(m:Byt8):m∈keysN (gathO G x)↔m∈keysN G∨inO m x.1:=by
  unfold gathO inO
  rw[(fold_E m _ _).2.1,(fold_T m _ _).2.1,(fold_F x.2 m _ _).2.1]
  have:(∃ y∈x.1.fn.zipIdx,y.1.gl=true∧y.1.nm=m)↔∃ f∈x.1.fn,f.gl=true∧f.nm=m:=by
    constructor
    · rintro⟨⟨f,j⟩,h1,h2⟩
      exact⟨f,(List.mem_zipIdx' h1).2 ▸ List.getElem_mem _,h2⟩
    · rintro⟨f,h1,h2⟩
      obtain⟨j,hj,rfl⟩:=List.getElem_of_mem h1
      exact⟨(x.1.fn[j],j),by rw[List.mem_zipIdx_iff_getElem?];simp,h2⟩
  rw[this]
  simp only[or_assoc]
theorem gathO_nodup {G:Gth}(x:ObS×Nat)(h:(keysN G).Nodup):(keysN (gathO G x)).Nodup:=(fold_E [] _ _).2.2 ((fold_T [] _ _).2.2 ((fold_F x.2 [] _ _).2.2 h))
theorem gath_fold (n:Byt8):∀ (l:List (ObS×Nat)) (G:Gth),getN' n (l.foldl gathO G)=⟨(getN' n G).fs++l.flatMap (fun x=> fsO n x.2 x.1),(getN' n G).ts++l.flatMap (fun x=> tsO n x.1),(getN' n G).ex || l.any (fun x=> exO n x.1)⟩∧
    (∀ m,m∈keysN (l.foldl gathO G)↔m∈keysN G∨∃ x∈l,inO m x.1)∧((keysN G).Nodup→(keysN (l.foldl gathO G)).Nodup)
  | [],G=> ⟨by simp,by simp,fun h=> h⟩
  | x::l,G=> by
    obtain⟨h1,h2,h3⟩:=gath_fold n l (gathO G x)
    rw[List.foldl_cons]
    refine⟨?_,fun m=> ?_,fun h=> h3 (gathO_nodup x h)⟩
    · rw[h1,gathO_get]
      simp[List.flatMap_cons,Bool.or_assoc]
    · rw[h2 m,gathO_keys]
      simp only[List.mem_cons,exists_eq_or_imp,or_assoc]
def fsA (n:Byt8)(os:List ObS):List Bnd:=os.zipIdx.flatMap fun x=> fsO n x.2 x.1
def tsA (n:Byt8)(os:List ObS):List TbS:=os.flatMap (tsO n)
def exA (n:Byt8)(os:List ObS):Bool:=os.any (exO n)
theorem gathA_get (n:Byt8)(os:List ObS):getN' n (gathA os)=⟨fsA n os,tsA n os,exA n os⟩:=by
  unfold gathA
  rw[(gath_fold n _ _).1]
  have e1:(os.zipIdx.flatMap fun x=> tsO n x.1)=os.flatMap (tsO n):=by
    have:os.zipIdx.flatMap (fun x:ObS×Nat=> tsO n x.1)=(os.zipIdx.map Prod.fst).flatMap (tsO n):=by rw[List.flatMap_map]
    rw[this,List.zipIdx_map_fst]
  have e2:(os.zipIdx.any fun x=> exO n x.1)=os.any (exO n):=by
    have:os.zipIdx.any (fun x:ObS×Nat=> exO n x.1)=(os.zipIdx.map Prod.fst).any (exO n):=by rw[List.any_map];rfl
    rw[this,List.zipIdx_map_fst]
  rw[e1,e2]
  rfl
theorem gathA_keys (os:List ObS)(m:Byt8):m∈keysN (gathA os)↔∃ o∈os,inO m o:=by
  unfold gathA
  rw[(gath_fold m _ _).2.1]
  have h0:m∉keysN []:=by simp[keysN]
  simp only[h0,false_or]
  constructor
  · rintro⟨⟨o,j⟩,h1,h2⟩
    exact⟨o,(List.mem_zipIdx' h1).2 ▸ List.getElem_mem _,h2⟩
  · rintro⟨o,h1,h2⟩
    obtain⟨j,hj,rfl⟩:=List.getElem_of_mem h1
    exact⟨(os[j],j),by rw[List.mem_zipIdx_iff_getElem?];simp,h2⟩
theorem gathA_nodup (os:List ObS):(keysN (gathA os)).Nodup:=(gath_fold [] _ _).2.2 (by simp[keysN])
end Go.Sh
