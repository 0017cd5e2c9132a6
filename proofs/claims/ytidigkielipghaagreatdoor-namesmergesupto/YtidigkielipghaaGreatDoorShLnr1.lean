/- Part of the proof. -/
import Derived.Test.YtidigkielipghaaGreatDoorShLnmQ
import Derived.Test.YtidigkielipghaaGreatDoorShLob2
import Derived.Test.YtidigkielipghaaGreatDoorShFref15
set_option linter.unusedVariables false
set_option linter.unusedSimpArgs false
namespace Go.Sh
def ddU:List Byt8→List Byt8
  | []=> []
  | x::r=> if x∈ddU r then ddU r else x::ddU r
theorem mem_ddU (y:Byt8):∀ l:List Byt8,y∈ddU l↔y∈l
  | []=> by simp[ddU]
  | x::r=> by
    have ih:=mem_ddU y r
    rw[ddU]
    split
    · rename_i h
      rw[List.mem_cons,ih]
      constructor
      · exact .inr
      · rintro(rfl | h')
        · exact(mem_ddU y r).1 h
        · exact h'
    · rw[List.mem_cons,List.mem_cons,ih]
theorem nodup_ddU:∀ l:List Byt8,(ddU l).Nodup
  | []=> by simp[ddU]
  | x::r=> by
    rw[ddU]
    split
    · exact nodup_ddU r
    · rename_i h
      exact List.nodup_cons.2 ⟨h,nodup_ddU r⟩
def srtU (l:List Byt8):List Byt8:=srtS (ddU l)
abbrev Rise (l:List Byt8):Prop:=l.Pairwise fun x y=> strLess x y=true
theorem rise_srtU (l:List Byt8):Rise (srtU l):=srtS_pair _ (nodup_ddU l)
theorem mem_srtU (y:Byt8)(l:List Byt8):y∈srtU l↔y∈l:=by
  unfold srtU srtS
  rw[(List.mergeSort_perm _ _).mem_iff,mem_ddU]
theorem rise_nodup {l:List Byt8}(h:Rise l):l.Nodup:=h.imp fun h e=> by
  subst e
  exact absurd ((strLess_lt _ _).1 h) (List.lt_irrefl _)
theorem rise_self {l:List Byt8}(h:Rise l):srtS l=l:=by
  unfold srtS
  refine List.mergeSort_of_pairwise (h.imp fun h=> ?_)
  simp only[leB,decide_eq_true_eq]
  exact List.le_of_lt ((strLess_lt _ _).1 h)
theorem rise_uniq {a b:List Byt8}(ha:Rise a)(hb:Rise b)(h:∀ x,x∈a↔x∈b):a=b:=by
  rw[← rise_self ha,← rise_self hb]
  unfold srtS
  refine mergeSort_of_perm ?_
  exact(List.perm_ext_iff_of_nodup (rise_nodup ha) (rise_nodup hb)).2 h
theorem srtU_keys {l ks:List Byt8}(hk:ks.Nodup)(h:∀ x,x∈l↔x∈ks):srtU l=srtS ks:=by
  refine rise_uniq (rise_srtU l) (srtS_pair _ hk) fun x=> ?_
  rw[mem_srtU,h]
  unfold srtS
  rw[(List.mergeSort_perm _ _).mem_iff]
def mrgU:List Byt8→List Byt8→List Byt8
  | [],b=> b
  | x::a,b=> match b with
    | []=> x::a
    | y::b'=> if strLess x y then x::mrgU a (y::b') else if strLess y x then y::mrgU (x::a) b' else x::mrgU a b'
termination_by a b=> a.length+b.length
theorem mrgU_n (b:List Byt8):mrgU [] b=b:=by rw[mrgU]
theorem mrgU_n' (a:List Byt8):mrgU a []=a:=by cases a <;> rw[mrgU]
theorem mrgU_c (x y:Byt8)(a b:List Byt8):mrgU (x::a) (y::b)=if strLess x y then x::mrgU a (y::b) else if strLess y x then y::mrgU (x::a) b else x::mrgU a b:=by rw[mrgU]
theorem strLess_ae {x y:Byt8}(h1:strLess x y=false)(h2:strLess y x=false):x=y:=by
  by_cases h:x=y
  · exact h
  · rw[strLess_tri x y h h2]at h1
    cases h1
theorem mem_mrgU (z:Byt8):∀ (n:Nat) (a b:List Byt8),a.length+b.length≤n→(z∈mrgU a b↔z∈a∨z∈b)
  | n,[],b,_=> by rw[mrgU_n];simp
  | n,x::a,[],_=> by rw[mrgU_n'];simp
  | 0,x::a,y::b,h=> by simp at h
  | n+1,x::a,y::b,h=> by
    simp only[List.length_cons]at h
    have h1:=mem_mrgU z n a (y::b) (by simp only[List.length_cons];omega)
    have h2:=mem_mrgU z n (x::a) b (by simp only[List.length_cons];omega)
    have h3:=mem_mrgU z n a b (by omega)
    rw[mrgU_c]
    split
    · rw[List.mem_cons,h1,List.mem_cons,List.mem_cons,or_assoc]
    · split
      · rw[List.mem_cons,h2,List.mem_cons,List.mem_cons]
        constructor
        · rintro(e | (e | e) | e)
          · exact .inr (.inl e)
          · exact .inl (.inl e)
          · exact .inl (.inr e)
          · exact .inr (.inr e)
        · rintro((e | e) | e | e)
          · exact .inr (.inl (.inl e))
          · exact .inr (.inl (.inr e))
          · exact .inl e
          · exact .inr (.inr e)
      · rename_i e1 e2
        have:=strLess_ae (by simpa using e1) (by simpa using e2)
        subst this
        rw[List.mem_cons,h3,List.mem_cons,List.mem_cons]
        constructor
        · rintro(e | e | e)
          · exact .inl (.inl e)
          · exact .inl (.inr e)
          · exact .inr (.inr e)
        · rintro((e | e) | e | e)
          · exact .inl e
          · exact .inr (.inl e)
          · exact .inl e
          · exact .inr (.inr e)
theorem strLess_trans {x y z:Byt8}(h1:strLess x y=true)(h2:strLess y z=true):strLess x z=true:=by
  rw[strLess_lt]at *
  exact List.lt_trans h1 h2
theorem rise_mrgU:∀ (n:Nat) (a b:List Byt8),a.length+b.length≤n→Rise a→Rise b→Rise (mrgU a b)
  | n,[],b,_,_,hb=> by rw[mrgU_n];exact hb
  | n,x::a,[],_,ha,_=> by rw[mrgU_n'];exact ha
  | 0,x::a,y::b,h,_,_=> by simp at h
  | n+1,x::a,y::b,h,ha,hb=> by
    simp only[List.length_cons]at h
    have h1:=rise_mrgU n a (y::b) (by simp only[List.length_cons];omega)
    have h2:=rise_mrgU n (x::a) b (by simp only[List.length_cons];omega)
    have h3:=rise_mrgU n a b (by omega)
    obtain⟨hx,ha'⟩:=List.pairwise_cons.1 ha
    obtain⟨hy,hb'⟩:=List.pairwise_cons.1 hb
    rw[mrgU_c]
    split
    · rename_i e
      refine List.pairwise_cons.2 ⟨fun z hz=> ?_,h1 ha' hb⟩
      rcases(mem_mrgU z _ _ _ (Nat.le_refl _)).1 hz with hz | hz
      · exact hx z hz
      · rcases List.mem_cons.1 hz with rfl | hz
        · exact e
        · exact strLess_trans e (hy z hz)
    · split
      · rename_i e
        refine List.pairwise_cons.2 ⟨fun z hz=> ?_,h2 ha hb'⟩
        rcases(mem_mrgU z _ _ _ (Nat.le_refl _)).1 hz with hz | hz
        · rcases List.mem_cons.1 hz with rfl | hz
          · exact e
          · exact strLess_trans e (hx z hz)
        · exact hy z hz
      · rename_i e1 e2
        have:=strLess_ae (by simpa using e1) (by simpa using e2)
        subst this
        refine List.pairwise_cons.2 ⟨fun z hz=> ?_,h3 ha' hb'⟩
        rcases(mem_mrgU z _ _ _ (Nat.le_refl _)).1 hz with hz | hz
        · exact hx z hz
        · exact hy z hz
theorem srtU_halves (a b:List Byt8):mrgU (srtU a) (srtU b)=srtU (a++b):=by
  refine rise_uniq (rise_mrgU _ _ _ (Nat.le_refl _) (rise_srtU a) (rise_srtU b)) (rise_srtU _) fun x=> ?_
  rw[mem_mrgU x _ _ _ (Nat.le_refl _),mem_srtU,mem_srtU,mem_srtU,List.mem_append]
theorem srtU_one {l:List Byt8}(h:l.length≤1):srtU l=l:=by
  refine rise_uniq (rise_srtU l) ?_ fun x=> mem_srtU x l
  match l,h with
  | [],_=> exact List.Pairwise.nil
  | [x],_=> simp
end Go.Sh
set_option linter.unusedSectionVars false
namespace Go.Sh
def r15Fns:List (Nat×SFn):= [(366,F366),(372,F372),(373,F373),(374,F374),(382,F382),(368,F368)]
section
variable {pr:Prog}(hp:Sub r15Fns pr){st:St}
include hp
set_option maxHeartbeats 4000000 in
theorem loopU {A B:List Byt8}(hA:A.length≤1099511627776)(hB:B.length≤1099511627776):∃ e ts,cden pr (.loop [3,4,5,6,7] false F382_b0) [(3,dsl txC true A),(4,dsl txC true B),(5,.own 1 0 false [] 0),(6,.d (.i .i64 0)),(7,.d (.i .i64 0))] (s0 [] [0] 0 0)=some (.exit 0,e,s0 [] ts 0 0)∧e.get 5=some (.own 1 (mrgU A B).length (decide (0 < (mrgU A B).length)) ((mrgU A B).map D.s) 0):=by
  have hu:=dsl_d txC1 true A
  have hv:=dsl_d txC1 true B
  have hlu:=hu.len
  have hlv:=hv.len
  rw[List.length_map]at hlu hlv
  obtain⟨u,huv⟩:∃ u,u=dsl txC true A:=⟨_,rfl⟩
  obtain⟨v,hvv⟩:∃ v,v=dsl txC true B:=⟨_,rfl⟩
  rw[← huv]at hu hlu ⊢
  rw[← hvv]at hv hlv ⊢
  obtain⟨R,hR⟩:∃ R,R=mrgU A B:=⟨_,rfl⟩
  rw[← hR]
  obtain⟨r,h1,e,ts,rfl,h2⟩:∃ r,cden pr (.loop [3,4,5,6,7] false F382_b0) [(3,u),(4,v),(5,.own 1 0 false [] 0),(6,.d (.i .i64 0)),(7,.d (.i .i64 0))] (s0 [] [0] 0 0)=some r∧∃ e ts,r=(.exit 0,e,s0 [] ts 0 0)∧e.get 5=some (.own 1 R.length (decide (0 < R.length)) (R.map D.s) 0):=by
    refine loop_j (fun n e s=> ∃ (i k:Nat) (O:List Byt8),n=A.length+B.length - (i+k)∧i≤A.length∧k≤B.length∧O.length≤i+k∧e= [(3,u),(4,v),(5,.own 1 O.length (decide (0 < O.length)) (O.map D.s) 0),(6,.d (.i .i64 (i:Nat))),(7,.d (.i .i64 (k:Nat)))]∧s=s0 [] [O.length] 0 0∧R=O++mrgU (A.drop i) (B.drop k)) ?_ (n:=A.length+B.length) ⟨0,0,[],by omega,by omega,by omega,by simp,by simp,by simp,by rw[hR];simp⟩
    rintro n e s ⟨i,k,O,rfl,hi,hk,hO,rfl,rfl,hRO⟩
    have hOl:∀ y:Byt8,(O++ [y]).length=O.length+1:=fun y=> by simp
    have hb1:(O.length+1) * 16≤140737488355328:=by omega
    have hb2:O.length+1≤140737488355328:=by omega
    have hOm:(O.map D.s).length=O.length:=List.length_map _
    have hda:∀ y:Byt8,O.map D.s++ [D.s y]=(O++ [y]).map D.s:=fun y=> by simp
    have hnp:∀ y:Byt8,decide (0 < (O++ [y]).length)=true:=fun y=> by simp
    have hn1:i < A.length→IntKind.wrap .i64 ((i:Int)+1)=i+1:=fun h=> wrap_i64 (by omega) (by omega)
    have hn2:k < B.length→IntKind.wrap .i64 ((k:Int)+1)=k+1:=fun h=> wrap_i64 (by omega) (by omega)
    have hia:i < A.length→iaddrV 1 u (.d (.i .i64 (i:Int)))=some (elP 1 u i 0):=fun h=> by
      have:=hu.iaddr (i:=(i:Int)) (k:= .i64) (by omega) (by simp;omega)
      simpa using this
    have hib:k < B.length→iaddrV 1 v (.d (.i .i64 (k:Int)))=some (elP 1 v k 0):=fun h=> by
      have:=hv.iaddr (i:=(k:Int)) (k:= .i64) (by omega) (by simp;omega)
      simpa using this
    have hla:∀ x,A[i]? =some x→∀ st,loadV 1 false st (elP 1 u i 0)=some (.d (.s x)):=fun x hx st=> by
      rw[hu.load (el:=txC x) (by simp[hx]) (by omega) (by omega)]
      rfl
    have hlb:∀ x,B[k]? =some x→∀ st,loadV 1 false st (elP 1 v k 0)=some (.d (.s x)):=fun x hx st=> by
      rw[hv.load (el:=txC x) (by simp[hx]) (by omega) (by omega)]
      rfl
    rcases Nat.lt_or_ge i A.length with h | h
    · obtain⟨x,hx⟩:∃ x,A[i]? =some x:=⟨_,List.getElem?_eq_getElem h⟩
      have hia:=hia h
      have hla:=hla x hx
      have hn1:=hn1 h
      have hli:A.length+B.length - (i+1+k) < A.length+B.length - (i+k):=by omega
      have hne:¬ (i:Int)=A.length:=by omega
      have hne':¬ i=A.length:=by omega
      rcases Nat.lt_or_ge k B.length with g | g
      · obtain⟨y,hy⟩:∃ y,B[k]? =some y:=⟨_,List.getElem?_eq_getElem g⟩
        have hib:=hib g
        have hlb:=hlb y hy
        have hn2:=hn2 g
        have hlk:A.length+B.length - (i+(k+1)) < A.length+B.length - (i+k):=by omega
        have hl2:A.length+B.length - (i+1+(k+1)) < A.length+B.length - (i+k):=by omega
        have hnk:¬ (k:Int)=B.length:=by omega
        have hnk':¬ k=B.length:=by omega
        rw[drop_cons9 hx,drop_cons9 hy,mrgU_c,← drop_cons9 hx,← drop_cons9 hy]at hRO
        cases h1:strLess x y
        · cases h2:strLess y x
          · rw[h1,h2]at hRO
            simp[F382_b0,h,g,hlu,hlv,hne,hne',hnk,hnk',hia,hib,hla,hlb,hn1,hn2,h1,h2,hu.esc,hv.esc,ofDs,lay,fillV,reps,toDs,toD,appV,vw,hb1,hb2]
            exact⟨_,hl2,i+1,k+1,rfl,h,g,O++ [x],by simp;omega,by simp,by simp,by rw[hRO];simp⟩
          · rw[h1,h2]at hRO
            simp[F382_b0,h,g,hlu,hlv,hne,hne',hnk,hnk',hia,hib,hla,hlb,hn1,hn2,h1,h2,hu.esc,hv.esc,ofDs,lay,fillV,reps,toDs,toD,appV,vw,hb1,hb2]
            exact⟨_,hlk,i,k+1,rfl,hi,g,O++ [y],by simp;omega,by simp,by simp,by rw[hRO];simp⟩
        · rw[h1]at hRO
          simp[F382_b0,h,g,hlu,hlv,hne,hne',hnk,hnk',hia,hib,hla,hlb,hn1,hn2,h1,hu.esc,hv.esc,ofDs,lay,fillV,reps,toDs,toD,appV,vw,hb1,hb2]
          exact⟨_,hli,i+1,k,rfl,h,hk,O++ [x],by simp;omega,by simp,by simp,by rw[hRO];simp⟩
      · obtain rfl:k=B.length:=by omega
        rw[drop_cons9 hx,List.drop_length,mrgU_n']at hRO
        simp[F382_b0,h,hlu,hlv,hne,hne',hia,hla,hn1,hu.esc,hv.esc,ofDs,lay,fillV,reps,toDs,toD,appV,vw,hb1,hb2]
        exact⟨_,hli,i+1,B.length,rfl,h,hk,O++ [x],by simp;omega,by simp,by simp,by rw[hRO,List.drop_length,mrgU_n'];simp⟩
    · obtain rfl:i=A.length:=by omega
      rcases Nat.lt_or_ge k B.length with g | g
      · obtain⟨y,hy⟩:∃ y,B[k]? =some y:=⟨_,List.getElem?_eq_getElem g⟩
        have hib:=hib g
        have hlb:=hlb y hy
        have hn2:=hn2 g
        have hlk:A.length+B.length - (A.length+(k+1)) < A.length+B.length - (A.length+k):=by omega
        have hnk:¬ (k:Int)=B.length:=by omega
        have hnk':¬ k=B.length:=by omega
        rw[List.drop_length,drop_cons9 hy,mrgU_n]at hRO
        simp[F382_b0,g,hlu,hlv,hnk,hnk',hib,hlb,hn2,hu.esc,hv.esc,ofDs,lay,fillV,reps,toDs,toD,appV,vw,hb1,hb2]
        exact⟨_,hlk,A.length,k+1,rfl,hi,g,O++ [y],by simp;omega,by simp,by simp,by rw[hRO,List.drop_length,mrgU_n];simp⟩
      · obtain rfl:k=B.length:=by omega
        rw[List.drop_length,List.drop_length,mrgU_n,List.append_nil]at hRO
        simp[F382_b0,hlu,hlv,hu.esc,hv.esc,hRO]
        exact⟨_,⟨rfl,_,rfl⟩,rfl⟩
  exact⟨e,ts,h1,h2⟩
end
end Go.Sh
namespace Go.Sh
theorem ddU_len:∀ l:List Byt8,(ddU l).length≤l.length
  | []=> by simp[ddU]
  | x::r=> by
    have ih:=ddU_len r
    rw[ddU]
    split
    · simp only[List.length_cons];omega
    · simp only[List.length_cons];omega
theorem srtU_len (l:List Byt8):(srtU l).length≤l.length:=by
  unfold srtU srtS
  rw[(List.mergeSort_perm _ _).length_eq]
  exact ddU_len l
section
variable {pr:Prog}(hp:Sub r15Fns pr)
include hp
theorem den_rmerged:∀ (n:Nat) (l:List Byt8),l.length≤n→l.length≤1099511627776→∀ (nz:Bool) (st:St) (v:V),close1 v=some (dsl txC nz l)→den pr 382 [v] st=some (dsl txC true (srtU l),st):=by
  intro n
  induction n with
  | zero=>
    intro l h0 hl nz st v hv
    refine den_shut (hp.at 4 rfl) rfl rfl (by simp[closeA,hv];rfl) ?_
    obtain rfl:l= []:=List.length_eq_zero_iff.1 (by omega)
    rw[srtU_one (by simp)]
    simp[F382,dsl,appV,vw,lenV,fillV,reps,ofDs,toDs]
  | succ n ih=>
    intro l h0 hl nz st v hv
    refine den_shut (hp.at 4 rfl) rfl rfl (by simp[closeA,hv];rfl) ?_
    have hu:=dsl_d txC1 nz l
    have hlu:=hu.len
    rw[List.length_map]at hlu
    by_cases h1:l.length≤1
    · have h1':(l.length:Int)≤1:=by omega
      rw[srtU_one h1]
      have hvw:=fun st=> dsl_vw txC nz l 1 st
      have hfin:dsl txC true l= .d (.sl l.length true ((l.map txC).flatten)):=rfl
      rw[hfin]
      have hfl:(l.map txC).flatten.length=l.length:=txC_len l
      obtain⟨u,huu⟩:∃ u,u=dsl txC nz l:=⟨_,rfl⟩
      rw[← huu]at hlu hvw ⊢
      generalize (l.map txC).flatten=G at hvw hfl ⊢
      have hb1:l.length * 16≤140737488355328:=by omega
      have hb2:l.length≤140737488355328:=by omega
      simp[F382,hlu,h1,h1',appV,hvw,hfl,hb1,hb2,fillV,reps,ofDs,toDs]
    · have h1':¬ (l.length:Int)≤1:=by omega
      have hq:(l.length:Int).tdiv 2=((l.length / 2:Nat):Int):=by
        rw[Int.tdiv_eq_ediv_of_nonneg (by omega)]
        omega
      obtain⟨k,hk⟩:∃ k,k=l.length / 2:=⟨_,rfl⟩
      rw[← hk]at hq
      have hwq:IntKind.wrap .i64 (k:Int)=k:=wrap_i64 (by omega) (by omega)
      have hs1:=dsl_slc txC1 nz l (lo:=none) (hi:=some (.d (.i .i64 (k:Int)))) (a:=0) (b:=k) (by simp[Bd]) rfl (by omega) (by omega)
      have hs2:=dsl_slc txC1 nz l (lo:=some (.d (.i .i64 (k:Int)))) (hi:=none) (a:=k) (b:=l.length) rfl (by simp[Bd]) (by omega) (by omega)
      rw[List.drop_zero]at hs1
      rw[List.take_length]at hs2
      have hta:(l.take k).length≤n:=by rw[List.length_take];omega
      have htb:(l.drop k).length≤n:=by rw[List.length_drop];omega
      have hta':(l.take k).length≤1099511627776:=by rw[List.length_take];omega
      have htb':(l.drop k).length≤1099511627776:=by rw[List.length_drop];omega
      have c1:=fun st=> ih (l.take k) hta hta' nz st (dsl txC nz (l.take k)) rfl
      have c2:=fun st=> ih (l.drop k) htb htb' nz st (dsl txC nz (l.drop k)) rfl
      obtain⟨e,ts,q1,q2⟩:=loopU hp (A:=srtU (l.take k)) (B:=srtU (l.drop k)) (Nat.le_trans (srtU_len _) hta') (Nat.le_trans (srtU_len _) htb')
      rw[srtU_halves,List.take_append_drop]at q2
      have hpos:0 < (srtU l).length:=by
        obtain⟨x,hx⟩:∃ x,x∈l:=List.exists_mem_of_length_pos (by omega)
        exact List.length_pos_of_mem ((mem_srtU x l).2 hx)
      have hfin:dsl txC true (srtU l)= .d (.sl (srtU l).length true ((srtU l).map D.s)):=by
        unfold dsl
        rw[txC_flat]
      rw[hfin]
      obtain⟨u,huu⟩:∃ u,u=dsl txC nz l:=⟨_,rfl⟩
      obtain⟨u1,hu1⟩:∃ u,u=dsl txC nz (l.take k):=⟨_,rfl⟩
      obtain⟨u2,hu2⟩:∃ u,u=dsl txC nz (l.drop k):=⟨_,rfl⟩
      obtain⟨w1,hw1⟩:∃ u,u=dsl txC true (srtU (l.take k)):=⟨_,rfl⟩
      obtain⟨w2,hw2⟩:∃ u,u=dsl txC true (srtU (l.drop k)):=⟨_,rfl⟩
      have o1:w1.ok1=true:=by rw[hw1];rfl
      have o2:w2.ok1=true:=by rw[hw2];rfl
      rw[← huu]at hlu hs1 hs2 ⊢
      rw[← hu1]at hs1 c1
      rw[← hu2]at hs2 c2
      rw[← hw1]at c1 q1
      rw[← hw2]at c2 q1
      simp[F382,hlu,h1,h1',hq,hwq,hs1,hs2,c1,c2,o1,o2,q1,q2,hpos]
end
end Go.Sh
namespace Go.Sh
def allO (o:ObS):List Byt8:=glN o++o.tb.map TbS.nm++o.ex
def ownU (O:List Byt8):V:= .own 1 O.length (decide (0 < O.length)) (O.map D.s) 0
theorem app_ownU {O:List Byt8}(hb:O.length+1≤1099511627776)(x:Byt8):appV 1 16 (s0 [] [O.length] 0 0) (ownU O) (.d (.sl 1 true [.s x]))=some (ownU (O++ [x]),s0 [] [(O++ [x]).length] 0 0):=by
  have hb1:(O.length+1) * 16≤140737488355328:=by omega
  have hb2:O.length+1≤140737488355328:=by omega
  simp[appV,vw,ownU,hb1,hb2]
theorem app_ownUs {O:List Byt8}{L:List Byt8}{nz:Bool}(hb:O.length+L.length≤1099511627776):appV 1 16 (s0 [] [O.length] 0 0) (ownU O) (dsl txC nz L)=some (ownU (O++L),s0 [] [(O++L).length] 0 0):=by
  have hb1:(O.length+L.length) * 16≤140737488355328:=by omega
  have hb2:O.length+L.length≤140737488355328:=by omega
  unfold ownU dsl
  rw[txC_flat]
  simp[appV,vw,hb1,hb2]
  omega
section
variable {pr:Prog}(hp:Sub r15Fns pr)
include hp
variable {u:V}{os:List ObS}{i:Nat}{o:ObS}
theorem sortF (hu:SlD 5 u (os.map ObS.cells))(ho:os[i]? =some o)(hn:os.length≤64)(hf:o.fn.length≤1024){O:List Byt8}(hO:O.length≤1000000):∃ e,cden pr (.loop [0,3,4,5] false F372_b1) [(0,u),(3,ownU O),(4,.d (.i .i64 (i:Nat))),(5,.d (.i .i64 0))] (s0 [] [O.length] 0 0)=some (.exit 2,e,s0 [] [(O++glN o).length] 0 0)∧e.get 0=some u∧e.get 3=some (ownU (O++glN o))∧e.get 4=some (.d (.i .i64 (i:Nat))):=by
  have hi:=(List.getElem?_eq_some_iff.1 ho).1
  have hl:=dsl_d FnS.c4 o.n2 o.fn
  have hll:=hl.len
  rw[List.length_map]at hll
  have hia:=hu.iaddr (i:=(i:Int)) (k:= .i64) (by omega) (by simp;omega)
  simp only[Int.toNat_natCast]at hia
  have hfa:=hu.faddr (i:=i) (o:=0) (off:=1)
  have hld:∀ st,loadV 1 false st (elP 5 u i 1)=some (dsl FnS.cells o.n2 o.fn):=fun st=> by
    rw[hu.load (el:=o.cells) (by simp[ho]) (by omega) (by omega)]
    rfl
  obtain⟨w,hw⟩:∃ w,w=dsl FnS.cells o.n2 o.fn:=⟨_,rfl⟩
  rw[← hw]at hl hll hld
  obtain⟨N,hN⟩:∃ N:Nat→List Byt8,∀ j,N j=O++((o.fn.take j).filter fun f=> f.gl).map FnS.nm:=⟨_,fun _=> rfl⟩
  have hN0:N 0=O:=by simp[hN]
  have hNl:N o.fn.length=O++glN o:=by rw[hN,List.take_length];rfl
  have hNb:∀ j,j≤o.fn.length→(N j).length≤1000000+j:=fun j hj=> by
    rw[hN,List.length_append,List.length_map]
    have:=List.length_filter_le (fun f:FnS=> f.gl) (o.fn.take j)
    rw[List.length_take]at this
    omega
  rw[← hNl]
  obtain⟨r,h1,e,rfl,h2⟩:∃ r,cden pr (.loop [0,3,4,5] false F372_b1) [(0,u),(3,ownU O),(4,.d (.i .i64 (i:Nat))),(5,.d (.i .i64 0))] (s0 [] [O.length] 0 0)=some r∧∃ e,r=(.exit 2,e,s0 [] [(N o.fn.length).length] 0 0)∧e.get 0=some u∧e.get 3=some (ownU (N o.fn.length))∧e.get 4=some (.d (.i .i64 (i:Nat))):=by
    refine loop_j (fun n e s=> ∃ j,n=o.fn.length - j∧j≤o.fn.length∧e= [(0,u),(3,ownU (N j)),(4,.d (.i .i64 (i:Nat))),(5,.d (.i .i64 (j:Nat)))]∧s=s0 [] [(N j).length] 0 0) ?_ (n:=o.fn.length) ⟨0,by omega,by omega,by simp[hN0],by simp[hN0]⟩
    rintro n e s ⟨j,rfl,hj,rfl,rfl⟩
    have hok:∀ O,(ownU O).ok1=true:=fun _=> rfl
    rcases Nat.lt_or_ge j o.fn.length with h | h
    · obtain⟨x,hx⟩:∃ x,o.fn[j]? =some x:=⟨_,List.getElem?_eq_getElem h⟩
      have hn1:IntKind.wrap .i64 ((j:Int)+1)=j+1:=wrap_i64 (by omega) (by omega)
      have hja:=hl.iaddr (i:=(j:Int)) (k:= .i64) (by omega) (by simp;omega)
      simp only[Int.toNat_natCast]at hja
      have hjf0:=hl.faddr (i:=j) (o:=0) (off:=0)
      have hjf1:=hl.faddr (i:=j) (o:=0) (off:=1)
      have hg:∀ st,loadV 1 false st (elP 4 w j 1)=some (.d (.b x.gl)):=fun st=> by
        rw[hl.load (el:=x.cells) (by simp[hx]) (by omega) (by omega)]
        rfl
      have hnm:∀ st,loadV 1 false st (elP 4 w j 0)=some (.d (.s x.nm)):=fun st=> by
        rw[hl.load (el:=x.cells) (by simp[hx]) (by omega) (by omega)]
        rfl
      have hlt:o.fn.length - (j+1) < o.fn.length - j:=by omega
      have hb:=hNb j hj
      have hap:=app_ownU (O:=N j) (by omega) x.nm
      have hN1:N (j+1)=if x.gl then N j++ [x.nm]else N j:=by
        rw[hN,hN,List.take_add_one,hx]
        cases hgl:x.gl <;> simp[hgl]
      cases hgl:x.gl
      · rw[hgl]at hg hN1
        simp[F372_b1,h,hia,hfa,hld,hll,hja,hjf1,hg,hn1,hu.esc,hok]
        exact⟨_,hlt,j+1,rfl,h,by rw[hN1];simp,by rw[hN1];simp⟩
      · rw[hgl]at hg hN1
        simp[F372_b1,h,hia,hfa,hld,hll,hja,hjf1,hjf0,hg,hnm,hn1,hu.esc,hok,ofDs,lay,fillV,reps,toDs,toD,hap]
        exact⟨_,hlt,j+1,rfl,h,by rw[hN1];simp,by rw[hN1];simp⟩
    · obtain rfl:j=o.fn.length:=by omega
      simp[F372_b1,hia,hfa,hld,hll,hu.esc,hok]
  exact⟨e,h1,h2⟩
theorem sortT (hu:SlD 5 u (os.map ObS.cells))(ho:os[i]? =some o)(hn:os.length≤64)(hf:o.tb.length≤1024){O:List Byt8}(hO:O.length≤1000000):∃ e,cden pr (.loop [0,3,4,6] false F372_b2) [(0,u),(3,ownU O),(4,.d (.i .i64 (i:Nat))),(6,.d (.i .i64 0))] (s0 [] [O.length] 0 0)=some (.exit 4,e,s0 [] [(O++o.tb.map TbS.nm).length] 0 0)∧e.get 0=some u∧e.get 3=some (ownU (O++o.tb.map TbS.nm))∧e.get 4=some (.d (.i .i64 (i:Nat))):=by
  have hi:=(List.getElem?_eq_some_iff.1 ho).1
  have hl:=dsl_d TbS.c5 o.n3 o.tb
  have hll:=hl.len
  rw[List.length_map]at hll
  have hia:=hu.iaddr (i:=(i:Int)) (k:= .i64) (by omega) (by simp;omega)
  simp only[Int.toNat_natCast]at hia
  have hfa:=hu.faddr (i:=i) (o:=0) (off:=2)
  have hld:∀ st,loadV 1 false st (elP 5 u i 2)=some (dsl TbS.cells o.n3 o.tb):=fun st=> by
    rw[hu.load (el:=o.cells) (by simp[ho]) (by omega) (by omega)]
    rfl
  obtain⟨w,hw⟩:∃ w,w=dsl TbS.cells o.n3 o.tb:=⟨_,rfl⟩
  rw[← hw]at hl hll hld
  obtain⟨N,hN⟩:∃ N:Nat→List Byt8,∀ j,N j=O++(o.tb.take j).map TbS.nm:=⟨_,fun _=> rfl⟩
  have hN0:N 0=O:=by simp[hN]
  have hNl:N o.tb.length=O++o.tb.map TbS.nm:=by rw[hN,List.take_length]
  have hNb:∀ j,j≤o.tb.length→(N j).length≤1000000+j:=fun j hj=> by
    rw[hN,List.length_append,List.length_map,List.length_take]
    omega
  rw[← hNl]
  obtain⟨r,h1,e,rfl,h2⟩:∃ r,cden pr (.loop [0,3,4,6] false F372_b2) [(0,u),(3,ownU O),(4,.d (.i .i64 (i:Nat))),(6,.d (.i .i64 0))] (s0 [] [O.length] 0 0)=some r∧∃ e,r=(.exit 4,e,s0 [] [(N o.tb.length).length] 0 0)∧e.get 0=some u∧e.get 3=some (ownU (N o.tb.length))∧e.get 4=some (.d (.i .i64 (i:Nat))):=by
    refine loop_j (fun n e s=> ∃ j,n=o.tb.length - j∧j≤o.tb.length∧e= [(0,u),(3,ownU (N j)),(4,.d (.i .i64 (i:Nat))),(6,.d (.i .i64 (j:Nat)))]∧s=s0 [] [(N j).length] 0 0) ?_ (n:=o.tb.length) ⟨0,by omega,by omega,by simp[hN0],by simp[hN0]⟩
    rintro n e s ⟨j,rfl,hj,rfl,rfl⟩
    have hok:∀ O,(ownU O).ok1=true:=fun _=> rfl
    rcases Nat.lt_or_ge j o.tb.length with h | h
    · obtain⟨x,hx⟩:∃ x,o.tb[j]? =some x:=⟨_,List.getElem?_eq_getElem h⟩
      have hn1:IntKind.wrap .i64 ((j:Int)+1)=j+1:=wrap_i64 (by omega) (by omega)
      have hja:=hl.iaddr (i:=(j:Int)) (k:= .i64) (by omega) (by simp;omega)
      simp only[Int.toNat_natCast]at hja
      have hjf0:=hl.faddr (i:=j) (o:=0) (off:=0)
      have hnm:∀ st,loadV 1 false st (elP 5 w j 0)=some (.d (.s x.nm)):=fun st=> by
        rw[hl.load (el:=x.cells) (by simp[hx]) (by omega) (by omega)]
        rfl
      have hlt:o.tb.length - (j+1) < o.tb.length - j:=by omega
      have hb:=hNb j hj
      have hap:=app_ownU (O:=N j) (by omega) x.nm
      have hN1:N (j+1)=N j++ [x.nm]:=by
        rw[hN,hN,List.take_add_one,hx]
        simp
      simp[F372_b2,h,hia,hfa,hld,hll,hja,hjf0,hnm,hn1,hu.esc,hok,ofDs,lay,fillV,reps,toDs,toD,hap]
      exact⟨_,hlt,j+1,rfl,h,by rw[hN1];simp,by rw[hN1];simp⟩
    · obtain rfl:j=o.tb.length:=by omega
      simp[F372_b2,hia,hfa,hld,hll,hu.esc,hok]
  exact⟨e,h1,h2⟩
end
end Go.Sh
namespace Go.Sh
theorem allO_len {o:ObS}(h:o.few):(allO o).length≤3072:=by
  have h1:(glN o).length≤o.fn.length:=by
    unfold glN
    rw[List.length_map]
    exact List.length_filter_le _ _
  have:=h.fn
  have:=h.tb
  have:=h.ex
  simp[allO]
  omega
theorem allA_len:∀ {os:List ObS},(∀ o∈os,o.few)→(os.flatMap allO).length≤os.length * 3072
  | [],_=> by simp
  | o::r,h=> by
    have h1:=allO_len (h o List.mem_cons_self)
    have h2:=allA_len (os:=r) fun x hx=> h x (List.mem_cons_of_mem _ hx)
    rw[List.flatMap_cons,List.length_append,List.length_cons]
    omega
theorem mem_allO {n:Byt8}{o:ObS}:n∈allO o↔inO n o:=by
  unfold allO glN inO
  rw[List.mem_append,List.mem_append,List.mem_map,List.mem_map]
  constructor
  · rintro((⟨f,hf,rfl⟩ | ⟨t,ht,rfl⟩) | h)
    · exact .inl ⟨f,(List.mem_filter.1 hf).1,by simpa using(List.mem_filter.1 hf).2,rfl⟩
    · exact .inr (.inl ⟨t,ht,rfl⟩)
    · exact .inr (.inr h)
  · rintro(⟨f,hf,h1,rfl⟩ | ⟨t,ht,rfl⟩ | h)
    · exact .inl (.inl ⟨f,List.mem_filter.2 ⟨hf,by simpa using h1⟩,rfl⟩)
    · exact .inl (.inr ⟨t,ht,rfl⟩)
    · exact .inr h
theorem srtU_all (os:List ObS):srtU (os.flatMap allO)=srtS (keysN (gathA os)):=by
  refine srtU_keys (gathA_nodup os) fun x=> ?_
  rw[gathA_keys,List.mem_flatMap]
  exact⟨fun⟨o,h1,h2⟩=> ⟨o,h1,mem_allO.1 h2⟩,fun⟨o,h1,h2⟩=> ⟨o,h1,mem_allO.2 h2⟩⟩
section
variable {pr:Prog}(hp:Sub r15Fns pr){st:St}
include hp
theorem den_rSorted {v:V}{os:List ObS}(hv:SlC 5 v (os.map ObS.cells))(hn:os.length≤64)(hf:∀ o∈os,o.few):den pr 372 [v] st=some (dsl txC true (srtS (keysN (gathA os))),st):=by
  obtain⟨u,hc,hu⟩:=hv.close
  refine den_shut (hp.at 1 rfl) rfl rfl (by simp[hc];rfl) ?_
  have hlu:=hu.len
  rw[List.length_map]at hlu
  have hok:∀ O,(ownU O).ok1=true:=fun _=> rfl
  have how:V.own 1 0 false [] 0=ownU []:=by simp[ownU]
  rw[← srtU_all]
  obtain⟨L,hL'⟩:∃ L,L=os.flatMap allO:=⟨_,rfl⟩
  rw[← hL']
  obtain⟨K,hK⟩:∃ K:Nat→List Byt8,∀ i,K i=(os.take i).flatMap allO:=⟨_,fun _=> rfl⟩
  have hK0:K 0= []:=by simp[hK]
  have hLl:L.length≤196608:=by
    have:=allA_len hf
    rw[hL']
    omega
  have hm:=fun st=> den_rmerged hp L.length L (Nat.le_refl _) (by omega) (decide (0 < L.length)) st (ownU L) (by unfold ownU dsl;rw[txC_flat];rfl)
  simp[F372,how]
  generalize hL:cden pr (.loop _ _ F372_b0) _ _=q
  obtain⟨r,rfl,e,ts,rfl,he⟩:∃ r,q=some r∧∃ e ts,r=(.exit 0,e,s0 [] ts 0 0)∧e.get 3=some (ownU L):=by
    rw[← hL]
    clear hL
    refine loop_j (fun n e s=> ∃ i,n=os.length - i∧i≤os.length∧e= [(0,u),(3,ownU (K i)),(4,.d (.i .i64 (i:Nat)))]∧s=s0 [] [(K i).length] 0 0) ?_ (n:=os.length) ⟨0,by omega,by omega,by simp[hK0],by simp[hK0]⟩
    rintro n e s ⟨i,rfl,hi,rfl,rfl⟩
    rcases Nat.lt_or_ge i os.length with h | h
    · obtain⟨o,ho⟩:∃ o,os[i]? =some o:=⟨_,List.getElem?_eq_getElem h⟩
      have hfo:=hf o (List.mem_of_getElem? ho)
      have b1:=hfo.fn
      have b2:=hfo.tb
      have b3:=hfo.ex
      have hn1:IntKind.wrap .i64 ((i:Int)+1)=i+1:=wrap_i64 (by omega) (by omega)
      have hlt:os.length - (i+1) < os.length - i:=by omega
      obtain⟨O,hO⟩:∃ O,O=K i:=⟨_,rfl⟩
      have hOl:O.length≤196608:=by
        have:=allA_len (os:=os.take i) fun x hx=> hf x (List.mem_of_mem_take hx)
        rw[List.length_take]at this
        rw[hO,hK]
        omega
      have hO1:K (i+1)=O++glN o++o.tb.map TbS.nm++o.ex:=by
        rw[hK,List.take_add_one,ho,Option.toList_some,List.flatMap_append,← hK,← hO]
        simp[allO]
      have hgl:(glN o).length≤o.fn.length:=by
        unfold glN
        rw[List.length_map]
        exact List.length_filter_le _ _
      rw[← hO]
      obtain⟨e1,q1,q2,q3,q4⟩:=sortF hp hu ho hn b1 (O:=O) (by omega)
      obtain⟨e2,p1,p2,p3,p4⟩:=sortT hp hu ho hn b2 (O:=O++glN o) (by simp;omega)
      have hap:=app_ownUs (O:=O++glN o++o.tb.map TbS.nm) (L:=o.ex) (nz:=o.n4) (by simp;omega)
      have hia:=hu.iaddr (i:=(i:Int)) (k:= .i64) (by omega) (by simp;omega)
      simp only[Int.toNat_natCast]at hia
      have hfa:=hu.faddr (i:=i) (o:=0) (off:=3)
      have hld:∀ st,loadV 1 false st (elP 5 u i 3)=some (dsl txC o.n4 o.ex):=fun st=> by
        rw[hu.load (el:=o.cells) (by simp[ho]) (by omega) (by omega)]
        rfl
      obtain⟨O1,hO1e⟩:∃ X,X=O++glN o:=⟨_,rfl⟩
      rw[← hO1e]at q1 q3 p1 p3 hap hO1
      obtain⟨O2,hO2e⟩:∃ X,X=O1++o.tb.map TbS.nm:=⟨_,rfl⟩
      rw[← hO2e]at p1 p3 hap hO1
      obtain⟨w,hw⟩:∃ w,w=dsl txC o.n4 o.ex:=⟨_,rfl⟩
      have how:w.ok1=true:=by rw[hw];rfl
      rw[← hw]at hap hld
      simp[F372_b0,h,hlu,hu.esc,hok,how,q1,q2,q3,q4,p1,p2,p3,p4,hia,hfa,hld,hap,hn1]
      exact⟨_,hlt,i+1,rfl,h,by rw[hO1];simp,by rw[hO1];simp⟩
    · obtain rfl:i=os.length:=by omega
      have hKL:K os.length=L:=by rw[hK,List.take_length,hL']
      rw[hKL]
      simp[F372_b0,hlu,hu.esc,hok]
      exact⟨_,⟨rfl,_,rfl⟩,rfl⟩
  have hes:∀ st a b,esc st a b (dsl txC true (srtU L))=some (dsl txC true (srtU L)):=fun _ _ _=> rfl
  simp[he,hm,hes]
end
end Go.Sh
