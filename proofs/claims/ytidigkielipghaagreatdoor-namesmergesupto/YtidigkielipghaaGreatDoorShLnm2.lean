/- Part of the proof. -/
import Derived.Test.YtidigkielipghaaGreatDoorShLnm1
import Derived.Test.YtidigkielipghaaGreatDoorShLstrs1
import Derived.Test.YtidigkielipghaaGreatDoorShFnames
import Derived.Test.YtidigkielipghaaGreatDoorShFmaps
import Derived.Test.YtidigkielipghaaGreatDoorShFslices
import Derived.Test.YtidigkielipghaaGreatDoorShBe
set_option linter.unusedVariables false
set_option linter.unusedSimpArgs false
set_option linter.unusedSectionVars false
namespace Go.Sh
def Bnd.cells (b:Bnd):List D:= [.s b.nm,.i .i64 b.ob,.i .i64 b.fn]
theorem Bnd.c3 (x:Bnd):x.cells.length=3:=rfl
def grl {α:Type}(c:α→List D)(sz:Nat)(l:List α)(t:Nat):V:=if l= []then .d (.sl 0 false []) else .own sz l.length true (l.map c).flatten t
theorem grl_one {α:Type}(c:α→List D)(sz:Nat)(l:List α)(t:Nat):(grl c sz l t).ok1=true∧(grl c sz l t).cs= [grl c sz l t]:=by
  unfold grl
  split <;> exact⟨rfl,rfl⟩
theorem grl_len {α:Type}(c:α→List D)(sz:Nat)(l:List α)(t:Nat):lenV (grl c sz l t)=some l.length:=by
  unfold grl
  split
  · rename_i h
    subst h
    rfl
  · rfl
theorem grl_app {α:Type}{c:α→List D}{sz by':Nat}(hc:∀ x,(c x).length=sz){l:List α}{t:Nat}{st:St}(ht:l≠ []→st.tips[t]? =some l.length)(htf:st.tfloor=0)(x:α)(hb:(l.length+1) * by'≤140737488355328)(hn:l.length+1≤140737488355328):
    ∃ t' tips',appV sz by' st (grl c sz l t) (.d (.sl 1 true (c x)))=some (grl c sz (l++ [x]) t',{st with tips:=tips'})∧st.tips.length≤tips'.length∧(∀ u,u < st.tips.length→(l= []∨u≠t)→tips'[u]? =st.tips[u]?)∧tips'[t']? =some (l++ [x]).length∧((l≠ []∧t'=t)∨t'=st.tips.length):=by
  have hx:(c x).length=1 * sz:=by rw[hc];omega
  by_cases hl:l= []
  · subst hl
    refine⟨st.tips.length,st.tips++ [1],?_,by simp,fun u hu _=> by rw[List.getElem?_append_left hu],by simp,.inr rfl⟩
    unfold grl appV
    simp only[if_true,List.nil_append,List.cons_ne_nil,if_false]
    have h1:vw sz st (.d (.sl 1 true (c x)))=some (1,c x):=rfl
    rw[h1]
    simp only
    rw[if_pos ⟨by simpa using hb,by omega,hx⟩]
    simp
  · have ht:=ht hl
    have hlt:=(List.getElem?_eq_some_iff.1 ht).1
    refine⟨t,st.tips.set t (l.length+1),?_,by simp,fun u hu h=> ?_,by simp[hlt],.inl ⟨hl,rfl⟩⟩
    · unfold grl appV
      have hne:l++ [x]≠ []:=by simp
      rw[if_neg hl,if_neg hne]
      have h1:vw sz st (.d (.sl 1 true (c x)))=some (1,c x):=rfl
      simp only[h1]
      rw[if_pos ⟨trivial,by omega,ht,map_flat_len hc l,hb,hn,hx⟩]
      simp
    · rcases h with h | h
      · exact absurd h hl
      · rw[List.getElem?_set,if_neg (fun e=> h e.symm)]
def usd (G:Gth)(n:Byt8):Bool→Nat
  | false=> (getN' n G).fs.length
  | true=> (getN' n G).ts.length
def knV (k:Kn)(a b:Nat):List V:= [grl Bnd.cells 3 k.fs a,grl TbS.cells 5 k.ts b,.d (.b k.ex)]
structure GI (m:Nat)(G:Gth)(R:Byt8→Nat)(T:Byt8→Bool→Nat)(P:List (Nat×List V))(st:St):Prop where
  fl:st.floor=0
  tf:st.tfloor=0
  mp:st.mapOf m=some ((keysN G).map fun n=> (.s n,.ptr (R n) 0))
  nd:(keysN G).Nodup
  row:∀ n∈keysN G,st.row (R n)=some (knV (getN' n G) (T n false) (T n true))
  inj:∀ n∈keysN G,∀ n'∈keysN G,R n=R n'→n=n'
  tk:∀ n b,usd G n b≠0→st.tips[T n b]? =some (usd G n b)
  ti:∀ n b n' b',usd G n b≠0→usd G n' b'≠0→T n b=T n' b'→n=n'∧b=b'
  pv:∀ x∈P,st.row x.1=some x.2∧∀ n∈keysN G,x.1≠R n
def GS (m:Nat)(G:Gth)(P:List (Nat×List V))(st:St):Prop:=∃ R T,GI m G R T P st
def GP (m:Nat)(G:Gth)(P:List (Nat×List V))(n:Byt8)(p:Nat)(st:St):Prop:=∃ R T,GI m G R T P st∧n∈keysN G∧p=R n
theorem GP.gs {m:Nat}{G:Gth}{P:List (Nat×List V)}{n:Byt8}{p:Nat}{st:St}(h:GP m G P n p st):GS m G P st:=by
  obtain⟨R,T,h,_⟩:=h
  exact⟨R,T,h⟩
theorem get_not {n:Byt8}:∀ {G:Gth},n∉keysN G→getN' n G=kn0
  | [],_=> rfl
  | (k,v)::r,h=> by
    simp only[keysN,List.map_cons,List.mem_cons,not_or]at h
    rw[getN',if_neg (fun e=> h.1 e.symm)]
    exact get_not (G:=r) h.2
theorem keys_upd (n:Byt8)(f:Kn→Kn):∀ (G:Gth),keysN (updN n f G)=if n∈keysN G then keysN G else keysN G++ [n]
  | []=> by simp[updN,keysN]
  | (k,v)::r=> by
    have ih:=keys_upd n f r
    have hc:∀ (x:Byt8) (y:Kn) (l:Gth),keysN ((x,y)::l)=x::keysN l:=fun _ _ _=> rfl
    by_cases h:k=n
    · subst h
      rw[updN,if_pos rfl,hc,hc,if_pos List.mem_cons_self]
    · rw[updN,if_neg h,hc,hc,ih]
      by_cases hh:n∈keysN r
      · rw[if_pos hh,if_pos (List.mem_cons_of_mem _ hh)]
      · rw[if_neg hh,if_neg,List.cons_append]
        rw[List.mem_cons]
        rintro(e | e)
        · exact h e.symm
        · exact hh e
theorem updN_upd (n:Byt8)(f:Kn→Kn):∀ (G:Gth),updN n f (updN n id G)=updN n f G
  | []=> by simp[updN]
  | (k,v)::r=> by
    have ih:=updN_upd n f r
    by_cases h:k=n
    · simp[updN,h]
    · simp[updN,h,ih]
theorem get_upd_id (n m:Byt8)(G:Gth):getN' m (updN n id G)=getN' m G:=by
  rw[get_upd]
  split
  · rename_i h
    rw[h,id]
  · rfl
theorem usd_upd_id (n m:Byt8)(b:Bool)(G:Gth):usd (updN n id G) m b=usd G m b:=by
  cases b <;> simp only[usd,get_upd_id]
section
variable {m:Nat}{G:Gth}{P:List (Nat×List V)}{st st':St}
theorem GI.kp {R:Byt8→Nat}{T:Byt8→Bool→Nat}(h:GI m G R T P st){A B:Nat→Prop}(k:Kp st st' A B)(hm:¬ A m)(hR:∀ n∈keysN G,¬ A (R n))(hT:∀ n b,usd G n b≠0→¬ B (T n b))(hP:∀ x∈P,¬ A x.1):GI m G R T P st':=
  ⟨k.floor.trans h.fl,k.tfloor.trans h.tf,(map_of_heap (k.heap m (map_lt h.mp) hm)).trans h.mp,h.nd,fun n hn=> (row_of_heap (k.heap _ (row_lt (h.row n hn)) (hR n hn))).trans (h.row n hn),h.inj,
    fun n b hu=> (k.tips _ (List.getElem?_eq_some_iff.1 (h.tk n b hu)).1 (hT n b hu)).trans (h.tk n b hu),h.ti,fun x hx=> ⟨(row_of_heap (k.heap _ (row_lt (h.pv x hx).1) (hP x hx))).trans (h.pv x hx).1,(h.pv x hx).2⟩⟩
theorem GS.push (h:GS m G P st)(cs:List V):GS m G ((st.heap.length,cs)::P) (st.push (.row cs)):=by
  obtain⟨R,T,h⟩:=h
  have h':=h.kp (A:=fun _=> False) (B:=fun _=> False) (.push (.row cs)) (fun e=> e) (fun _ _ e=> e) (fun _ _ _ e=> e) (fun _ _ e=> e)
  refine⟨R,T,h'.fl,h'.tf,h'.mp,h'.nd,h'.row,h'.inj,h'.tk,h'.ti,?_⟩
  intro x hx
  rcases List.mem_cons.1 hx with rfl | hx
  · exact⟨row_push_new rfl,fun n hn e=> by have:=row_lt (h.row n hn);simp only at e;omega⟩
  · exact h'.pv x hx
theorem GS.sub {P':List (Nat×List V)}(h:GS m G P st)(hs:∀ x∈P',x∈P):GS m G P' st:=by
  obtain⟨R,T,h⟩:=h
  exact⟨R,T,h.fl,h.tf,h.mp,h.nd,h.row,h.inj,h.tk,h.ti,fun x hx=> h.pv x (hs x hx)⟩
theorem GS.fl (h:GS m G P st):st.floor=0:=by
  obtain⟨R,T,h⟩:=h
  exact h.fl
theorem GS.pr (h:GS m G P st){i:Nat}{cs:List V}(hx:(i,cs)∈P):st.row i=some cs:=by
  obtain⟨R,T,h⟩:=h
  exact(h.pv _ hx).1
theorem GS.prlt (h:GS m G P st){i:Nat}{cs:List V}(hx:(i,cs)∈P):i < st.heap.length:=row_lt (h.pr hx)
theorem find_keys (n:Byt8)(R:Byt8→Nat):∀ (l:List Byt8),findE (.s n) (l.map fun n=> (D.s n,V.ptr (R n) 0))=some (if n∈l then some (.ptr (R n) 0) else none)
  | []=> by simp[findE]
  | k::r=> by
    rw[List.map_cons,findE]
    by_cases h:n=k
    · subst h
      simp[eqD]
    · have h':(n==k)=false:=by simpa using h
      simp[eqD,h',find_keys n R r,h]
theorem set_keys (n:Byt8)(R:Byt8→Nat)(v:V):∀ (l:List Byt8),n∉l→setE (.s n) v (l.map fun n=> (D.s n,V.ptr (R n) 0))=some (l.map (fun n=> (D.s n,V.ptr (R n) 0))++ [(.s n,v)])
  | [],_=> by simp[setE]
  | k::r,h=> by
    rw[List.mem_cons,not_or]at h
    have h':(n==k)=false:=by simpa using h.1
    rw[List.map_cons,setE]
    simp[eqD,h',set_keys n R v r h.2]
def nmFns:List (Nat×SFn):= [(331,F331),(344,F344),(320,F320),(332,F332),(334,F334),(335,F335),(336,F336),(346,F346),(347,F347),(349,F349)]
theorem den_at {pr:Prog}(hp:Sub nmFns pr)(h:GS m G P st){b:Nat}(hb:(b,[.map m])∈P)(n:Byt8):∃ p st',den pr 344 [.d (.s n),.ptr b 0] st=some (.ptr p 0,st')∧GP m (updN n id G) P n p st':=by
  obtain⟨R,T,h⟩:=h
  have hbr:=(h.pv _ hb).1
  simp only at hbr
  have hfl:=h.fl
  by_cases hn:n∈keysN G
  · have hf:=find_keys n R (keysN G)
    rw[if_pos hn]at hf
    refine⟨R n,st,?_,R,T,?_,?_,rfl⟩
    · rw[den_fn (hp.at 1 rfl) rfl rfl,start_raw _ rfl]
      simp[F344,hbr,lookV,keyOk,h.mp,hf,lookOut,zeroV,eqV]
    · have hk:keysN (updN n id G)=keysN G:=by rw[keys_upd,if_pos hn]
      refine⟨h.fl,h.tf,by rw[hk];exact h.mp,by rw[hk];exact h.nd,fun n' hn'=> ?_,by rw[hk];exact h.inj,fun n' b' hu=> ?_,fun n1 b1 n2 b2 h1 h2=> ?_,by rw[hk];exact h.pv⟩
      · rw[hk]at hn'
        rw[get_upd_id]
        exact h.row n' hn'
      · rw[usd_upd_id]at hu ⊢
        exact h.tk n' b' hu
      · rw[usd_upd_id]at h1 h2
        exact h.ti n1 b1 n2 b2 h1 h2
    · rw[keys_upd,if_pos hn]
      exact hn
  · have hf:=find_keys n R (keysN G)
    rw[if_neg hn]at hf
    have hset:=set_keys n R (.ptr st.heap.length 0) (keysN G) hn
    have hlm:=map_lt h.mp
    have hlb:=row_lt hbr
    obtain⟨s1,hs1⟩:∃ s1,s1=st.push (.row (knV kn0 0 0)):=⟨_,rfl⟩
    obtain⟨s2,hs2⟩:∃ s2,s2=s1.putM m ((keysN G).map (fun n=> (D.s n,V.ptr (R n) 0))++ [(.s n,.ptr st.heap.length 0)]):=⟨_,rfl⟩
    have hlen1:s1.heap.length=st.heap.length+1:=by rw[hs1];simp
    have hm1:s1.mapOf m=some ((keysN G).map fun n=> (D.s n,V.ptr (R n) 0)):=by rw[hs1,mapOf_old hlm];exact h.mp
    have hf1:s1.floor=0:=by rw[hs1];exact h.fl
    have hset1:=setBlk_putM (st:=s1) (id:=m) (es:=(keysN G).map (fun n=> (D.s n,V.ptr (R n) 0))++ [(.s n,.ptr st.heap.length 0)]) hf1
    rw[← hs2]at hset1
    have hm2:s2.mapOf m=some ((keysN G).map (fun n=> (D.s n,V.ptr (R n) 0))++ [(.s n,.ptr st.heap.length 0)]):=by rw[hs2];exact mapOf_putM (by omega)
    have hbm:b≠m:=row_map_ne hbr h.mp
    have hb1:s1.row b=some [.map m]:=by rw[hs1,row_old hlb];exact hbr
    have hb2:s2.row b=some [.map m]:=by rw[hs2,row_putM hbm];exact hb1
    obtain⟨R',hR'⟩:∃ R':Byt8→Nat,∀ x,R' x=if x=n then st.heap.length else R x:=⟨_,fun _=> rfl⟩
    have hRn:R' n=st.heap.length:=by rw[hR',if_pos rfl]
    have hRo:∀ x∈keysN G,R' x=R x:=fun x hx=> by rw[hR',if_neg];rintro rfl;exact hn hx
    have hmm:(keysN G).map (fun n=> (D.s n,V.ptr (R n) 0))++ [(.s n,.ptr st.heap.length 0)]=(keysN (updN n id G)).map fun n=> (D.s n,V.ptr (R' n) 0):=by
      rw[keys_upd,if_neg hn,List.map_append,List.map_cons,List.map_nil,hRn]
      congr 1
      exact List.map_congr_left fun x hx=> by rw[hRo x hx]
    have hf2:findE (.s n) ((keysN G).map (fun n=> (D.s n,V.ptr (R n) 0))++ [(.s n,.ptr st.heap.length 0)])=some (some (.ptr st.heap.length 0)):=by
      rw[hmm,find_keys,if_pos,hRn]
      rw[keys_upd,if_neg hn]
      simp
    refine⟨st.heap.length,s2,?_,R',T,?_,?_,hRn.symm⟩
    · rw[den_fn (hp.at 1 rfl) rfl rfl,start_raw _ rfl]
      have hpush:st.push (.row [.d (.sl 0 false []),.d (.sl 0 false []),.d (.b false)])=s1:=by rw[hs1];rfl
      simp[F344,hbr,lookV,keyOk,h.mp,hf,lookOut,zeroV,eqV,ofDs,fillV,hpush,hb1,mapSetV,hm1,hset,hset1,hb2,hm2,hf2]
    · have hk:keysN (updN n id G)=keysN G++ [n]:=by rw[keys_upd,if_neg hn]
      have k1:Kp st s1 (fun _=> False) (fun _=> False):=by rw[hs1];exact .push _
      have k2:Kp s1 s2 (fun i=> i=m) (fun _=> False):=by rw[hs2];exact .putM rfl
      have kk:=(k1.mono (fun _ _ e=> e.elim) fun _ _ e=> e).trans k2
      have hro:∀ i cs,st.row i=some cs→s2.row i=some cs:=fun i cs hi=> (row_of_heap (kk.heap i (row_lt hi) (row_map_ne hi h.mp))).trans hi
      have hrn:s2.row st.heap.length=some (knV kn0 0 0):=by
        rw[hs2,row_putM (by omega),hs1]
        exact row_push_new rfl
      refine⟨kk.floor.trans h.fl,kk.tfloor.trans h.tf,by rw[hm2,hmm],nodup_upd _ _ h.nd,fun n' hn'=> ?_,fun n1 h1 n2 h2 e=> ?_,fun n' b' hu=> ?_,fun n1 b1 n2 b2 h1 h2=> ?_,fun x hx=> ⟨hro _ _ (h.pv x hx).1,fun n' hn'=> ?_⟩⟩
      · rw[get_upd_id]
        rw[hk,List.mem_append,List.mem_singleton]at hn'
        rcases hn' with hn' | rfl
        · rw[hRo n' hn']
          exact hro _ _ (h.row n' hn')
        · rw[hRn,get_not hn,hrn]
          rfl
      · rw[hk,List.mem_append,List.mem_singleton]at h1 h2
        rcases h1 with h1 | rfl
        · rcases h2 with h2 | rfl
          · rw[hRo n1 h1,hRo n2 h2]at e
            exact h.inj n1 h1 n2 h2 e
          · rw[hRo n1 h1,hRn]at e
            have:=row_lt (h.row n1 h1)
            omega
        · rcases h2 with h2 | rfl
          · rw[hRo n2 h2,hRn]at e
            have:=row_lt (h.row n2 h2)
            omega
          · rfl
      · rw[usd_upd_id]at hu ⊢
        exact(kk.tips _ (List.getElem?_eq_some_iff.1 (h.tk n' b' hu)).1 (fun e=> e)).trans (h.tk n' b' hu)
      · rw[usd_upd_id]at h1 h2
        exact h.ti n1 b1 n2 b2 h1 h2
      · rw[hk,List.mem_append,List.mem_singleton]at hn'
        rcases hn' with hn' | rfl
        · rw[hRo n' hn']
          exact(h.pv x hx).2 n' hn'
        · rw[hRn]
          have:=row_lt (h.pv x hx).1
          omega
    · rw[keys_upd,if_neg hn]
      simp
end
end Go.Sh
namespace Go.Sh
def lenK (k:Kn):Bool→Nat
  | false=> k.fs.length
  | true=> k.ts.length
theorem usd_eq (G:Gth)(n:Byt8)(b:Bool):usd G n b=lenK (getN' n G) b:=by cases b <;> rfl
section
variable {m:Nat}{G:Gth}{P:List (Nat×List V)}{st st':St}{R:Byt8→Nat}{T T':Byt8→Bool→Nat}{n:Byt8}
theorem GI.set (h:GI m G R T P st)(hn:n∈keysN G){k':Kn}{B:Nat→Prop}(k:Kp st st' (fun i=> i=R n) B)(hB:∀ t,B t→∃ b,usd G n b≠0∧t=T n b)(hrow:st'.row (R n)=some (knV k' (T' n false) (T' n true)))
    (hT:∀ x b,x≠n→T' x b=T x b) (hu:∀ b,lenK k' b≠0→st'.tips[T' n b]? =some (lenK k' b)∧(usd G n b≠0∧T' n b=T n b∨st.tips.length≤T' n b)) (hd:lenK k' false≠0→lenK k' true≠0→T' n false≠T' n true):
    GI m (updN n (fun _=> k') G) R T' P st':=by
  have hk:keysN (updN n (fun _=> k') G)=keysN G:=by rw[keys_upd,if_pos hn]
  have hg:∀ x,getN' x (updN n (fun _=> k') G)=if n=x then k' else getN' x G:=fun x=> by
    rw[get_upd]
    by_cases e:x=n
    · rw[if_pos e,if_pos e.symm]
    · rw[if_neg e,if_neg fun a=> e a.symm]
  have hus:∀ x b,usd (updN n (fun _=> k') G) x b=if n=x then lenK k' b else usd G x b:=fun x b=> by
    rw[usd_eq,hg,usd_eq]
    split <;> rfl
  have hmn:m≠R n:=fun e=> row_map_ne (h.row n hn) h.mp e.symm
  have htl:∀ x b,usd G x b≠0→T x b < st.tips.length:=fun x b hx=> (List.getElem?_eq_some_iff.1 (h.tk x b hx)).1
  have hold:∀ x b,x≠n→usd G x b≠0→st'.tips[T x b]? =some (usd G x b):=fun x b hx hux=> by
    rw[k.tips _ (htl x b hux),h.tk x b hux]
    intro hb
    obtain⟨b',h1,h2⟩:=hB _ hb
    exact hx (h.ti x b n b' hux h1 h2).1
  refine⟨k.floor.trans h.fl,k.tfloor.trans h.tf,?_,by rw[hk];exact h.nd,fun x hx=> ?_,by rw[hk];exact h.inj,fun x b hx=> ?_,fun x b x' b' hx hx' e=> ?_,fun x hx=> ?_⟩
  · rw[hk,map_of_heap (k.heap m (map_lt h.mp) hmn)]
    exact h.mp
  · rw[hk]at hx
    rw[hg]
    by_cases e:n=x
    · subst e
      rw[if_pos rfl]
      exact hrow
    · have e':x≠n:=fun a=> e a.symm
      rw[if_neg e,hT x false e',hT x true e',row_of_heap (k.heap _ (row_lt (h.row x hx)) fun a=> e' (h.inj x hx n hn a))]
      exact h.row x hx
  · rw[hus]at hx ⊢
    by_cases e:n=x
    · subst e
      rw[if_pos rfl]at hx ⊢
      exact(hu b hx).1
    · have e':x≠n:=fun a=> e a.symm
      rw[if_neg e]at hx ⊢
      rw[hT x b e']
      exact hold x b e' hx
  · rw[hus]at hx hx'
    by_cases e1:n=x
    · subst e1
      rw[if_pos rfl]at hx
      by_cases e2:n=x'
      · subst e2
        rw[if_pos rfl]at hx'
        refine⟨rfl,?_⟩
        cases b <;> cases b'
        · rfl
        · exact absurd e (hd hx hx')
        · exact absurd e.symm (hd hx' hx)
        · rfl
      · have e2':x'≠n:=fun a=> e2 a.symm
        rw[if_neg e2]at hx'
        rw[hT x' b' e2']at e
        rcases(hu b hx).2 with⟨h1,h2⟩ | h2
        · rw[h2]at e
          exact h.ti n b x' b' h1 hx' e
        · have:=htl x' b' hx'
          omega
    · have e1':x≠n:=fun a=> e1 a.symm
      rw[if_neg e1]at hx
      rw[hT x b e1']at e
      by_cases e2:n=x'
      · subst e2
        rw[if_pos rfl]at hx'
        rcases(hu b' hx').2 with⟨h1,h2⟩ | h2
        · rw[h2]at e
          exact h.ti x b n b' hx h1 e
        · have:=htl x b hx
          omega
      · have e2':x'≠n:=fun a=> e2 a.symm
        rw[if_neg e2]at hx'
        rw[hT x' b' e2']at e
        exact h.ti x b x' b' hx hx' e
  · have:=h.pv x hx
    refine⟨?_,by rw[hk];exact this.2⟩
    rw[row_of_heap (k.heap _ (row_lt this.1) (this.2 n hn))]
    exact this.1
theorem upd_const (n:Byt8)(f:Kn→Kn):∀ G:Gth,updN n f G=updN n (fun _=> f (getN' n G)) G
  | []=> rfl
  | (k,v)::r=> by
    have ih:=upd_const n f r
    by_cases h:k=n
    · simp[updN,getN',h]
    · simp[updN,getN',h,ih]
def addFs (b:Bnd)(y:Kn):Kn:={y with fs:=y.fs++ [b]}
def addTs (b:TbS)(y:Kn):Kn:={y with ts:=y.ts++ [b]}
def setEx (y:Kn):Kn:={y with ex:=true}
theorem GP.fs {p:Nat}(h:GP m G P n p st)(b:Bnd)(hb:(getN' n G).fs.length < 1099511627776):∃ a c e a' st1 st2,st.row p=some [a,c,e]∧appV 3 32 st a (.d (.sl 1 true b.cells))=some (a',st1)∧st1.row p=some [a,c,e]∧st1.setBlk p (.row [a',c,e])=some st2∧a'.ok1=true∧a'.cs= [a']∧GS m (updN n (addFs b) G) P st2:=by
  obtain⟨R,T,h,hn,rfl⟩:=h
  obtain⟨t',tips',h1,h2,h3,h4,h5⟩:=grl_app (by':=32) Bnd.c3 (l:=(getN' n G).fs) (t:=T n false) (st:=st) (fun hl=> h.tk n false (by simp[usd];exact hl)) h.tf b (by omega) (by omega)
  have hr:=h.row n hn
  obtain⟨st1,hst1⟩:∃ st1:St,st1={st with tips:=tips'}:=⟨_,rfl⟩
  rw[← hst1]at h1
  have hr1:st1.row (R n)=some (knV (getN' n G) (T n false) (T n true)):=by rw[hst1];exact hr
  have hf1:st1.floor=0:=by rw[hst1];exact h.fl
  have hone:=grl_one Bnd.cells 3 ((getN' n G).fs++ [b]) t'
  refine⟨_,_,_,_,st1,_,hr,h1,hr1,setBlk_put hf1,hone.1,hone.2,R,fun x d=> if x=n∧d=false then t' else T x d,?_⟩
  rw[upd_const]
  have k1:Kp st st1 (fun i=> i=R n) (fun u=> (getN' n G).fs≠ []∧u=T n false):=by
    refine⟨by rw[hst1],by rw[hst1],by rw[hst1];exact Nat.le_refl _,by rw[hst1];exact h2,fun i _ _=> by rw[hst1],fun u hu hnu=> ?_⟩
    rw[hst1]
    refine h3 u hu ?_
    by_cases e:(getN' n G).fs= []
    · exact .inl e
    · exact .inr fun e'=> hnu ⟨e,e'⟩
  have k2:=k1.trans (Kp.put (id:=R n) (cs:= [grl Bnd.cells 3 ((getN' n G).fs++ [b]) t',grl TbS.cells 5 (getN' n G).ts (T n true),.d (.b (getN' n G).ex)]) rfl)
  have hlt:=row_lt hr1
  refine h.set hn k2 ?_ ?_ (fun x d hx=> if_neg fun e=> hx e.1) (fun d hd=> ?_) (fun _ hd=> ?_)
  · rintro t ⟨e1,rfl⟩
    exact⟨false,by simp[usd];exact e1,rfl⟩
  · rw[row_put_eq hlt]
    simp[knV,addFs]
  · cases d
    · rw[if_pos ⟨rfl,rfl⟩]
      refine⟨?_,?_⟩
      · simp only[lenK,addFs]
        rw[← h4]
        show(St.put _ _ _).tips[t']? =_
        simp[St.put,hst1]
      · rcases h5 with⟨h5,rfl⟩ | h5
        · exact .inl ⟨by simp[usd];exact h5,rfl⟩
        · exact .inr (by omega)
    · rw[if_neg (fun e=> by cases e.2)]
      have hu:usd G n true≠0:=by simpa[lenK,addFs,usd]using hd
      refine⟨?_,.inl ⟨hu,rfl⟩⟩
      have ht:=h.tk n true hu
      rw[k2.tips _ (List.getElem?_eq_some_iff.1 ht).1,ht]
      · rfl
      · rintro⟨e1,e2⟩
        have:=(h.ti n true n false hu (by simp[usd];exact e1) e2).2
        cases this
  · rw[if_pos ⟨rfl,rfl⟩,if_neg (fun e=> by cases e.2)]
    have hu:usd G n true≠0:=by simpa[lenK,addFs,usd]using hd
    have ht:=h.tk n true hu
    have hlt':=(List.getElem?_eq_some_iff.1 ht).1
    rcases h5 with⟨h5,rfl⟩ | h5
    · intro e
      have:=(h.ti n false n true (by simp[usd];exact h5) hu e).2
      cases this
    · omega
theorem GP.ts {p:Nat}(h:GP m G P n p st)(b:TbS)(hb:(getN' n G).ts.length < 1099511627776):∃ a c e c' st1 st2,st.row p=some [a,c,e]∧appV 5 48 st c (.d (.sl 1 true b.cells))=some (c',st1)∧st1.row p=some [a,c,e]∧st1.setBlk p (.row [a,c',e])=some st2∧c'.ok1=true∧c'.cs= [c']∧GS m (updN n (addTs b) G) P st2:=by
  obtain⟨R,T,h,hn,rfl⟩:=h
  obtain⟨t',tips',h1,h2,h3,h4,h5⟩:=grl_app (by':=48) TbS.c5 (l:=(getN' n G).ts) (t:=T n true) (st:=st) (fun hl=> h.tk n true (by simp[usd];exact hl)) h.tf b (by omega) (by omega)
  have hr:=h.row n hn
  obtain⟨st1,hst1⟩:∃ st1:St,st1={st with tips:=tips'}:=⟨_,rfl⟩
  rw[← hst1]at h1
  have hr1:st1.row (R n)=some (knV (getN' n G) (T n false) (T n true)):=by rw[hst1];exact hr
  have hf1:st1.floor=0:=by rw[hst1];exact h.fl
  have hone:=grl_one TbS.cells 5 ((getN' n G).ts++ [b]) t'
  refine⟨_,_,_,_,st1,_,hr,h1,hr1,setBlk_put hf1,hone.1,hone.2,R,fun x d=> if x=n∧d=true then t' else T x d,?_⟩
  rw[upd_const]
  have k1:Kp st st1 (fun i=> i=R n) (fun u=> (getN' n G).ts≠ []∧u=T n true):=by
    refine⟨by rw[hst1],by rw[hst1],by rw[hst1];exact Nat.le_refl _,by rw[hst1];exact h2,fun i _ _=> by rw[hst1],fun u hu hnu=> ?_⟩
    rw[hst1]
    refine h3 u hu ?_
    by_cases e:(getN' n G).ts= []
    · exact .inl e
    · exact .inr fun e'=> hnu ⟨e,e'⟩
  have k2:=k1.trans (Kp.put (id:=R n) (cs:= [grl Bnd.cells 3 (getN' n G).fs (T n false),grl TbS.cells 5 ((getN' n G).ts++ [b]) t',.d (.b (getN' n G).ex)]) rfl)
  have hlt:=row_lt hr1
  refine h.set hn k2 ?_ ?_ (fun x d hx=> if_neg fun e=> hx e.1) (fun d hd=> ?_) (fun hd _=> ?_)
  · rintro t ⟨e1,rfl⟩
    exact⟨true,by simp[usd];exact e1,rfl⟩
  · rw[row_put_eq hlt]
    simp[knV,addTs]
  · cases d
    · rw[if_neg (fun e=> by cases e.2)]
      have hu:usd G n false≠0:=by simpa[lenK,addTs,usd]using hd
      refine⟨?_,.inl ⟨hu,rfl⟩⟩
      have ht:=h.tk n false hu
      rw[k2.tips _ (List.getElem?_eq_some_iff.1 ht).1,ht]
      · rfl
      · rintro⟨e1,e2⟩
        have:=(h.ti n false n true hu (by simp[usd];exact e1) e2).2
        cases this
    · rw[if_pos ⟨rfl,rfl⟩]
      refine⟨?_,?_⟩
      · simp only[lenK,addTs]
        rw[← h4]
        show(St.put _ _ _).tips[t']? =_
        simp[St.put,hst1]
      · rcases h5 with⟨h5,rfl⟩ | h5
        · exact .inl ⟨by simp[usd];exact h5,rfl⟩
        · exact .inr (by omega)
  · rw[if_neg (fun e=> by cases e.2),if_pos ⟨rfl,rfl⟩]
    have hu:usd G n false≠0:=by simpa[lenK,addTs,usd]using hd
    have ht:=h.tk n false hu
    have hlt':=(List.getElem?_eq_some_iff.1 ht).1
    rcases h5 with⟨h5,rfl⟩ | h5
    · intro e
      have:=(h.ti n false n true hu (by simp[usd];exact h5) e).2
      cases this
    · omega
theorem GP.ex {p:Nat}(h:GP m G P n p st):∃ a c e st2,st.row p=some [a,c,e]∧st.setBlk p (.row [a,c,.d (.b true)])=some st2∧GS m (updN n setEx G) P st2:=by
  obtain⟨R,T,h,hn,rfl⟩:=h
  have hr:=h.row n hn
  have hlt:=row_lt hr
  refine⟨_,_,_,_,hr,setBlk_put h.fl,R,T,?_⟩
  rw[upd_const]
  have k2:Kp st (st.put (R n) [grl Bnd.cells 3 (getN' n G).fs (T n false),grl TbS.cells 5 (getN' n G).ts (T n true),.d (.b true)]) (fun i=> i=R n) (fun _=> False):= .put rfl
  refine h.set hn k2 (fun _ e=> e.elim) ?_ (fun _ _ _=> rfl) (fun d hd=> ?_) (fun h1 h2 e=> ?_)
  · rw[row_put_eq hlt]
    simp[knV,setEx]
  · have hu:usd G n d≠0:=by
      rw[usd_eq]
      cases d <;> exact hd
    have ht:=h.tk n d hu
    refine⟨?_,.inl ⟨hu,rfl⟩⟩
    rw[k2.tips _ (List.getElem?_eq_some_iff.1 ht).1 (fun e=> e),ht,usd_eq]
    cases d <;> rfl
  · have:=(h.ti n false n true h1 h2 e).2
    cases this
end
end Go.Sh
namespace Go.Sh
def GB (c:Nat)(G:Gth):Prop:=∀ n,(getN' n G).fs.length≤c∧(getN' n G).ts.length≤c
theorem GB.up {c:Nat}{G:Gth}(h:GB c G)(n:Byt8)(f:Kn→Kn)(hf:∀ y:Kn,(f y).fs.length≤y.fs.length+1∧(f y).ts.length≤y.ts.length+1):GB (c+1) (updN n f G):=fun x=> by
  rw[get_upd]
  have h1:=h x
  have h2:=h n
  have h3:=hf (getN' n G)
  split <;> omega
theorem GB.mono {c d:Nat}{G:Gth}(h:GB c G)(hd:c≤d):GB d G:=fun x=> by
  have:=h x
  omega
theorem GB.addF {c k:Nat}{G:Gth}(h:GB c G)(x:FnS×Nat):GB (c+1) (addF k G x):=by
  unfold Go.Sh.addF
  split
  · exact h.up _ _ fun y=> by simp
  · exact h.mono (by omega)
theorem GB.addT {c:Nat}{G:Gth}(h:GB c G)(x:TbS):GB (c+1) (addT G x):=h.up _ _ fun y=> by simp
theorem GB.addE {c:Nat}{G:Gth}(h:GB c G)(x:Byt8):GB (c+1) (addE G x):=h.up _ _ fun y=> by simp
section
variable {pr:Prog}(hp:Sub nmFns pr){m:Nat}{G0:Gth}{P:List (Nat×List V)}{b r6 c0:Nat}{o:ObS}{u l i:V}{st:St}{E:Env}
include hp
theorem loopF {k:Nat}(hb:(b,[.map m])∈P)(h:GS m G0 ((r6,o.vs)::P) st)(hG:GB c0 G0)(hc:c0+o.fn.length < 1099511627776)
    (hE:mask [3,4,5,6,17,18,19,25,26,27] E= [(3,.ptr b 0),(4,.fn 344 [(b,0)]),(5,.d (.i .i64 k)),(6,.ptr r6 0),(17,u),(18,l),(19,i),(25,dsl FnS.cells o.n2 o.fn),(26,.d (.i .i64 o.fn.length)),(27,.d (.i .i64 0))]):
    ∃ e s,cden pr (.loop [3,4,5,6,17,18,19,25,26,27] false F331_b1) E st=some (.exit 2,e,s)∧e.get 3=some (.ptr b 0)∧e.get 4=some (.fn 344 [(b,0)])∧e.get 6=some (.ptr r6 0)∧e.get 17=some u∧e.get 18=some l∧e.get 19=some i∧
      GS m (o.fn.zipIdx.foldl (addF k) G0) ((r6,o.vs)::P) s∧GB (c0+o.fn.length) (o.fn.zipIdx.foldl (addF k) G0):=by
  have hu:=dsl_d FnS.c4 o.n2 o.fn
  obtain⟨uf,huf⟩:∃ u,u=dsl FnS.cells o.n2 o.fn:=⟨_,rfl⟩
  rw[← huf]at hu hE
  have hmf:(b,[V.map m])∈(r6,o.vs)::P:=List.mem_cons_of_mem _ hb
  obtain⟨PP,hPP⟩:∃ PP,PP=(r6,o.vs)::P:=⟨_,rfl⟩
  rw[← hPP]at h hmf ⊢
  clear hPP
  obtain⟨r,hr,e,s,rfl,hQ⟩:∃ r,cden pr (.loop [3,4,5,6,17,18,19,25,26,27] false F331_b1) E st=some r∧∃ e s,r=(.exit 2,e,s)∧e.get 3=some (.ptr b 0)∧e.get 4=some (.fn 344 [(b,0)])∧e.get 6=some (.ptr r6 0)∧e.get 17=some u∧e.get 18=some l∧e.get 19=some i∧
      GS m (o.fn.zipIdx.foldl (addF k) G0) PP s∧GB (c0+o.fn.length) (o.fn.zipIdx.foldl (addF k) G0):=by
    obtain⟨J,hJ⟩:∃ J:Nat→Env→St→Prop,∀ n e s,J n e s↔∃ j,n=o.fn.length - j∧j≤o.fn.length∧e= [(3,.ptr b 0),(4,.fn 344 [(b,0)]),(5,.d (.i .i64 k)),(6,.ptr r6 0),(17,u),(18,l),(19,i),(25,uf),(26,.d (.i .i64 o.fn.length)),(27,.d (.i .i64 (j:Nat)))]∧GS m ((o.fn.zipIdx.take j).foldl (addF k) G0) PP s∧GB (c0+j) ((o.fn.zipIdx.take j).foldl (addF k) G0):=⟨_,fun _ _ _=> Iff.rfl⟩
    refine loop_j J ?_ (n:=o.fn.length) ((hJ _ _ _).2 ⟨0,by omega,by omega,by rw[hE];simp,by simpa using h,by simpa using hG⟩)
    intro n e s hh
    obtain⟨j,rfl,hj,rfl,hs,hg⟩:=(hJ _ _ _).1 hh
    rcases Nat.lt_or_ge j o.fn.length with hlt | hge
    · obtain⟨x,hx⟩:∃ x,o.fn[j]? =some x:=⟨_,List.getElem?_eq_getElem hlt⟩
      have hn1:IntKind.wrap .i64 ((j:Int)+1)=j+1:=wrap_i64 (by omega) (by omega)
      have hia:=hu.iaddr (i:=(j:Int)) (k:= .i64) (by omega) (by simp;omega)
      simp only[Int.toNat_natCast]at hia
      have hld:∀ st,loadV 4 true st (elP 4 uf j 0)=some (.agg (ofDs x.cells)):=fun st=> by
        rw[hu.load (el:=x.cells) (by simp[hx]) (by omega) (by omega)]
        rfl
      have hzx:o.fn.zipIdx[j]? =some (x,j):=by simp[hx]
      have hfold:(o.fn.zipIdx.take (j+1)).foldl (addF k) G0=addF k ((o.fn.zipIdx.take j).foldl (addF k) G0) (x,j):=by
        rw[List.take_add_one,hzx,List.foldl_append]
        rfl
      have hg1:=hg.addF (k:=k) (x,j)
      rw[← hfold]at hg1
      generalize (o.fn.zipIdx.take j).foldl (addF k) G0=G at hs hg hfold
      have hfl:=hs.fl
      obtain⟨nm,gl,fi,co⟩:=x
      have hJ1:∀ s',GS m ((o.fn.zipIdx.take (j+1)).foldl (addF k) G0) PP s'→∃ q,q < o.fn.length - j∧J q [(3,.ptr b 0),(4,.fn 344 [(b,0)]),(5,.d (.i .i64 k)),(6,.ptr r6 0),(17,u),(18,l),(19,i),(25,uf),(26,.d (.i .i64 o.fn.length)),(27,.d (.i .i64 ((j:Int)+1)))] s':=fun s' hs'=>
        ⟨o.fn.length - (j+1),by omega,(hJ _ _ _).2 ⟨j+1,rfl,hlt,by simp,hs',hg1⟩⟩
      cases gl
      · have hp1:=hs.push [.d (.s nm),.d (.b false),.d (.i .i64 fi),.d (.i .i64 co)]
        have hfin:addF k G (⟨nm,false,fi,co⟩,j)=G:=by simp[addF]
        rw[hfold,hfin]at hJ1
        simp[F331_b1,hlt,hn1,hia,hld,FnS.cells,ofDs,lay,hfl]
        exact hJ1 _ (hp1.sub fun x hx=> List.mem_cons_of_mem _ hx)
      · have hp1:=hs.push [.d (.s nm),.d (.b true),.d (.i .i64 fi),.d (.i .i64 co)]
        have hfin:addF k G (⟨nm,true,fi,co⟩,j)=updN nm (addFs ⟨nm,k,j⟩) G:=by simp[addF];rfl
        rw[hfold,hfin]at hJ1
        obtain⟨p,s1,hat,gp⟩:=den_at hp hp1 (List.mem_cons_of_mem _ hmf) nm
        obtain⟨a,c,e,a',s2,s3,f1,f2,f3,f4,f5,f6,f7⟩:=gp.fs ⟨nm,k,j⟩ (by rw[get_upd_id];have:=(hg nm).1;omega)
        rw[updN_upd]at f7
        have f8:=gp.gs.pr List.mem_cons_self
        simp only[Bnd.cells]at f2
        simp[F331_b1,hlt,hn1,hia,hld,FnS.cells,ofDs,lay,hfl,hat,f1,f2,f3,f4,f5,f6,f8,fillV,toDs,toD,reps]
        exact hJ1 _ (f7.sub fun x hx=> List.mem_cons_of_mem _ hx)
    · obtain rfl:j=o.fn.length:=by omega
      have hz:o.fn.zipIdx.take o.fn.length=o.fn.zipIdx:=List.take_of_length_le (by simp)
      rw[hz]at hs hg
      simp[F331_b1]
      exact⟨_,_,⟨rfl,rfl⟩,rfl,rfl,rfl,rfl,rfl,rfl,hs,hg⟩
  exact⟨e,s,hr,hQ⟩
theorem loopT (hb:(b,[.map m])∈P)(h:GS m G0 ((r6,o.vs)::P) st)(hG:GB c0 G0)(hc:c0+o.tb.length < 1099511627776)
    (hE:mask [3,4,6,17,18,19,54,55,56] E= [(3,.ptr b 0),(4,.fn 344 [(b,0)]),(6,.ptr r6 0),(17,u),(18,l),(19,i),(54,dsl TbS.cells o.n3 o.tb),(55,.d (.i .i64 o.tb.length)),(56,.d (.i .i64 0))]):
    ∃ e s,cden pr (.loop [3,4,6,17,18,19,54,55,56] false F331_b2) E st=some (.exit 4,e,s)∧e.get 3=some (.ptr b 0)∧e.get 4=some (.fn 344 [(b,0)])∧e.get 6=some (.ptr r6 0)∧e.get 17=some u∧e.get 18=some l∧e.get 19=some i∧
      GS m (o.tb.foldl addT G0) ((r6,o.vs)::P) s∧GB (c0+o.tb.length) (o.tb.foldl addT G0):=by
  have hu:=dsl_d TbS.c5 o.n3 o.tb
  obtain⟨uf,huf⟩:∃ u,u=dsl TbS.cells o.n3 o.tb:=⟨_,rfl⟩
  rw[← huf]at hu hE
  have hmf:(b,[V.map m])∈(r6,o.vs)::P:=List.mem_cons_of_mem _ hb
  obtain⟨PP,hPP⟩:∃ PP,PP=(r6,o.vs)::P:=⟨_,rfl⟩
  rw[← hPP]at h hmf ⊢
  clear hPP
  obtain⟨r,hr,e,s,rfl,hQ⟩:∃ r,cden pr (.loop [3,4,6,17,18,19,54,55,56] false F331_b2) E st=some r∧∃ e s,r=(.exit 4,e,s)∧e.get 3=some (.ptr b 0)∧e.get 4=some (.fn 344 [(b,0)])∧e.get 6=some (.ptr r6 0)∧e.get 17=some u∧e.get 18=some l∧e.get 19=some i∧
      GS m (o.tb.foldl addT G0) PP s∧GB (c0+o.tb.length) (o.tb.foldl addT G0):=by
    obtain⟨J,hJ⟩:∃ J:Nat→Env→St→Prop,∀ n e s,J n e s↔∃ j,n=o.tb.length - j∧j≤o.tb.length∧e= [(3,.ptr b 0),(4,.fn 344 [(b,0)]),(6,.ptr r6 0),(17,u),(18,l),(19,i),(54,uf),(55,.d (.i .i64 o.tb.length)),(56,.d (.i .i64 (j:Nat)))]∧GS m ((o.tb.take j).foldl addT G0) PP s∧GB (c0+j) ((o.tb.take j).foldl addT G0):=⟨_,fun _ _ _=> Iff.rfl⟩
    refine loop_j J ?_ (n:=o.tb.length) ((hJ _ _ _).2 ⟨0,by omega,by omega,by rw[hE];simp,by simpa using h,by simpa using hG⟩)
    intro n e s hh
    obtain⟨j,rfl,hj,rfl,hs,hg⟩:=(hJ _ _ _).1 hh
    rcases Nat.lt_or_ge j o.tb.length with hlt | hge
    · obtain⟨x,hx⟩:∃ x,o.tb[j]? =some x:=⟨_,List.getElem?_eq_getElem hlt⟩
      have hn1:IntKind.wrap .i64 ((j:Int)+1)=j+1:=wrap_i64 (by omega) (by omega)
      have hia:=hu.iaddr (i:=(j:Int)) (k:= .i64) (by omega) (by simp;omega)
      simp only[Int.toNat_natCast]at hia
      have hld:∀ st,loadV 5 true st (elP 5 uf j 0)=some (.agg (ofDs x.cells)):=fun st=> by
        rw[hu.load (el:=x.cells) (by simp[hx]) (by omega) (by omega)]
        rfl
      have hfold:(o.tb.take (j+1)).foldl addT G0=addT ((o.tb.take j).foldl addT G0) x:=by
        rw[List.take_add_one,hx,List.foldl_append]
        rfl
      have hg1:=hg.addT x
      rw[← hfold]at hg1
      generalize (o.tb.take j).foldl addT G0=G at hs hg hfold
      have hfl:=hs.fl
      have hfin:addT G x=updN x.nm (addTs x) G:=rfl
      have hJ1:∀ s',GS m ((o.tb.take (j+1)).foldl addT G0) PP s'→∃ q,q < o.tb.length - j∧J q [(3,.ptr b 0),(4,.fn 344 [(b,0)]),(6,.ptr r6 0),(17,u),(18,l),(19,i),(54,uf),(55,.d (.i .i64 o.tb.length)),(56,.d (.i .i64 ((j:Int)+1)))] s':=fun s' hs'=>
        ⟨o.tb.length - (j+1),by omega,(hJ _ _ _).2 ⟨j+1,rfl,hlt,by simp,hs',hg1⟩⟩
      rw[hfold,hfin]at hJ1
      have hp1:=hs.push (ofDs x.cells)
      obtain⟨p,s1,hat,gp⟩:=den_at hp hp1 (List.mem_cons_of_mem _ hmf) x.nm
      obtain⟨a,c,e,c',s2,s3,f1,f2,f3,f4,f5,f6,f7⟩:=gp.ts x (by rw[get_upd_id];have:=(hg x.nm).2;omega)
      rw[updN_upd]at f7
      have f8:=gp.gs.pr List.mem_cons_self
      simp only[TbS.cells,ofDs,List.map_cons,List.map_nil]at f2 f8 hat hld
      simp[F331_b2,hlt,hn1,hia,hld,ofDs,lay,hfl,hat,f1,f2,f3,f4,f5,f6,f8,fillV,toDs,toD,reps]
      exact hJ1 _ (f7.sub fun x hx=> List.mem_cons_of_mem _ hx)
    · obtain rfl:j=o.tb.length:=by omega
      rw[List.take_of_length_le (Nat.le_refl _)]at hs hg
      simp[F331_b2]
      exact⟨_,_,⟨rfl,rfl⟩,rfl,rfl,rfl,rfl,rfl,rfl,hs,hg⟩
  exact⟨e,s,hr,hQ⟩
theorem loopE (hb:(b,[.map m])∈P)(h:GS m G0 ((r6,o.vs)::P) st)(hG:GB c0 G0)(hc:o.ex.length < 1099511627776)
    (hE:mask [3,4,17,18,19,76,77,78] E= [(3,.ptr b 0),(4,.fn 344 [(b,0)]),(17,u),(18,l),(19,i),(76,dsl txC o.n4 o.ex),(77,.d (.i .i64 o.ex.length)),(78,.d (.i .i64 0))]):
    ∃ e s,cden pr (.loop [3,4,17,18,19,76,77,78] false F331_b3) E st=some (.exit 6,e,s)∧e.get 3=some (.ptr b 0)∧e.get 4=some (.fn 344 [(b,0)])∧e.get 17=some u∧e.get 18=some l∧e.get 19=some i∧
      GS m (o.ex.foldl addE G0) ((r6,o.vs)::P) s∧GB (c0+o.ex.length) (o.ex.foldl addE G0):=by
  have hu:=dsl_d txC1 o.n4 o.ex
  obtain⟨uf,huf⟩:∃ u,u=dsl txC o.n4 o.ex:=⟨_,rfl⟩
  rw[← huf]at hu hE
  have hmf:(b,[V.map m])∈(r6,o.vs)::P:=List.mem_cons_of_mem _ hb
  obtain⟨PP,hPP⟩:∃ PP,PP=(r6,o.vs)::P:=⟨_,rfl⟩
  rw[← hPP]at h hmf ⊢
  clear hPP
  obtain⟨r,hr,e,s,rfl,hQ⟩:∃ r,cden pr (.loop [3,4,17,18,19,76,77,78] false F331_b3) E st=some r∧∃ e s,r=(.exit 6,e,s)∧e.get 3=some (.ptr b 0)∧e.get 4=some (.fn 344 [(b,0)])∧e.get 17=some u∧e.get 18=some l∧e.get 19=some i∧
      GS m (o.ex.foldl addE G0) PP s∧GB (c0+o.ex.length) (o.ex.foldl addE G0):=by
    obtain⟨J,hJ⟩:∃ J:Nat→Env→St→Prop,∀ n e s,J n e s↔∃ j,n=o.ex.length - j∧j≤o.ex.length∧e= [(3,.ptr b 0),(4,.fn 344 [(b,0)]),(17,u),(18,l),(19,i),(76,uf),(77,.d (.i .i64 o.ex.length)),(78,.d (.i .i64 (j:Nat)))]∧GS m ((o.ex.take j).foldl addE G0) PP s∧GB (c0+j) ((o.ex.take j).foldl addE G0):=⟨_,fun _ _ _=> Iff.rfl⟩
    refine loop_j J ?_ (n:=o.ex.length) ((hJ _ _ _).2 ⟨0,by omega,by omega,by rw[hE];simp,by simpa using h,by simpa using hG⟩)
    intro n e s hh
    obtain⟨j,rfl,hj,rfl,hs,hg⟩:=(hJ _ _ _).1 hh
    rcases Nat.lt_or_ge j o.ex.length with hlt | hge
    · obtain⟨x,hx⟩:∃ x,o.ex[j]? =some x:=⟨_,List.getElem?_eq_getElem hlt⟩
      have hn1:IntKind.wrap .i64 ((j:Int)+1)=j+1:=wrap_i64 (by omega) (by omega)
      have hia:=hu.iaddr (i:=(j:Int)) (k:= .i64) (by omega) (by simp;omega)
      simp only[Int.toNat_natCast]at hia
      have hld:∀ st,loadV 1 false st (elP 1 uf j 0)=some (.d (.s x)):=fun st=> by
        rw[hu.load (el:=txC x) (by simp[hx]) (by omega) (by omega)]
        rfl
      have hfold:(o.ex.take (j+1)).foldl addE G0=addE ((o.ex.take j).foldl addE G0) x:=by
        rw[List.take_add_one,hx,List.foldl_append]
        rfl
      have hg1:=hg.addE x
      rw[← hfold]at hg1
      generalize (o.ex.take j).foldl addE G0=G at hs hg hfold
      have hfl:=hs.fl
      have hfin:addE G x=updN x setEx G:=rfl
      have hJ1:∀ s',GS m ((o.ex.take (j+1)).foldl addE G0) PP s'→∃ q,q < o.ex.length - j∧J q [(3,.ptr b 0),(4,.fn 344 [(b,0)]),(17,u),(18,l),(19,i),(76,uf),(77,.d (.i .i64 o.ex.length)),(78,.d (.i .i64 ((j:Int)+1)))] s':=fun s' hs'=>
        ⟨o.ex.length - (j+1),by omega,(hJ _ _ _).2 ⟨j+1,rfl,hlt,by simp,hs',hg1⟩⟩
      rw[hfold,hfin]at hJ1
      obtain⟨p,s1,hat,gp⟩:=den_at hp hs hmf x
      obtain⟨a,c,e,s2,f1,f4,f7⟩:=gp.ex
      rw[updN_upd]at f7
      simp[F331_b3,hlt,hn1,hia,hld,lay,hfl,hat,f1,f4]
      exact hJ1 _ f7
    · obtain rfl:j=o.ex.length:=by omega
      rw[List.take_of_length_le (Nat.le_refl _)]at hs hg
      simp[F331_b3]
      exact⟨_,_,⟨rfl,rfl⟩,rfl,rfl,rfl,rfl,rfl,hs,hg⟩
  exact⟨e,s,hr,hQ⟩
end
end Go.Sh
namespace Go.Sh
structure ObS.few (o:ObS):Prop where
  fn:o.fn.length≤1024
  tb:o.tb.length≤1024
  ex:o.ex.length≤1024
section
variable {pr:Prog}(hp:Sub nmFns pr){P:List (Nat×List V)}{st:St}
include hp
theorem den_gathered {u:V}{os:List ObS}(hu:SlD 5 u (os.map ObS.cells))(hn:os.length≤64)(hf:∀ o∈os,o.few)(h0:st.floor=0)(h1:st.tfloor=0)(hP:∀ x∈P,st.row x.1=some x.2):
    ∃ m b s,den pr 331 [u] st=some (.map m,s)∧GS m (gathA os) ((b,[.map m])::P) s:=by
  obtain⟨m,hm⟩:∃ m,m=st.heap.length:=⟨_,rfl⟩
  obtain⟨b,hb⟩:∃ b,b=st.heap.length+1:=⟨_,rfl⟩
  obtain⟨s0,hs0⟩:∃ s0,s0=(st.push (.map [])).push (.row [.map m]):=⟨_,rfl⟩
  have hg0:GS m [] ((b,[.map m])::P) s0:=by
    have hl1:(st.push (.map [])).heap.length=b:=by rw[hb];simp
    refine⟨fun _=> 0,fun _ _=> 0,by rw[hs0];exact h0,by rw[hs0];exact h1,?_,by simp[keysN],fun n hn=> by simp[keysN]at hn,fun n hn=> by simp[keysN]at hn,fun n b hu=> ?_,fun n b n' b' hu=> ?_,fun x hx=> ⟨?_,fun n hn=> by simp[keysN]at hn⟩⟩
    · rw[hs0,mapOf_old (by rw[hl1];omega),hm]
      exact mapOf_push_new
    · cases b <;> simp[usd,getN',kn0]at hu
    · cases b <;> simp[usd,getN',kn0]at hu
    · rcases List.mem_cons.1 hx with rfl | hx
      · rw[hs0]
        exact row_push_new (by rw[hl1])
      · have:=row_lt (hP x hx)
        rw[hs0,row_old (by rw[hl1];omega),row_old this]
        exact hP x hx
  have hlen:=hu.len
  rw[List.length_map]at hlen
  refine⟨m,b,?_⟩
  rw[den_fn (hp.at 0 rfl) rfl rfl,start_raw _ rfl]
  have hfl1:(st.push (.map [])).floor≤(st.push (.map [])).heap.length:=by rw[push_floor,h0];omega
  have hset:∀ cs,((st.push (.map [])).push (.row cs)).setBlk (st.heap.length+1) (.row [.map st.heap.length])=some s0:=fun cs=> by
    rw[setBlk_push (by simp) hfl1,hs0,hm]
  have hrow:∀ cs,((st.push (.map [])).push (.row cs)).row (st.heap.length+1)=some cs:=fun cs=> row_push_new (by simp)
  simp[F331,ofDs,hset,hrow,lay,hlen,capsV]
  generalize hL:cden pr (.loop _ _ F331_b0) _ _=q
  obtain⟨r,rfl,e,s,rfl,he3,hgs⟩:∃ r,q=some r∧∃ e s,r=(.exit 0,e,s)∧e.get 3=some (.ptr b 0)∧GS m (gathA os) ((b,[.map m])::P) s:=by
    rw[← hL]
    clear hL
    obtain⟨J,hJ⟩:∃ J:Nat→Env→St→Prop,∀ n e s,J n e s↔∃ i,n=os.length - i∧i≤os.length∧e= [(3,.ptr b 0),(4,.fn 344 [(b,0)]),(17,u),(18,.d (.i .i64 os.length)),(19,.d (.i .i64 (i:Nat)))]∧GS m ((os.zipIdx.take i).foldl gathO []) ((b,[.map m])::P) s∧GB (i * 4096) ((os.zipIdx.take i).foldl gathO []):=⟨_,fun _ _ _=> Iff.rfl⟩
    refine loop_j J ?_ (n:=os.length) ((hJ _ _ _).2 ⟨0,by omega,by omega,by simp[hb],by simpa using hg0,fun n=> by simp[getN',kn0]⟩)
    intro n e s hh
    obtain⟨i,rfl,hi,rfl,hs,hg⟩:=(hJ _ _ _).1 hh
    rcases Nat.lt_or_ge i os.length with hlt | hge
    · obtain⟨o,ho⟩:∃ o,os[i]? =some o:=⟨_,List.getElem?_eq_getElem hlt⟩
      have hof:=hf o (List.mem_of_getElem? ho)
      have hn1:IntKind.wrap .i64 ((i:Int)+1)=i+1:=wrap_i64 (by omega) (by omega)
      have hia:=hu.iaddr (i:=(i:Int)) (k:= .i64) (by omega) (by simp;omega)
      simp only[Int.toNat_natCast]at hia
      have hld:∀ st,loadV 5 true st (elP 5 u i 0)=some (.agg [dsl Ins.cells o.n1 o.tx,dsl FnS.cells o.n2 o.fn,dsl TbS.cells o.n3 o.tb,dsl txC o.n4 o.ex,dsl RlS.cells o.n5 o.rl]):=fun st=> by
        rw[hu.load (el:=o.cells) (by simp[ho]) (by omega) (by omega)]
        rfl
      have hzx:os.zipIdx[i]? =some (o,i):=by simp[ho]
      have hfold:(os.zipIdx.take (i+1)).foldl gathO []=gathO ((os.zipIdx.take i).foldl gathO []) (o,i):=by
        rw[List.take_add_one,hzx,List.foldl_append]
        rfl
      have hJ1:∀ s',GS m ((os.zipIdx.take (i+1)).foldl gathO []) ((b,[.map m])::P) s'→GB ((i+1) * 4096) ((os.zipIdx.take (i+1)).foldl gathO [])→∃ q,q < os.length - i∧J q [(3,.ptr b 0),(4,.fn 344 [(b,0)]),(17,u),(18,.d (.i .i64 os.length)),(19,.d (.i .i64 ((i:Int)+1)))] s':=fun s' hs' hg'=>
        ⟨os.length - (i+1),by omega,(hJ _ _ _).2 ⟨i+1,rfl,hlt,by simp,hs',hg'⟩⟩
      rw[hfold]at hJ1
      generalize (os.zipIdx.take i).foldl gathO []=G at hs hg hJ1
      clear hfold
      have hfl:=hs.fl
      have hp1:=hs.push o.vs
      obtain⟨sp,hsp⟩:∃ sp,sp=s.push (.row o.vs):=⟨_,rfl⟩
      rw[← hsp]at hp1
      have hrp:=hp1.pr List.mem_cons_self
      have hset6:∀ cs,(s.push (.row cs)).setBlk s.heap.length (.row [dsl Ins.cells o.n1 o.tx,dsl FnS.cells o.n2 o.fn,dsl TbS.cells o.n3 o.tb,dsl txC o.n4 o.ex,dsl RlS.cells o.n5 o.rl])=some sp:=fun cs=> by
        rw[setBlk_push rfl (by rw[hfl];omega),hsp]
        rfl
      have hrow6:∀ cs,(s.push (.row cs)).row s.heap.length=some cs:=fun cs=> row_push_new rfl
      simp only[ObS.vs]at hrp
      simp[F331_b0,hlt,hn1,hia,hld,hset6,hrow6,ofDs,lay,hrp]
      generalize s.heap.length=r6 at hp1 hrp
      clear hset6 hrow6 hsp
      have hmem:(b,[V.map m])∈(b,[V.map m])::P:=List.mem_cons_self
      have hof1:=hof.fn
      have hof2:=hof.tb
      have hof3:=hof.ex
      generalize hL:cden pr (.loop _ _ F331_b1) _ _=q
      obtain⟨e,s1,e1,a3,a4,a6,a17,a18,a19,hs1,hg1⟩:=loopF hp (o:=o) (k:=i) (u:=u) (l:= .d (.i .i64 os.length)) (i:= .d (.i .i64 i)) (st:=sp) (c0:=i * 4096) (E:= [(3,.ptr b 0),(4,.fn 344 [(b,0)]),(5,.d (.i .i64 i)),(6,.ptr r6 0),(17,u),(18,.d (.i .i64 os.length)),(19,.d (.i .i64 i)),(25,dsl FnS.cells o.n2 o.fn),(26,.d (.i .i64 o.fn.length)),(27,.d (.i .i64 0))]) hmem hp1 hg (by omega) rfl
      rw[e1]at hL
      subst hL
      have hr1:=hs1.pr List.mem_cons_self
      simp only[ObS.vs]at hr1
      simp[a3,a4,a6,a17,a18,a19,hr1]
      generalize hL:cden pr (.loop _ _ F331_b2) _ _=q
      obtain⟨e',s2,e2,b3,b4,b6,b17,b18,b19,hs2,hg2⟩:=loopT hp (o:=o) (u:=u) (l:= .d (.i .i64 os.length)) (i:= .d (.i .i64 i)) (st:=s1) (c0:=i * 4096+o.fn.length) (E:= [(3,.ptr b 0),(4,.fn 344 [(b,0)]),(6,.ptr r6 0),(17,u),(18,.d (.i .i64 os.length)),(19,.d (.i .i64 i)),(54,dsl TbS.cells o.n3 o.tb),(55,.d (.i .i64 o.tb.length)),(56,.d (.i .i64 0))]) hmem hs1 hg1 (by omega) rfl
      rw[e2]at hL
      subst hL
      have hr2:=hs2.pr List.mem_cons_self
      simp only[ObS.vs]at hr2
      simp[b3,b4,b6,b17,b18,b19,hr2]
      generalize hL:cden pr (.loop _ _ F331_b3) _ _=q
      obtain⟨e',s3,e3,c3,c4,c17,c18,c19,hs3,hg3⟩:=loopE hp (o:=o) (u:=u) (l:= .d (.i .i64 os.length)) (i:= .d (.i .i64 i)) (st:=s2) (c0:=i * 4096+o.fn.length+o.tb.length) (E:= [(3,.ptr b 0),(4,.fn 344 [(b,0)]),(17,u),(18,.d (.i .i64 os.length)),(19,.d (.i .i64 i)),(76,dsl txC o.n4 o.ex),(77,.d (.i .i64 o.ex.length)),(78,.d (.i .i64 0))]) hmem hs2 hg2 (by omega) rfl
      rw[e3]at hL
      subst hL
      simp[c3,c4,c17,c18,c19,hn1]
      exact hJ1 _ (hs3.sub fun x hx=> List.mem_cons_of_mem _ hx) (hg3.mono (by omega))
    · obtain rfl:i=os.length:=by omega
      rw[List.take_of_length_le (by simp)]at hs
      simp[F331_b0]
      exact⟨_,_,⟨rfl,rfl⟩,rfl,hs⟩
  have hrb:=hgs.pr List.mem_cons_self
  simp[he3,hrb]
  exact hgs
end
end Go.Sh
namespace Go.Sh
def twiceB (k:Kn):Bool:=decide (1 < k.fs.length) || (decide (k.fs.length=1) && decide (0 < k.ts.length))
def undefB (k:Kn):Bool:=k.ex && decide (k.fs.length=0)
def diffB:List TbS→Bool
  | []=> false
  | t::r=> (t::r).any fun x=> decide (x≠t)
theorem eqV_tab (x y:TbS):eqV [9,2,0,0,0,0] (.agg (ofDs x.cells)) (.agg (ofDs y.cells))=some (decide (x=y)):=by
  obtain⟨a,b,c,d,e⟩:=x
  obtain⟨a',b',c',d',e'⟩:=y
  have h:∀ l:List D,toDs (ofDs l)=some l:=fun l=> by
    induction l with
    | nil=> rfl
    | cons a r ih=>
      simp only[ofDs,List.map_cons,toDs,toD]at ih ⊢
      rw[ih]
  simp only[eqV,h,TbS.cells,List.length_cons,List.length_nil,and_self,if_true,eqDs,eqK]
  by_cases h1:a=a'
  · by_cases h2:b=b'
    · by_cases h3:c=c'
      · by_cases h4:d=d'
        · by_cases h5:e=e' <;> simp[h1,h2,h3,h4,h5]
        · simp[h1,h2,h3,h4]
      · simp[h1,h2,h3]
    · simp[h1,h2]
  · have h1':(a==a')=false:=by simpa using h1
    simp[h1,h1']
theorem grl_at {α:Type}{c:α→List D}{sz:Nat}(hc:∀ x,(c x).length=sz)(hz:0 < sz){l:List α}{t i:Nat}{x:α}(hx:l[i]? =some x):
    ∃ w,iaddrV sz (grl c sz l t) (.d (.i .i64 (i:Int)))=some w∧∀ s,loadV sz true s w=some (.agg (ofDs (c x))):=by
  have hd:=dsl_d hc true l
  have hlt:=(List.getElem?_eq_some_iff.1 hx).1
  have hia:=hd.iaddr (i:=(i:Int)) (k:= .i64) (by omega) (by simp;exact hlt)
  simp only[Int.toNat_natCast]at hia
  have hne:l≠ []:=by rintro rfl;simp at hx
  refine⟨elP sz (dsl c true l) i 0,?_,fun s=> ?_⟩
  · rw[← hia]
    unfold grl
    rw[if_neg hne]
    rfl
  · rw[hd.load (el:=c x) (by simp[hx]) hz (by omega)]
    rw[List.drop_zero,List.take_of_length_le (by rw[hc];exact Nat.le_refl _)]
    rfl
section
variable {pr:Prog}(hp:Sub nmFns pr){st:St}{k:Kn}{p a b:Nat}
include hp
theorem den_twice (hr:st.row p=some (knV k a b)):den pr 334 [.ptr p 0] st=some (.d (.b (twiceB k)),st):=by
  rw[den_fn (hp.at 4 rfl) rfl rfl]
  have hrs:(start F334 st).row p=some (knV k a b):=hr
  have hl1:=grl_len Bnd.cells 3 k.fs a
  have hl2:=grl_len TbS.cells 5 k.ts b
  simp only[knV]at hrs
  generalize grl Bnd.cells 3 k.fs a=v1 at hrs hl1
  generalize grl TbS.cells 5 k.ts b=v2 at hrs hl2
  unfold twiceB
  generalize start F334 st=s1 at hrs ⊢
  by_cases h1:1 < k.fs.length
  · have h1':(1:Int) < k.fs.length:=by omega
    simp[F334,hrs,hl1,hl2,h1,h1']
  · have h1':¬ (1:Int) < k.fs.length:=by omega
    by_cases h2:k.fs.length=1
    · by_cases h3:0 < k.ts.length
      · have h3':(0:Int) < k.ts.length:=by omega
        simp[F334,hrs,hl1,hl2,h2,h3,h3']
      · have h3':¬ (0:Int) < k.ts.length:=by omega
        simp[F334,hrs,hl1,hl2,h2,h3,h3']
    · have h2':¬ (k.fs.length:Int)=1:=by omega
      simp[F334,hrs,hl1,hl2,h1,h1',h2,h2']
theorem den_undef (hr:st.row p=some (knV k a b)):den pr 335 [.ptr p 0] st=some (.d (.b (undefB k)),st):=by
  rw[den_fn (hp.at 5 rfl) rfl rfl]
  have hrs:(start F335 st).row p=some (knV k a b):=hr
  have hl1:=grl_len Bnd.cells 3 k.fs a
  simp only[knV]at hrs
  generalize grl Bnd.cells 3 k.fs a=v1 at hrs hl1
  unfold undefB
  generalize start F335 st=s1 at hrs ⊢
  cases he:k.ex
  · rw[he]at hrs
    simp[F335,hrs,hl1]
  · rw[he]at hrs
    by_cases h1:k.fs.length=0
    · have h1':(k.fs.length:Int)=0:=by omega
      simp[F335,hrs,hl1,h1,h1']
    · have h1':¬ (k.fs.length:Int)=0:=by omega
      simp[F335,hrs,hl1,h1,h1']
theorem den_sh1 {h:Nat}(hh:st.row h=some [.ptr p 0])(hr:st.row p=some (knV k a b)){t:TbS}{r:List TbS}(hk:k.ts=t::r)(x:TbS):den pr 346 [.agg (ofDs x.cells),.ptr h 0] st=some (.d (.b (decide (x≠t))),st):=by
  rw[den_fn (hp.at 7 rfl) rfl rfl]
  have hrs:(start F346 st).row p=some (knV k a b):=hr
  have hhs:(start F346 st).row h=some [.ptr p 0]:=hh
  simp only[knV]at hrs
  have hia:iaddrV 5 (grl TbS.cells 5 k.ts b) (.d (.i .i64 0))=some (.ep ((k.ts.map TbS.cells).flatten)):=by
    unfold grl
    rw[if_neg (by rw[hk];simp)]
    simp[iaddrV,intV,hk]
  have hld:∀ s,loadV 5 true s (.ep ((k.ts.map TbS.cells).flatten))=some (.agg (ofDs t.cells)):=fun s=> by
    rw[hk]
    simp[loadV,TbS.cells,mkV]
  have heq:=eqV_tab x t
  generalize grl Bnd.cells 3 k.fs a=v1 at hrs
  generalize grl TbS.cells 5 k.ts b=v2 at hrs hia
  generalize (k.ts.map TbS.cells).flatten=fl at hia hld
  obtain⟨q0,q1,q2,q3,q4,hq⟩:∃ q0 q1 q2 q3 q4,ofDs x.cells= [q0,q1,q2,q3,q4]:=⟨_,_,_,_,_,rfl⟩
  obtain⟨w,hw⟩:∃ w,w=ofDs t.cells:=⟨_,rfl⟩
  rw[hq]at heq ⊢
  rw[← hw]at heq hld
  have hst:(start F346 st).heap.length=st.heap.length:=rfl
  have hlp:=row_lt hr
  have hlh:=row_lt hh
  rw[← hst]at hlp hlh
  have hfinish:∀ s e v,e.get 3=some (V.d (.b v))→finish F346 st (some (.ret,e,s))=some (.d (.b v),st):=fun s e v he=> by
    simp[finish,F346,resV,resOne,he,esc,esc1,escC]
  generalize start F346 st=s1 at hrs hhs hlp hlh ⊢
  have hr2:∀ c,(s1.push c).row p=(s1.row p):=fun c=> row_old hlp
  have hh2:∀ c,(s1.push c).row h=(s1.row h):=fun c=> row_old hlh
  simp[F346,hr2,hh2,hrs,hhs,hia,hld,heq]
theorem den_idx {h:Nat}(hh:st.row h=some [.ptr p 0])(hr:st.row p=some (knV k a b))(hl:k.ts.length < 1099511627776):∃ z:Int,den pr 349 [grl TbS.cells 5 k.ts b,.fn 346 [(h,0)]] st=some (.d (.i .i64 z),st)∧(0≤z↔diffB k.ts=true):=by
  rw[den_fn (hp.at 9 rfl) rfl rfl]
  have hrs:(start F349 st).row p=some (knV k a b):=hr
  have hhs:(start F349 st).row h=some [.ptr p 0]:=hh
  generalize start F349 st=s1 at hrs hhs ⊢
  have hlen:=grl_len TbS.cells 5 k.ts b
  have hat:=fun i x (hx:k.ts[i]? =some x)=> grl_at TbS.c5 (by omega) (t:=b) hx
  have hsh:=fun t r (hk:k.ts=t::r) x=> den_sh1 hp hhs hrs hk x
  generalize grl TbS.cells 5 k.ts b=v at hlen hat ⊢
  clear hrs hhs
  simp[F349,hlen]
  generalize hL:cden pr (.loop _ _ _) _ _=o
  obtain⟨r,rfl,hQ⟩:∃ r,o=some r∧((diffB k.ts=false∧∃ e,r=(.exit 0,e,s1))∨(diffB k.ts=true∧∃ e,∃ i:Nat,r=(.ret,e,s1)∧e.get 4=some (.d (.i .i64 (i:Int))))):=by
    rw[← hL]
    clear hL
    obtain⟨J,hJ⟩:∃ J:Nat→Env→St→Prop,∀ n e s,J n e s↔∃ i,n=k.ts.length - i∧i≤k.ts.length∧e= [(0,v),(1,.fn 346 [(h,0)]),(7,.d (.i .i64 k.ts.length)),(8,.d (.i .i64 (i:Nat)))]∧s=s1∧∀ t r,k.ts=t::r→∀ x∈k.ts.take i,x=t:=⟨_,fun _ _ _=> Iff.rfl⟩
    refine loop_j J ?_ (n:=k.ts.length) ((hJ _ _ _).2 ⟨0,by omega,by omega,by simp,rfl,fun t r _ x hx=> by simp at hx⟩)
    intro n e s hj
    obtain⟨i,rfl,hi,rfl,rfl,hq⟩:=(hJ _ _ _).1 hj
    rcases Nat.lt_or_ge i k.ts.length with hlt | hge
    · obtain⟨x,hx⟩:∃ x,k.ts[i]? =some x:=⟨_,List.getElem?_eq_getElem hlt⟩
      have hn1:IntKind.wrap .i64 ((i:Int)+1)=i+1:=wrap_i64 (by omega) (by omega)
      obtain⟨w,hia,hld⟩:=hat i x hx
      obtain⟨t,r,hk⟩:∃ t r,k.ts=t::r:=by
        cases hc:k.ts with
        | nil=> rw[hc]at hlt;simp at hlt
        | cons t r=> exact⟨t,r,rfl⟩
      have hs:=hsh t r hk x
      have hm:=List.mem_of_getElem? hx
      generalize ofDs x.cells=xc at hld hs
      by_cases hxt:x=t
      · have hs':den pr 346 [.agg xc,.ptr h 0] s=some (.d (.b false),s):=by rw[hs];simp[hxt]
        simp[F349_b0,hlt,hn1,hia,hld,hs']
        refine⟨_,Nat.lt_of_lt_of_le ?_ (Nat.le_refl _),(hJ _ _ _).2 ⟨i+1,rfl,hlt,by simp,rfl,fun t' r' hk' y hy=> ?_⟩⟩
        · omega
        · rw[hk,List.cons.injEq]at hk'
          obtain⟨rfl,rfl⟩:=hk'
          rw[List.take_add_one,hx,List.mem_append]at hy
          rcases hy with hy | hy
          · exact hq t r hk y hy
          · simp at hy
            rw[hy,hxt]
      · have hs':den pr 346 [.agg xc,.ptr h 0] s=some (.d (.b true),s):=by rw[hs];simp[hxt]
        have hd:diffB k.ts=true:=by
          rw[hk]at hm ⊢
          unfold diffB
          rw[List.any_eq_true]
          exact⟨x,hm,by simpa using hxt⟩
        simp[F349_b0,hlt,hn1,hia,hld,hs',hd]
        first | exact⟨_,rfl⟩ | exact⟨_,_,rfl⟩
    · obtain rfl:i=k.ts.length:=by omega
      have hd:diffB k.ts=false:=by
        rw[List.take_of_length_le (Nat.le_refl _)]at hq
        cases hc:k.ts with
        | nil=> rfl
        | cons t r=>
          rw[Bool.eq_false_iff]
          intro e
          rw[diffB,List.any_eq_true]at e
          obtain⟨x,hx,hd⟩:=e
          have:=hq t r hc x (by rw[hc];exact hx)
          simp[this]at hd
      simp[F349_b0,hd]
  rcases hQ with⟨hd,e,rfl⟩ | ⟨hd,e,i,rfl,h4⟩
  · refine⟨-1,?_,by simp[hd]⟩
    simp
  · refine⟨i,?_,by simp[hd]⟩
    simp[h4]
theorem den_cont {h:Nat}(hh:st.row h=some [.ptr p 0])(hr:st.row p=some (knV k a b))(hl:k.ts.length < 1099511627776):den pr 347 [grl TbS.cells 5 k.ts b,.fn 346 [(h,0)]] st=some (.d (.b (diffB k.ts)),st):=by
  rw[den_fn (hp.at 8 rfl) rfl rfl]
  have hrs:(start F347 st).row p=some (knV k a b):=hr
  have hhs:(start F347 st).row h=some [.ptr p 0]:=hh
  generalize start F347 st=s1 at hrs hhs ⊢
  obtain⟨z,hz,hd⟩:=den_idx hp hhs hrs hl
  generalize grl TbS.cells 5 k.ts b=v at hz ⊢
  cases hb:diffB k.ts
  · rw[hb]at hd
    have:¬ 0≤z:=fun e=> by simpa using hd.1 e
    simp[F347,hz,this]
  · rw[hb]at hd
    have:0≤z:=hd.2 rfl
    simp[F347,hz,this]
theorem den_shapes (hr:st.row p=some (knV k a b))(hl:k.ts.length < 1099511627776):den pr 336 [.ptr p 0] st=some (.d (.b (diffB k.ts)),st):=by
  rw[den_fn (hp.at 6 rfl) rfl rfl]
  have hrs:(start F336 st).row p=some (knV k a b):=hr
  generalize start F336 st=s1 at hrs ⊢
  have hlp:=row_lt hrs
  have hr2:(s1.push (.row [.ptr p 0])).row p=some (knV k a b):=by rw[row_old hlp];exact hrs
  have hh2:(s1.push (.row [.ptr p 0])).row s1.heap.length=some [.ptr p 0]:=row_push_new rfl
  have hc:=den_cont hp hh2 hr2 hl
  simp only[knV]at hr2
  generalize grl TbS.cells 5 k.ts b=v at hr2 hc
  generalize grl Bnd.cells 3 k.fs a=v1 at hr2
  have hcs:(V.ptr p 0).cs= [.ptr p 0]:=rfl
  have hok:(V.ptr p 0).ok1=true:=rfl
  simp[F336,hr2,hh2,hc,capsV,hcs,hok]
end
end Go.Sh
