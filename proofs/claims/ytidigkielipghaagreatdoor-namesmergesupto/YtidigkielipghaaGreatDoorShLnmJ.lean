/- Part of the proof. -/
import Derived.Test.YtidigkielipghaaGreatDoorShLnmI
set_option linter.unusedVariables false
set_option linter.unusedSimpArgs false
set_option linter.unusedSectionVars false
namespace Go.Sh
def ruleB:Nat→Kn→Bool
  | 0,k=> twiceB k
  | 1,k=> undefB k
  | _,k=> diffB k.ts
def viol (S:List Byt8)(G:Gth)(j:Nat):Option Byt8:=S.find? fun n=> ruleB j (getN' n G)
def Z2:List V:= [.d (.sl 0 false []),.d (.sl 0 false [])]
section
variable {pr:Prog}(hp:Sub nmFns pr){m:Nat}{G:Gth}{P:List (Nat×List V)}{s:St}{S:List Byt8}{E:Env}
include hp
theorem den_rule {j:Nat}(hj:j < 3){k:Kn}{p a b:Nat}{st:St}(hr:st.row p=some (knV k a b))(hl:k.ts.length < 1099511627776):den pr (334+j) [.ptr p 0] st=some (.d (.b (ruleB j k)),st):=by
  obtain rfl | rfl | rfl:j=0∨j=1∨j=2:=by omega
  · exact den_twice hp hr
  · exact den_undef hp hr
  · exact den_shapes hp hr hl
theorem loopR {j r12:Nat}(hj:j < 3){a46 a47 a48:V}(hs:GS m G P s)(hZ:(0,Z2)∈P){f:Nat}{code:Int}(hfj:f=334+j)(h12:(r12,[.fn f [],.d (.i .i64 code)])∈P)(h120:r12≠0)(hS:∀ n∈S,n∈keysN G)(hB:GB 1099511627775 G)(hSl:S.length < 1099511627776)
    (hE:mask [2,9,10,12,46,47,48,52,53,54] E= [(2,.ptr 0 0),(9,.map m),(10,dsl txC (decide (0 < S.length)) S),(12,.ptr r12 0),(46,a46),(47,a47),(48,a48),(52,dsl txC (decide (0 < S.length)) S),(53,.d (.i .i64 S.length)),(54,.d (.i .i64 0))]):
    ∃ e,(viol S G j=none∧cden pr (.loop [2,9,10,12,46,47,48,52,53,54] false F320_b2) E s=some (.exit 4,e,s)∧e.get 2=some (.ptr 0 0)∧e.get 9=some (.map m)∧e.get 10=some (dsl txC (decide (0 < S.length)) S)∧e.get 46=some a46∧e.get 47=some a47∧e.get 48=some a48)∨
      (∃ n s',viol S G j=some n∧cden pr (.loop [2,9,10,12,46,47,48,52,53,54] false F320_b2) E s=some (.ret,e,s')∧e.get 2=some (.ptr 0 0)∧e.get 3=some (.d (.s n))∧e.get 4=some (.d (.i .i64 code))∧s'.row 0=some Z2):=by
  have hu:=dsl_d txC1 (decide (0 < S.length)) S
  have hlen:=hu.len
  rw[List.length_map]at hlen
  obtain⟨v,hv⟩:∃ v,v=dsl txC (decide (0 < S.length)) S:=⟨_,rfl⟩
  rw[← hv]at hu hE hlen ⊢
  clear hv
  have r12r:=hs.pr h12
  have r0r:=hs.pr hZ
  have hfl:=hs.fl
  have hsb:=fun cs=> setBlk_put (st:=s) (id:=0) (cs:=cs) hfl
  have hfc:f=334∨f=335∨f=336:=by omega
  have hrl:∀ {k:Kn} {p a b:Nat},s.row p=some (knV k a b)→k.ts.length < 1099511627776→den pr f [.ptr p 0] s=some (.d (.b (ruleB j k)),s):=fun h1 h2=> by
    rw[hfj]
    exact den_rule hp hj h1 h2
  obtain⟨R,T,hg⟩:=hs
  obtain⟨r,hr,hQ⟩:∃ r,cden pr (.loop [2,9,10,12,46,47,48,52,53,54] false F320_b2) E s=some r∧((viol S G j=none∧∃ e,r=(.exit 4,e,s)∧e.get 2=some (.ptr 0 0)∧e.get 9=some (.map m)∧e.get 10=some v∧e.get 46=some a46∧e.get 47=some a47∧e.get 48=some a48)∨
      (∃ n,viol S G j=some n∧∃ e s',r=(.ret,e,s')∧e.get 2=some (.ptr 0 0)∧e.get 3=some (.d (.s n))∧e.get 4=some (.d (.i .i64 code))∧s'.row 0=some Z2)):=by
    obtain⟨J,hJ⟩:∃ J:Nat→Env→St→Prop,∀ n e t,J n e t↔∃ i,n=S.length - i∧i≤S.length∧e= [(2,.ptr 0 0),(9,.map m),(10,v),(12,.ptr r12 0),(46,a46),(47,a47),(48,a48),(52,v),(53,.d (.i .i64 S.length)),(54,.d (.i .i64 (i:Nat)))]∧t=s∧∀ n∈S.take i,ruleB j (getN' n G)=false:=⟨_,fun _ _ _=> Iff.rfl⟩
    refine loop_j J ?_ (n:=S.length) ((hJ _ _ _).2 ⟨0,by omega,by omega,by rw[hE];simp,rfl,fun n hn=> by simp at hn⟩)
    intro n e t hh
    obtain⟨i,rfl,hi,rfl,rfl,hq⟩:=(hJ _ _ _).1 hh
    rcases Nat.lt_or_ge i S.length with hlt | hge
    · obtain⟨x,hx⟩:∃ x,S[i]? =some x:=⟨_,List.getElem?_eq_getElem hlt⟩
      have hxm:=List.mem_of_getElem? hx
      have hn1:IntKind.wrap .i64 ((i:Int)+1)=i+1:=wrap_i64 (by omega) (by omega)
      have hia:=hu.iaddr (i:=(i:Int)) (k:= .i64) (by omega) (by simp;omega)
      simp only[Int.toNat_natCast]at hia
      have hld:∀ st,loadV 1 false st (elP 1 v i 0)=some (.d (.s x)):=fun st=> by
        rw[hu.load (el:=txC x) (by simp[hx]) (by omega) (by omega)]
        rfl
      have hfd:=find_keys x R (keysN G)
      rw[if_pos (hS x hxm)]at hfd
      have hmp:=hg.mp
      have hrx:=hrl (hg.row x (hS x hxm)) (by have:=(hB x).2;omega)
      generalize (keysN G).map (fun n=> (D.s n,V.ptr (R n) 0))=es at hfd hmp
      have hlook:lookV true false (.d .np) t (.map m) (.d (.s x))=some (.ptr (R x) 0):=by
        simp[lookV,keyOk,hmp,hfd,lookOut]
      have hz:zeroV [D.np] false= .d .np:=rfl
      cases hrb:ruleB j (getN' x G)
      · rw[hrb]at hrx
        simp only[F320_b2]
        simp[hlt,hn1,hia,hld,r12r,hlook,hz,hfc,hrx]
        refine⟨S.length - (i+1),by omega,(hJ _ _ _).2 ⟨i+1,rfl,hlt,by simp,rfl,fun n hn=> ?_⟩⟩
        rw[List.take_add_one,hx,List.mem_append]at hn
        rcases hn with hn | hn
        · exact hq n hn
        · simp at hn
          rw[hn,hrb]
      · rw[hrb]at hrx
        have hvi:viol S G j=some x:=by
          unfold viol
          rw[List.find?_eq_some_iff_getElem]
          obtain⟨h1,h2⟩:=List.getElem?_eq_some_iff.1 hx
          refine⟨hrb,i,h1,h2,fun k hk=> ?_⟩
          have:=hq S[k] (by rw[List.mem_take_iff_getElem];exact⟨k,by omega,rfl⟩)
          simp[this]
        have hap:¬ 0=r12:=fun e=> h120 e.symm
        simp only[F320_b2]
        simp[hlt,hn1,hia,hld,r12r,hlook,hz,hfc,hrx,hvi,fillV,lay,ofDs,apartE,apartV,h120,r0r,Z2,hsb]
        exact⟨_,_,⟨rfl,rfl⟩,rfl,rfl,rfl,by rw[row_put_eq (row_lt r0r)]⟩
    · obtain rfl:i=S.length:=by omega
      have hvi:viol S G j=none:=by
        rw[List.take_of_length_le (Nat.le_refl _)]at hq
        unfold viol
        rw[List.find?_eq_none]
        intro n hn
        simp[hq n hn]
      simp only[F320_b2]
      simp[hvi]
  rcases hQ with⟨h1,e,rfl,h2⟩ | ⟨n,h1,e,s',rfl,h2⟩
  · exact⟨e,.inl ⟨h1,hr,h2⟩⟩
  · exact⟨e,.inr ⟨n,s',h1,hr,h2⟩⟩
end
end Go.Sh
