/- Part of the proof. -/
import Derived.Test.YtidigkielipghaaGreatDoorShLnm2
set_option linter.unusedVariables false
set_option linter.unusedSimpArgs false
set_option linter.unusedSectionVars false
namespace Go.Sh
/-! ### Bounds -/
theorem GB.foldF {c k:Nat}:∀ (l:List (FnS×Nat)) {G:Gth},GB c G→GB (c+l.length) (l.foldl (Go.Sh.addF k) G)
  | [],_,h=> h
  | x::l,G,h=> by
    have:=GB.foldF (c:=c+1) (k:=k) l (h.addF (k:=k) x)
    rw[List.foldl_cons,List.length_cons]
    exact this.mono (by omega)
theorem GB.foldT {c:Nat}:∀ (l:List TbS) {G:Gth},GB c G→GB (c+l.length) (l.foldl Go.Sh.addT G)
  | [],_,h=> h
  | x::l,G,h=> by
    have:=GB.foldT (c:=c+1) l (h.addT x)
    rw[List.foldl_cons,List.length_cons]
    exact this.mono (by omega)
theorem GB.foldE {c:Nat}:∀ (l:List Byt8) {G:Gth},GB c G→GB (c+l.length) (l.foldl Go.Sh.addE G)
  | [],_,h=> h
  | x::l,G,h=> by
    have:=GB.foldE (c:=c+1) l (h.addE x)
    rw[List.foldl_cons,List.length_cons]
    exact this.mono (by omega)
theorem GB.gathO {c:Nat}{G:Gth}(h:GB c G)(x:ObS×Nat)(hx:x.1.few):GB (c+3072) (gathO G x):=by
  unfold Go.Sh.gathO
  have:=((h.foldF (k:=x.2) x.1.fn.zipIdx).foldT x.1.tb).foldE x.1.ex
  have h1:=hx.fn
  have h2:=hx.tb
  have h3:=hx.ex
  rw[List.length_zipIdx]at this
  exact this.mono (by omega)
theorem GB.fold:∀ (l:List (ObS×Nat)) {c:Nat} {G:Gth},GB c G→(∀ x∈l,x.1.few)→GB (c+l.length * 3072) (l.foldl Go.Sh.gathO G)
  | [],c,_,h,_=> by simpa using h
  | x::l,c,G,h,hf=> by
    have:=GB.fold l (h.gathO x (hf x List.mem_cons_self)) fun y hy=> hf y (List.mem_cons_of_mem _ hy)
    rw[List.foldl_cons,List.length_cons]
    exact this.mono (by omega)
theorem gathA_GB {os:List ObS}(hf:∀ o∈os,o.few):GB (os.length * 3072) (gathA os):=by
  have:=GB.fold os.zipIdx (c:=0) (G:= []) (fun n=> by simp[getN',kn0]) fun x hx=> hf x.1 ((List.mem_zipIdx' hx).2 ▸ List.getElem_mem _)
  rw[List.length_zipIdx,Nat.zero_add]at this
  exact this
theorem KB_upd (n:Byt8)(f:Kn→Kn)(G:Gth):(keysN (updN n f G)).length≤(keysN G).length+1:=by
  rw[keys_upd]
  split <;> simp
theorem KB_F {k:Nat}:∀ (l:List (FnS×Nat)) (G:Gth),(keysN (l.foldl (addF k) G)).length≤(keysN G).length+l.length
  | [],_=> by simp
  | x::l,G=> by
    have h1:=KB_F (k:=k) l (addF k G x)
    have h2:(keysN (addF k G x)).length≤(keysN G).length+1:=by
      unfold addF
      split
      · exact KB_upd _ _ _
      · omega
    rw[List.foldl_cons,List.length_cons]
    omega
theorem KB_T:∀ (l:List TbS) (G:Gth),(keysN (l.foldl addT G)).length≤(keysN G).length+l.length
  | [],_=> by simp
  | x::l,G=> by
    have h1:=KB_T l (addT G x)
    have h2:(keysN (addT G x)).length≤(keysN G).length+1:=KB_upd _ _ _
    rw[List.foldl_cons,List.length_cons]
    omega
theorem KB_E:∀ (l:List Byt8) (G:Gth),(keysN (l.foldl addE G)).length≤(keysN G).length+l.length
  | [],_=> by simp
  | x::l,G=> by
    have h1:=KB_E l (addE G x)
    have h2:(keysN (addE G x)).length≤(keysN G).length+1:=KB_upd _ _ _
    rw[List.foldl_cons,List.length_cons]
    omega
theorem KB_O (G:Gth)(x:ObS×Nat)(hx:x.1.few):(keysN (gathO G x)).length≤(keysN G).length+3072:=by
  unfold gathO
  have h1:=KB_E x.1.ex (x.1.tb.foldl addT (x.1.fn.zipIdx.foldl (addF x.2) G))
  have h2:=KB_T x.1.tb (x.1.fn.zipIdx.foldl (addF x.2) G)
  have h3:=KB_F (k:=x.2) x.1.fn.zipIdx G
  rw[List.length_zipIdx]at h3
  have e1:=hx.fn
  have e2:=hx.tb
  have e3:=hx.ex
  omega
theorem KB_A:∀ (l:List (ObS×Nat)) (G:Gth),(∀ x∈l,x.1.few)→(keysN (l.foldl gathO G)).length≤(keysN G).length+l.length * 3072
  | [],_,_=> by simp
  | x::l,G,hf=> by
    have h1:=KB_A l (gathO G x) fun y hy=> hf y (List.mem_cons_of_mem _ hy)
    have h2:=KB_O G x (hf x List.mem_cons_self)
    rw[List.foldl_cons,List.length_cons]
    omega
theorem gathA_KB {os:List ObS}(hf:∀ o∈os,o.few):(keysN (gathA os)).length≤os.length * 3072:=by
  have:=KB_A os.zipIdx [] fun x hx=> hf x.1 ((List.mem_zipIdx' hx).2 ▸ List.getElem_mem _)
  rw[List.length_zipIdx]at this
  rw[show(keysN []).length=0 from rfl,Nat.zero_add]at this
  exact this
theorem inO_names {n:Byt8}{o:ObS}(h:inO n o):n∈namesO o:=by
  unfold namesO
  simp only[List.mem_append,List.mem_map]
  rcases h with⟨f,h1,_,h2⟩ | ⟨t,h1,h2⟩ | h
  · exact .inl (.inl ⟨f,h1,h2⟩)
  · exact .inl (.inr ⟨t,h1,h2⟩)
  · exact .inr h
/-! ### Lists that are put together -/
def Grw {α:Type}(c:α→List D)(sz:Nat)(l:List α)(t:Option Nat)(v:V)(s:St):Prop:=match t with
  | none=> l= []∧v= .d (.sl 0 false [])
  | some t=> v= .own sz l.length (decide (0 < l.length)) (l.map c).flatten t∧s.tips[t]? =some l.length
theorem Grw.one {α:Type}{c:α→List D}{sz:Nat}{l:List α}{t:Option Nat}{v:V}{s:St}(h:Grw c sz l t v s):v.ok1=true∧v.cs= [v]:=by
  cases t with
  | none=> obtain⟨_,rfl⟩:=h;exact⟨rfl,rfl⟩
  | some t=> obtain⟨rfl,_⟩:=h;exact⟨rfl,rfl⟩
theorem Grw.esc {α:Type}{c:α→List D}{sz:Nat}{l:List α}{t:Option Nat}{v:V}{s:St}(h:Grw c sz l t v s)(s':St):escC s' 0 0 v=some (dsl c (decide (0 < l.length)) l):=by
  cases t with
  | none=> obtain⟨rfl,rfl⟩:=h;rfl
  | some t=> obtain⟨rfl,_⟩:=h;rfl
theorem Grw.tips {α:Type}{c:α→List D}{sz:Nat}{l:List α}{t:Option Nat}{v:V}{s s':St}(h:Grw c sz l t v s)(ht:∀ u,t=some u→u < s.tips.length→s'.tips[u]? =s.tips[u]?):Grw c sz l t v s':=by
  cases t with
  | none=> exact h
  | some t=>
    obtain⟨h1,h2⟩:=h
    exact⟨h1,by rw[ht t rfl (List.getElem?_eq_some_iff.1 h2).1];exact h2⟩
theorem Grw.app {α:Type}{c:α→List D}{sz by':Nat}(hc:∀ x,(c x).length=sz){l l':List α}{t:Option Nat}{v x:V}{s:St}(h:Grw c sz l t v s)(htf:s.tfloor=0)(hx:vw sz s x=some (l'.length,(l'.map c).flatten))(hb:(l.length+l'.length) * by'≤140737488355328)(hn:l.length+l'.length≤140737488355328):
    ∃ t' tips' v',appV sz by' s v x=some (v',{s with tips:=tips'})∧Grw c sz (l++l') (some t') v' {s with tips:=tips'}∧(t=some t'∨t'=s.tips.length)∧(∀ u,u < s.tips.length→t≠some u→tips'[u]? =s.tips[u]?)∧s.tips.length≤tips'.length:=by
  have hl:=map_flat_len hc l'
  cases t with
  | none=>
    obtain⟨rfl,rfl⟩:=h
    refine⟨s.tips.length,s.tips++ [l'.length],_,?_,⟨rfl,by simp⟩,.inr rfl,fun u hu _=> by rw[List.getElem?_append_left hu],by simp⟩
    unfold appV
    simp only[hx]
    rw[if_pos ⟨by simpa using hb,by simpa using hn,hl⟩]
    simp
  | some t=>
    obtain⟨rfl,ht⟩:=h
    have hlt:=(List.getElem?_eq_some_iff.1 ht).1
    refine⟨t,s.tips.set t (l.length+l'.length),_,?_,⟨rfl,by simp[hlt]⟩,.inl rfl,fun u hu hne=> by rw[List.getElem?_set,if_neg (fun e=> hne (by rw[e]))],by simp⟩
    unfold appV
    simp only[hx]
    rw[if_pos ⟨trivial,by omega,ht,map_flat_len hc l,hb,hn,hl⟩]
    have hd:(decide (0 < l.length) || decide (0 < l.length+l'.length))=decide (0 < (l++l').length):=by
      rw[List.length_append]
      by_cases h:0 < l.length
      · have:0 < l.length+l'.length:=by omega
        simp[h,this]
      · simp[h]
    rw[hd]
    simp
theorem grl_vw {α:Type}(c:α→List D)(sz:Nat)(l:List α)(t:Nat)(s:St):vw sz s (grl c sz l t)=some (l.length,(l.map c).flatten):=by
  unfold grl
  split
  · rename_i h
    subst h
    rfl
  · rfl
/-! ### The keys in order -/
theorem strKs_map (R:Byt8→Nat):∀ (l:List Byt8),strKs ((l.map fun n=> (D.s n,V.ptr (R n) 0)).map (·.1))=some l
  | []=> rfl
  | n::r=> by
    rw[List.map_cons,List.map_cons]
    show(strKs _).map _=_
    rw[strKs_map R r]
    rfl
theorem txC_flat (l:List Byt8):(l.map txC).flatten=l.map D.s:=by
  induction l with
  | nil=> rfl
  | cons a r ih=> rw[List.map_cons,List.flatten_cons,ih];rfl
theorem srtS_len (l:List Byt8):(srtS l).length=l.length:=by unfold srtS;exact List.length_mergeSort l
theorem srtS_mem {l:List Byt8}{n:Byt8}:n∈srtS l↔n∈l:=by unfold srtS;exact List.mem_mergeSort
section
variable {pr:Prog}(hp:Sub nmFns pr){st:St}
include hp
theorem den_keys (m:Nat):den pr 332 [.map m] st=some (.fn 345 [(st.heap.length,0)],st.push (.row [.map m])):=by
  rw[den_fn (hp.at 3 rfl) rfl rfl,start_raw _ rfl]
  simp[F332,capsV]
omit hp in
theorem den_sorted (hf:pr.fn 333=none)(hg:pr.prim 333=some (pSortedS 345)){m:Nat}{G:Gth}{P:List (Nat×List V)}(h:GS m G P st){x:Nat}(hx:(x,[.map m])∈P)(hl:(keysN G).length≤8796093022208)(hk:∀ k∈keysN G,k.length≤9223372036854775807):
    den pr 333 [.fn 345 [(x,0)]] st=some (dsl txC (decide (0 < (srtS (keysN G)).length)) (srtS (keysN G)),st):=by
  refine den_prim hf hg ?_
  have hr:=h.pr hx
  obtain⟨R,T,h⟩:=h
  unfold pSortedS
  simp only[if_true,hr,h.mp,strKs_map]
  rw[if_pos ⟨hl,hk⟩]
  unfold dsl
  rw[txC_flat,srtS_len]
end
end Go.Sh
