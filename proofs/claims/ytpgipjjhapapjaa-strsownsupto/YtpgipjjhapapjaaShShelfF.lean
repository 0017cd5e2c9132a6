/- Part of the proof. -/
import Derived.Test.YtpgipjjhapapjaaShShelfE
set_option linter.unusedVariables false
set_option linter.unusedSimpArgs false
namespace Go.Sh
abbrev flD {α:Type}(c:α→List D)(L:List α):List D:=(L.map c).flatten
section
variable {α:Type}{c:α→List D}{sz:Nat}
theorem flD_len (hc:∀ x,(c x).length=sz):∀ L:List α,(flD c L).length=L.length * sz
  | []=> by simp[flD]
  | x::L=> by
    have:=flD_len hc L
    simp only[flD,List.map_cons,List.flatten_cons,List.length_append,hc,List.length_cons,Nat.succ_mul]at this ⊢
    omega
theorem flD_app (A B:List α):flD c (A++B)=flD c A++flD c B:=by simp[flD]
theorem flD_take (hc:∀ x,(c x).length=sz)(A B:List α):(flD c (A++B)).take (A.length * sz)=flD c A:=by
  rw[flD_app,← flD_len hc A,List.take_left' rfl]
theorem ofDs_take (l:List D)(k:Nat):(ofDs l).take k=ofDs (l.take k):=by simp[ofDs,List.map_take]
theorem ofDs_app (a b:List D):ofDs (a++b)=ofDs a++ofDs b:=by simp[ofDs]
end
def mkL {α:Type}(mk:Nat→α)(k:Nat):List α:=(List.range k).map mk
theorem mkL_len {α:Type}(mk:Nat→α)(k:Nat):(mkL mk k).length=k:=by simp[mkL]
theorem mkL_succ {α:Type}(mk:Nat→α)(k:Nat):mkL mk (k+1)=mkL mk k++ [mk k]:=by simp[mkL,List.range_succ]
theorem mkL_split {α:Type}(mk:Nat→α){k t:Nat}(h:k < t):∃ r,mkL mk t=mkL mk k++mk k::r:=by
  induction t with
  | zero=> omega
  | succ t ih=>
    rw[mkL_succ]
    rcases Nat.lt_or_ge k t with h1 | h1
    · obtain⟨r,hr⟩:=ih h1
      exact⟨r++ [mk t],by rw[hr];simp⟩
    · have:k=t:=by omega
      subst this
      exact⟨[],rfl⟩
def ElsQ (lab lab':Nat→Option Nat)(fs fs':Fs)(S:Nat→Prop):Prop:=∀ e,¬ S e→fs' e=fs e∧lab' e=lab e
theorem ElsQ.refl (lab:Nat→Option Nat)(fs:Fs)(S:Nat→Prop):ElsQ lab lab fs fs S:=fun _ _=> ⟨rfl,rfl⟩
theorem ElsQ.trans {l1 l2 l3:Nat→Option Nat}{f1 f2 f3:Fs}{S:Nat→Prop}(h:ElsQ l1 l2 f1 f2 S)(k:ElsQ l2 l3 f2 f3 S):ElsQ l1 l3 f1 f3 S:=fun e he=> ⟨(k e he).1.trans (h e he).1,(k e he).2.trans (h e he).2⟩
theorem ElsQ.mono {l1 l2:Nat→Option Nat}{f1 f2:Fs}{S T:Nat→Prop}(h:ElsQ l1 l2 f1 f2 S)(hs:∀ e,S e→T e):ElsQ l1 l2 f1 f2 T:=fun e he=> h e fun k=> he (hs e k)
theorem ElsQ.upd {lab:Nat→Option Nat}{fs:Fs}{a:Nat}{j:Option Nat}{x:Option (Nat×Nat×V×List V)}:ElsQ lab (Go.Sh.upd lab a j) fs (updF fs a x) (fun e=> e=a):=fun e he=> ⟨updF_ne he,upd_ne he⟩
theorem ElsQ.updF {lab:Nat→Option Nat}{fs:Fs}{a:Nat}{x:Option (Nat×Nat×V×List V)}:ElsQ lab lab fs (Go.Sh.updF fs a x) (fun e=> e=a):=fun e he=> ⟨updF_ne he,rfl⟩
def GL {α:Type}(c:α→List D)(lab:Nat→Option Nat)(fs:Fs)(a b sz n:Nat)(A:List α)(mk:Nat→α)(w:V)(t k:Nat)(l:V):Prop:=
  fs a=some (sz,n+t,w,ofDs (flD c (A++mkL mk t)))∧
   ((k≤t∧Sub' sz l (n+k) w (n+t)∧lab b=none∧fs b=none)∨fs b=some (sz,n+k,l,ofDs (flD c (A++mkL mk k))))
section
variable {α:Type}{c:α→List D}{s:St}{p:Nat}{R:List V}{lab:Nat→Option Nat}{fs:Fs}{pv:List (Nat×V×List D)}{al:List (Nat×List V)}{a b sz n t k:Nat}{A:List α}{mk:Nat→α}{w l:V}
theorem GL.step (hc:∀ x,(c x).length=sz)(hsz:0 < sz)(h:Hq s p R lab fs pv al)(ha:a≠0)(hb0:b≠0)(hab:a≠b)(hA:A.length=n)(g:GL c lab fs a b sz n A mk w t k l){z:V}(hz:vwV sz s z=some (1,ofDs (c (mk k)))){zero:List D}{bytes:Nat}(hzl:zero.length=sz)(hb:(n+k+1) * bytes≤140737488355328)(hn:n+k+1≤140737488355328){Q:V→St→Prop}
    (hQ:∀ s' l' w' t' lab' fs',Hq s' p R lab' fs' pv al→GL c lab' fs' a b sz n A mk w' t' (k+1) l'→t≤t'→(∀ u m,Sub' sz u m w (n+t)→Sub' sz u m w' (n+t'))→ElsQ lab lab' fs fs' (fun e=> e=a∨e=b)→lab' a=lab a→Gr s s' (fun r=> lab a=some r∨lab b=some r) (· ∈ofDs (c (mk k)))→(∀ r,lab' b=some r→lab b=some r∨s.heap.length≤r)→Q l' s'):appW sz bytes zero s l z Q:=by
  obtain⟨g1,g2⟩:=g
  have hy:(ofDs (c (mk k))).length=1 * sz:=by rw[ofDs_len,hc,Nat.one_mul]
  have hAk:(A++mkL mk k).length=n+k:=by rw[List.length_append,mkL_len,hA]
  have hcat:ofDs (flD c (A++mkL mk k))++ofDs (c (mk k))=ofDs (flD c (A++mkL mk (k+1))):=by
    rw[mkL_succ,← List.append_assoc,flD_app (A++mkL mk k),ofDs_app]
    simp[flD]
  rcases g2 with⟨hkt,hs,hlb,hfb⟩ | hfb
  · have htk:(ofDs (flD c (A++mkL mk t))).take ((n+k) * sz)=ofDs (flD c (A++mkL mk k)):=by
      rcases Nat.lt_or_ge k t with h1 | h1
      · obtain⟨r,hr⟩:=mkL_split mk h1
        rw[hr,← List.append_assoc,ofDs_take,← hAk,flD_take hc]
      · have:k=t:=by omega
        subst this
        exact List.take_of_length_le (by rw[ofDs_len,flD_len hc,hAk];omega)
    rcases Nat.lt_or_ge k t with h1 | h1
    · -- it stands there
      obtain⟨r,hr⟩:=mkL_split mk h1
      have hag2:((ofDs (flD c (A++mkL mk t))).drop ((n+k) * sz)).take (ofDs (c (mk k))).length=ofDs (c (mk k)):=by
        have e1:flD c (A++mkL mk t)=flD c (A++mkL mk k)++(c (mk k)++flD c r):=by
          rw[hr,← List.append_assoc,flD_app];simp[flD]
        rw[e1,ofDs_app,ofDs_app,← hAk,← flD_len hc,← ofDs_len,List.drop_left' rfl,List.take_left' rfl]
      refine h.growA ha hb0 hsz g1 hs hz hy hzl hb hn (by omega) hag2 hlb ?_ ?_
      · intro s' v' h' gr hs'
        exact hQ s' v' w t lab fs h' ⟨g1,.inl ⟨by omega,hs',hlb,hfb⟩⟩ (Nat.le_refl _) (fun _ _ h=> h) (.refl _ _ _) rfl (gr.mono (fun _ _ e=> .inl e) fun _ h=> h) (fun r e=> .inl e)
      · intro s' v' j' h' gr nw
        rw[htk,hcat]at h'
        refine hQ s' v' w t _ _ h' ⟨?_,.inr updF_eq⟩ (Nat.le_refl _) (fun _ _ h=> h) (ElsQ.upd.mono fun e he=> .inr he) (upd_ne hab) (gr.mono (fun _ _ e=> .inl e) fun _ h=> h) fun r e=> ?_
        · rw[updF_ne hab];exact g1
        · rw[upd_eq]at e
          rcases nw with e1 | ⟨i,e1,e2,_⟩
          · rw[e1]at e;cases e
          · rw[e1]at e
            obtain rfl:=Option.some.inj e
            exact .inr e2
    · have:k=t:=by omega
      subst this
      refine h.growS ha hb0 hsz g1 hs hz hy hzl hb hn hlb ?_ ?_
      · intro s' v' h' gr hs'
        rw[htk,hcat]at h'
        refine hQ s' v' v' (k+1) _ _ h' ⟨updF_eq,.inl ⟨Nat.le_refl _,?_,hlb,?_⟩⟩ (by omega) (fun u m hu=> ?_) (ElsQ.updF.mono fun e he=> .inl he) rfl (gr.mono (fun _ _ e=> .inl e) fun _ h=> h) (fun r e=> .inl e)
        · have:=LR.self (h'.lr a _ updF_eq)
          exact this
        · rw[updF_ne (Ne.symm hab)];exact hfb
        · have hm:m≤n+k:=by
            rcases hu with⟨_,rfl⟩ | ⟨_,_,_,_,h1,_⟩ <;> omega
          exact hs' u m hu (by omega)
      · intro s' v' j' h' gr nw
        rw[htk,hcat]at h'
        refine hQ s' v' w k _ _ h' ⟨?_,.inr updF_eq⟩ (Nat.le_refl _) (fun _ _ h=> h) (ElsQ.upd.mono fun e he=> .inr he) (upd_ne hab) (gr.mono (fun _ _ e=> .inl e) fun _ h=> h) fun r e=> ?_
        · rw[updF_ne hab];exact g1
        · rw[upd_eq]at e
          rcases nw with e1 | ⟨i,e1,e2,_⟩
          · rw[e1]at e;cases e
          · rw[e1]at e
            obtain rfl:=Option.some.inj e
            exact .inr e2
  · refine h.app hb0 hfb hz hy hzl hb hn ?_
    intro s' v' j' h' gr nw
    rw[hcat]at h'
    refine hQ s' v' w t _ _ h' ⟨?_,.inr updF_eq⟩ (Nat.le_refl _) (fun _ _ h=> h) (ElsQ.upd.mono fun e he=> .inr he) (upd_ne hab) (gr.mono (fun _ _ e=> .inr e) fun _ h=> h) fun r e=> ?_
    · rw[updF_ne hab];exact g1
    · rw[upd_eq]at e
      rcases nw with e1 | ⟨i,e1,e2,_⟩
      · rw[e1]at e;exact .inl e
      · rw[e1]at e
        obtain rfl:=Option.some.inj e
        exact .inr e2
end
end Go.Sh
