/- Part of the proof. -/
import Derived.Test.YtpgipjjhapapjaaShShelf1
set_option linter.unusedVariables false
set_option linter.unusedSimpArgs false
namespace Go.Sh
section
variable {st:St}{sz n:Nat}{v:V}{cells:List V}{j:Option Nat}
theorem appW_LR4 {x:V}{m:Nat}{ys:List V}{zero:List D}{bytes:Nat}{Q:V→St→Prop}(hf:st.floor=0)(h:LR st sz v n cells j)(hx:vwV sz st x=some (m,ys))(hy:ys.length=m * sz)(hz:zero.length=sz)(hb:(n+m) * bytes≤140737488355328)(hn:n+m≤140737488355328)
    (hQ1:∀ st' v',LR st' sz v' (n+m) (cells++ys) j→Gr st st' (fun i=> j=some i) (· ∈ys)→(∀ r,j=some r→∃ c,st.row r=some c∧(st'.row r=some c∨st'.row r=some (lay c (n * sz) ys)))→Q v' st')
    (hQ2:∀ st' v' r,LR st' sz v' (n+m) (cells++ys) (some r)→Gr st st' (fun _=> False) (· ∈ys)→st.heap.length≤r→r < st'.heap.length→Q v' st'):appW sz bytes zero st v x Q:=by
  have hl:=h.1
  have hreps:∀ k,(ofDs (reps k zero)).length=k * sz:=fun k=> by rw[ofDs,List.length_map,reps_len,hz]
  have hlen:(cells++ys).length=(n+m) * sz:=by rw[List.length_append,hl,hy,Nat.add_mul]
  obtain⟨_,⟨rfl,rfl,rfl⟩ | ⟨j0,cap,tail,rfl,rfl,hcap,hrow,htl⟩⟩:=h
  · have hc0:cells= []:=List.eq_nil_of_length_eq_zero (by simpa using hl)
    subst hc0
    refine⟨m,ys,hx,hy,by simpa using hb,by simpa using hn,fun hm=> ?_,fun hm k=> ?_⟩
    · subst hm
      have:ys= []:=List.eq_nil_of_length_eq_zero (by simpa using hy)
      subst this
      exact hQ1 st _ ⟨by simp,.inl ⟨rfl,rfl,rfl⟩⟩ (.refl _ _ _) (fun _ h=> by cases h)
    · refine hQ2 _ _ st.heap.length ⟨hlen,.inr ⟨st.heap.length,m+k,ofDs (reps k zero),rfl,by simp,by simp,?_,?_⟩⟩ (.push _) (Nat.le_refl _) (by simp)
      · rw[row_push_new rfl]
        rfl
      · rw[hreps,Nat.zero_add,Nat.add_mul]
        omega
  · have hfit:n * sz≤(cells++tail).length:=by rw[List.length_append];omega
    have hclen:(cells++tail).length=cap * sz:=by rw[List.length_append];omega
    refine⟨rfl,cells++tail,m,ys,hrow,hx,hy,by rw[hclen];simp,hb,hn,fun _ hm=> ?_,fun hroom hm=> ?_,fun hroom k=> ?_⟩
    · subst hm
      have:ys= []:=List.eq_nil_of_length_eq_zero (by simpa using hy)
      subst this
      exact hQ1 st _ ⟨by simpa using hl,.inr ⟨j0,cap,tail,rfl,rfl,hcap,by simpa using hrow,htl⟩⟩ (.refl _ _ _) (fun r hr=> by obtain rfl:=Option.some.inj hr;exact⟨_,hrow,.inl hrow⟩)
    · have hms:(n+m) * sz≤cap * sz:=Nat.mul_le_mul_right _ hroom
      rw[Nat.add_mul]at hms
      refine⟨_,setBlk_put hf,hQ1 _ _ ⟨hlen,.inr ⟨j0,cap,tail.drop (m * sz),rfl,rfl,hroom,?_,?_⟩⟩ (.put hrow (lay_len' (by rw[hclen,hy];omega)) rfl fun k x hk=> lay_get hk (by rw[hclen];omega)) (fun r hr=> ⟨_,(by obtain rfl:=Option.some.inj hr;exact hrow),.inr (by obtain rfl:=Option.some.inj hr;rw[row_put_eq (row_lt hrow),Nat.zero_add])⟩)⟩
      · rw[row_put_eq (row_lt hrow),Nat.zero_add]
        unfold lay
        rw[← hl,List.take_left',List.drop_append,List.drop_of_length_le (by omega),hy,show cells.length+m * sz - cells.length=m * sz by omega]
        · simp
        · rfl
      · rw[List.length_drop,Nat.add_mul]
        omega
    · refine hQ2 _ _ st.heap.length ⟨hlen,.inr ⟨st.heap.length,n+m+k,ofDs (reps k zero),rfl,by simp,by simp,?_,?_⟩⟩ (.push _) (Nat.le_refl _) (by simp)
      · rw[row_push_new rfl,List.drop_zero,← hl,List.take_left' rfl]
      · rw[hreps,Nat.add_mul (n+m)]
        omega
end
section
variable {s s':St}{p:Nat}{R:List V}{lab:Nat→Option Nat}{fs:Fs}{pv:List (Nat×V×List D)}{al:List (Nat×List V)}
theorem lay_agree {c ys tail:List V}{n:Nat}(h:(c.drop n).take ys.length=ys)(hl:n+ys.length≤c.length):lay (c++tail) n ys=c++tail:=by
  unfold lay
  rw[List.take_append_of_le_length (by omega),List.drop_append_of_le_length (by omega)]
  conv=> rhs;rw[← List.take_append_drop n c]
  rw[List.append_assoc,List.append_assoc]
  congr 1
  rw[← List.drop_drop]
  conv=> rhs;rw[← List.take_append_drop ys.length (c.drop n)]
  rw[h,List.append_assoc]
theorem Hq.growA (h:Hq s p R lab fs pv al){a b:Nat}(ha:a≠0)(hb0:b≠0){sz n m0 m:Nat}(hsz:0 < sz){v w x:V}{C ys:List V}(hf:fs a=some (sz,m0,w,C))(hsub:Sub' sz v n w m0)(hx:vwV sz s x=some (m,ys))(hy:ys.length=m * sz){zero:List D}{bytes:Nat}(hz:zero.length=sz)(hb:(n+m) * bytes≤140737488355328)(hn:n+m≤140737488355328)
    (hag:n+m≤m0) (hag2:(C.drop (n * sz)).take ys.length=ys) (hlb:lab b=none) {Q:V→St→Prop}
    (hA:∀ s' v',Hq s' p R lab fs pv al→Gr s s' (fun r=> lab a=some r) (· ∈ys)→Sub' sz v' (n+m) w m0→Q v' s')
    (hB:∀ s' v' j',Hq s' p R (upd lab b j') (updF fs b (some (sz,n+m,v',C.take (n * sz)++ys))) pv al→Gr s s' (fun r=> lab a=some r) (· ∈ys)→NewOr s s' none j'→Q v' s'):appW sz bytes zero s v x Q:=by
  have hla:=h.lr a _ hf
  simp only at hla
  obtain⟨j',hj',hnm,hlv⟩:=hla.subq hsub
  have hle:=Nat.mul_le_mul_right sz hag
  rw[Nat.add_mul]at hle
  refine appW_LR4 h.fl hlv hx hy hz hb hn ?_ ?_
  · intro s1 g1 hl gr hrows
    rcases hj' with⟨rfl,rfl,rfl⟩ | rfl
    · have hm0:m=0∧g1= .d (.sl 0 false []):=by
        obtain⟨_,⟨_,h1,h2⟩ | ⟨_,_,_,h1,_⟩⟩:=hl
        · exact⟨by omega,h1⟩
        · cases h1
      obtain⟨rfl,rfl⟩:=hm0
      have hh:Hq s1 p R lab fs pv al:=h.new (gr.mono (A':=fun _=> False) (fun i _ e=> by cases e) fun _ h=> h) fun _ _ e=> e
      exact hB s1 _ none (hh.set (a:=b) hb0 (j:=none) (fun r hr=> by cases hr) hl (fun _ _ r hr=> by cases hr)) (gr.mono (fun i _ e=> by cases e) fun _ h=> h) (.inl rfl)
    · -- the row is as it was
      have hsame:∀ r,lab a=some r→s1.row r=s.row r:=by
        intro r hr
        obtain⟨c,h1,h2 | h2⟩:=hrows r hr
        · rw[h1,h2]
        · obtain⟨tail,ht⟩:=hla.inRow hr
          rw[h1]at ht
          obtain rfl:=Option.some.inj ht
          rw[h2,h1,lay_agree hag2 (by have:=hla.1;omega)]
      have hh:Hq s1 p R lab fs pv al:=h.grS gr (fun b=> b=a) (fun e=> ha e.symm) (fun r _ hr=> ⟨a,rfl,hr⟩) fun e y hy=> by
        by_cases he:e=a
        · subst he
          rw[hf]at hy
          obtain rfl:=Option.some.inj hy
          exact .inr ⟨ha,hla.row hsame⟩
        · exact .inl ⟨hy,he⟩
      have hs2:Sub' sz v n g1 (n+m):=LR.inplace hsz hlv hl (by omega) gr
      refine hA s1 g1 hh gr ?_
      rcases hsub with⟨rfl,rfl⟩ | ⟨j2,cap2,rfl,rfl,h4,h5⟩
      · obtain⟨_,⟨e1,_,_⟩ | ⟨_,_,_,_,h6,_⟩⟩:=hlv
        · obtain⟨_,⟨_,e3,e4⟩ | ⟨_,_,_,e2,_⟩⟩:=hl
          · exact .inl ⟨e3,e4⟩
          · rw[e1]at e2;cases e2
        · cases h6
      · rcases hs2 with⟨e1,_⟩ | ⟨j3,cap3,e1,rfl,e3,e4⟩
        · cases e1
        · simp only[V.rsl.injEq,true_and]at e1
          obtain⟨rfl,rfl⟩:=e1
          exact .inr ⟨_,_,rfl,rfl,hag,h5⟩
  · intro s1 g1 r hl gr h1 h2
    have hh:Hq s1 p R lab fs pv al:=h.new gr fun _ _ e=> e
    have hno:NewOr s s1 (lab b) (some r):= .inr ⟨r,rfl,h1,h2⟩
    exact hB s1 g1 (some r) (hh.set hb0 (h.lone gr.len hno) hl (h.sepNew hno)) (gr.mono (fun _ _ e=> e.elim) fun _ h=> h) (.inr ⟨r,rfl,h1,h2⟩)
end
end Go.Sh
