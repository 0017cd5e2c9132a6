/- Part of the proof. -/
import Derived.Test.YtidigkielipghaaGreatDoorShShelf1
import Derived.Test.YtidigkielipghaaGreatDoorShBe
import Derived.Test.YtidigkielipghaaGreatDoorShLnrO
import Derived.Test.YtidigkielipghaaGreatDoorShLnrP
set_option linter.unusedVariables false
set_option linter.unusedSimpArgs false
set_option linter.unusedSectionVars false
namespace Go.Sh
def nsFns:List (Nat×SFn):= [(369,F369),(370,F370),(327,F327),(321,F321),(368,F368)]
def wNs:Nat→Bool:=fun f=> f==369 || f==370 || f==327 || f==321 || f==368
theorem vwV_litN (sz:Nat)(st:St)(X:List V)(h:X.length=sz):vwV sz (st.push (.row X)) (.rsl sz st.heap.length 0 1 1)=some (1,X):=by
  have:X.take sz=X:=List.take_of_length_le (by omega)
  simp[vwV,h,this]
abbrev flC {α:Type}(c:α→List D)(L:List α):List D:=(L.map c).flatten
section
variable {α:Type}{c:α→List D}{sz:Nat}
theorem flC_len (hc:∀ x,(c x).length=sz):∀ L:List α,(flC c L).length=L.length * sz
  | []=> by simp[flC]
  | x::L=> by
    have:=flC_len hc L
    simp only[flC,List.map_cons,List.flatten_cons,List.length_append,hc,List.length_cons,Nat.succ_mul]at this ⊢
    omega
theorem flC_app (A B:List α):flC c (A++B)=flC c A++flC c B:=by simp[flC]
theorem flC_lay (hc:∀ x,(c x).length=sz)(A B:List α)(x y:α):lay (ofDs (flC c (A++x::B))) (A.length * sz) (ofDs (c y))=ofDs (flC c (A++y::B)):=by
  have h1:=flC_len hc A
  have h2:flC c (A++x::B)=flC c A++(c x++flC c B):=by simp[flC]
  have h3:flC c (A++y::B)=flC c A++(c y++flC c B):=by simp[flC]
  rw[h2,h3]
  unfold lay
  simp only[ofDs,List.map_append]
  rw[← h1,List.take_left' (by rw[List.length_map]),List.length_map,hc,← List.drop_drop,List.drop_left' (by rw[List.length_map]),List.drop_left' (by rw[List.length_map,hc])]
  simp
theorem flC_at (hc:∀ x,(c x).length=sz){L:List α}{i:Nat}{x:α}(h:L[i]? =some x):((ofDs (flC c L)).drop (i * sz)).take sz=ofDs (c x):=by
  have hi:=(List.getElem?_eq_some_iff.1 h).1
  have e:L=L.take i++x::L.drop (i+1):=by
    rw[List.getElem?_eq_getElem hi,Option.some.injEq]at h
    rw[← h,← List.drop_eq_getElem_cons hi,List.take_append_drop]
  have h1:=flC_len hc (L.take i)
  rw[List.length_take,Nat.min_eq_left (by omega)]at h1
  have h2:flC c L=flC c (L.take i)++(c x++flC c (L.drop (i+1))):=by
    conv=> lhs;rw[e]
    simp[flC]
  rw[h2]
  simp only[ofDs,List.map_append]
  rw[← h1,List.drop_left' (by rw[List.length_map]),List.take_left' (by rw[List.length_map,hc])]
end
theorem Hq.elem {s:St}{p:Nat}{R:List V}{lab:Nat→Option Nat}{fs:Fs}{pv:List (Nat×V×List D)}{al:List (Nat×List V)}(h:Hq s p R lab fs pv al){a sz n:Nat}{v:V}{c:List V}(hf:fs a=some (sz,n,v,c)){i:Nat}(hi:i < n){k:IntKind}:
    ∃ j0 c',lab a=some j0∧iaddrV sz v (.d (.i k (i:Int)))=some (.ptr j0 (i * sz))∧s.row j0=some c'∧i * sz+sz≤c'.length∧(c'.drop (i * sz)).take sz=(c.drop (i * sz)).take sz:=by
  have hl:=h.lr a _ hf
  obtain⟨j0,h1,h2⟩:=hl.iaddr (k:=k) hi
  obtain⟨tail,h3⟩:=hl.inRow h1
  have hlen:=hl.1
  simp only at hlen h2 h3
  have:=Nat.mul_le_mul_right sz hi
  rw[Nat.succ_mul]at this
  refine⟨j0,_,h1,h2,h3,by rw[List.length_append];omega,?_⟩
  rw[List.drop_append_of_le_length (by omega),List.take_append_of_le_length (by rw[List.length_drop];omega)]
def mineB (k:Int)(i:Nat):Bnd:=⟨[109,105,110,101],k,i⟩
def mkB (k:Int)(n:Nat):List Bnd:=(List.range n).map (mineB k)
def mineT (k:Int)(i:Nat):TbS:=⟨[109,105,110,101],k,i,0,0⟩
def mkT (k:Int)(n:Nat):List TbS:=(List.range n).map (mineT k)
theorem mkB_len (k:Int)(n:Nat):(mkB k n).length=n:=by simp[mkB]
theorem mkB_succ (k:Int)(n:Nat):mkB k (n+1)=mkB k n++ [mineB k n]:=by simp[mkB,List.range_succ]
theorem mkT_len (k:Int)(n:Nat):(mkT k n).length=n:=by simp[mkT]
theorem mkT_succ (k:Int)(n:Nat):mkT k (n+1)=mkT k n++ [mineT k n]:=by simp[mkT,List.range_succ]
theorem cB (x:Bnd):x.cells.length=3:=rfl
theorem cT (x:TbS):x.cells.length=5:=rfl
section
variable {pr:Prog}(hp:Sub nsFns pr){st:St}{p:Nat}{R:List V}{lab:Nat→Option Nat}{fs:Fs}{pv:List (Nat×V×List D)}{al:List (Nat×List V)}
include hp
theorem loopNs0 (h:Hq st p R lab fs pv al){bx a n:Nat}{fv tv:V}(hbx:(bx,[fv,tv])∈al)(ha:a≠0)(ha2:a≠20){L:List Bnd}(hf:fs a=some (3,n,fv,ofDs (flC Bnd.cells L)))(hn:n≤1099511627776)(h20:lab 20=none){k:Int}{Q:Out→Prop}
    (hQ:∀ e s f j,Hq s p R (upd lab 20 j) (updF (updF fs a (some (3,n,fv,ofDs (flC Bnd.cells (mkB k n))))) 20 (some (3,n,f,ofDs (flC Bnd.cells (mkB k n))))) pv al→e.get 0=some (.ptr p 0)→e.get 3=some (.ptr bx 0)→e.get 4=some (.d (.i .i64 k))→e.get 5=some f→Q (.exit 0,e,s)):
    CodeW pr (.loop [0,3,4,5,6] false F369_b0) [(0,.ptr p 0),(3,.ptr bx 0),(4,.d (.i .i64 k)),(5,.d (.sl 0 false [])),(6,.d (.i .i64 0))] st Q:=by
  have hL:L.length=n:=by
    have:=(h.lr a _ hf).1
    simp only[ofDs_len,flC_len cB]at this
    omega
  have h0:=h.nil (a:=20) (by omega) (sz:=3)
  obtain⟨J,hJ⟩:∃ J:Nat→Env→St→Prop,∀ n' e s,J n' e s↔∃ i f j,i≤n∧n'=n - i∧e= [(0,.ptr p 0),(3,.ptr bx 0),(4,.d (.i .i64 k)),(5,f),(6,.d (.i .i64 i))]∧Hq s p R (upd lab 20 j) (updF (updF fs a (some (3,n,fv,ofDs (flC Bnd.cells (mkB k i++L.drop i))))) 20 (some (3,i,f,ofDs (flC Bnd.cells (mkB k i))))) pv al:=⟨_,fun _ _ _=> Iff.rfl⟩
  refine loopW_j wNs J ?_ (n:=n) ((hJ _ _ _).2 ⟨0,.d (.sl 0 false []),none,Nat.zero_le _,rfl,by simp,?_⟩)
  rotate_left
  · have e1:updF fs a (some (3,n,fv,ofDs (flC Bnd.cells (mkB k 0++L.drop 0))))=fs:=by
      rw[show mkB k 0++L.drop 0=L by simp[mkB],← hf,updF_self]
    rw[e1]
    exact h0
  intro n' e s hj
  obtain⟨i,f,j,hi,rfl,rfl,hs⟩:=(hJ _ _ _).1 hj
  have hrow:=(hs.al _ hbx).1
  simp only at hrow
  have hfa:∀ x y,updF (updF fs a x) 20 y a=x:=fun x y=> by rw[updF_ne ha2,updF_eq]
  have hlen:=hs.len (hfa _ _)
  rcases Nat.lt_or_ge i n with hlt | hge
  · have w1:IntKind.wrap .i64 ((i:Int)+1)=i+1:=wrap_i64 (by omega) (by omega)
    obtain⟨x,hx⟩:∃ x,L[i]? =some x:=⟨_,List.getElem?_eq_getElem (by omega)⟩
    have hdr:L.drop i=x::L.drop (i+1):=by
      rw[List.getElem?_eq_getElem (by omega),Option.some.injEq]at hx
      rw[← hx,← List.drop_eq_getElem_cons]
    rw[hdr]at hs
    obtain⟨j0,c',e1,e2,e3,e4,e5,h2,_⟩:=hs.write ha (hfa _ _) hlt (ys:=ofDs (mineB k i).cells) rfl
    have hlay:=flC_lay cB (mkB k i) (L.drop (i+1)) x (mineB k i)
    rw[mkB_len]at hlay
    rw[hlay]at h2
    have hset:∀ cs,s.setBlk j0 (.row cs)=some (s.put j0 cs):=fun cs=> setBlk_put hs.fl
    obtain⟨s2,hs2⟩:∃ s2,s2=s.put j0 (lay c' (i * 3) (ofDs (mineB k i).cells)):=⟨_,rfl⟩
    rw[← hs2]at h2
    have hrow2:=(h2.al _ hbx).1
    simp only at hrow2
    have hgn:(mkB k i++mineB k i::L.drop (i+1))[i]? =some (mineB k i):=by
      rw[List.getElem?_append_right (by rw[mkB_len];omega),mkB_len,Nat.sub_self]
      rfl
    obtain⟨j1,c1,f1,f2,f3,f4,f5⟩:=h2.elem (a:=a) updF_eq hlt (k:= .i64)
    rw[flC_at cB hgn]at f5
    obtain rfl:j0=j1:=Option.some.inj (e1.symm.trans f1)
    have hv:=vwV_litN 3 s2 (ofDs (mineB k i).cells) rfl
    simp[Bnd.cells,mineB,ofDs,lay]at f5 hv hs2
    simp[F369_b0,wNs,hrow,hlen,hlt,e2,e3,e4,hset,fillV,lay,ofDs,← hs2,hrow2,f2,f3,f4,f5,reps]
    refine(h2.push _).app (a:=20) (by omega) (n:=i) (sz:=3) (c:=ofDs (flC Bnd.cells (mkB k i))) (by rw[updF_ne (Ne.symm ha2),updF_eq]) hv (by simp) rfl (by omega) (by omega) ?_
    intro s3 f3 j3 h3 _ _
    simp[F369_b0,wNs,w1]
    refine⟨n - (i+1),by omega,(hJ _ _ _).2 ⟨i+1,f3,j3,by omega,rfl,by simp,?_⟩⟩
    have c1:ofDs (flC Bnd.cells (mkB k i))++ [V.d (.s [109,105,110,101]),.d (.i .i64 k),.d (.i .i64 i)]=ofDs (flC Bnd.cells (mkB k (i+1))):=by
      rw[mkB_succ,flC_app];simp[ofDs,flC,Bnd.cells,mineB]
    have c2:mkB k i++mineB k i::L.drop (i+1)=mkB k (i+1)++L.drop (i+1):=by rw[mkB_succ];simp
    rw[c1,c2,upd_upd]at h3
    refine cast (congrArg (fun g=> Hq s3 p R (upd lab 20 j3) g pv al) ?_) h3
    funext c
    by_cases h1:c=a <;> by_cases h2:c=20 <;> simp[updF,h1,h2,ha2]
  · have:i=n:=by omega
    subst this
    simp[F369_b0,wNs,hrow,hlen]
    rw[List.drop_of_length_le (by omega),List.append_nil]at hs
    exact hQ _ _ f j hs (by simp) (by simp) (by simp) (by simp)
theorem loopNs1 (h:Hq st p R lab fs pv al){bx a n:Nat}{fv tv g:V}(hbx:(bx,[fv,tv])∈al)(ha:a≠0)(ha2:a≠21){L:List TbS}(hf:fs a=some (5,n,tv,ofDs (flC TbS.cells L)))(hn:n≤1099511627776)(h20:lab 21=none){k:Int}{Q:Out→Prop}
    (hQ:∀ e s f j,Hq s p R (upd lab 21 j) (updF (updF fs a (some (5,n,tv,ofDs (flC TbS.cells (mkT k n))))) 21 (some (5,n,f,ofDs (flC TbS.cells (mkT k n))))) pv al→e.get 0=some (.ptr p 0)→e.get 3=some (.ptr bx 0)→e.get 4=some (.d (.i .i64 k))→e.get 5=some g→e.get 7=some f→Q (.exit 2,e,s)):
    CodeW pr (.loop [0,3,4,5,7,8] false F369_b1) [(0,.ptr p 0),(3,.ptr bx 0),(4,.d (.i .i64 k)),(5,g),(7,.d (.sl 0 false [])),(8,.d (.i .i64 0))] st Q:=by
  have hL:L.length=n:=by
    have:=(h.lr a _ hf).1
    simp only[ofDs_len,flC_len cT]at this
    omega
  have h0:=h.nil (a:=21) (by omega) (sz:=5)
  obtain⟨J,hJ⟩:∃ J:Nat→Env→St→Prop,∀ n' e s,J n' e s↔∃ i f j,i≤n∧n'=n - i∧e= [(0,.ptr p 0),(3,.ptr bx 0),(4,.d (.i .i64 k)),(5,g),(7,f),(8,.d (.i .i64 i))]∧Hq s p R (upd lab 21 j) (updF (updF fs a (some (5,n,tv,ofDs (flC TbS.cells (mkT k i++L.drop i))))) 21 (some (5,i,f,ofDs (flC TbS.cells (mkT k i))))) pv al:=⟨_,fun _ _ _=> Iff.rfl⟩
  refine loopW_j wNs J ?_ (n:=n) ((hJ _ _ _).2 ⟨0,.d (.sl 0 false []),none,Nat.zero_le _,rfl,by simp,?_⟩)
  rotate_left
  · have e1:updF fs a (some (5,n,tv,ofDs (flC TbS.cells (mkT k 0++L.drop 0))))=fs:=by
      rw[show mkT k 0++L.drop 0=L by simp[mkT],← hf,updF_self]
    rw[e1]
    exact h0
  intro n' e s hj
  obtain⟨i,f,j,hi,rfl,rfl,hs⟩:=(hJ _ _ _).1 hj
  have hrow:=(hs.al _ hbx).1
  simp only at hrow
  have hfa:∀ x y,updF (updF fs a x) 21 y a=x:=fun x y=> by rw[updF_ne ha2,updF_eq]
  have hlen:=hs.len (hfa _ _)
  rcases Nat.lt_or_ge i n with hlt | hge
  · have w1:IntKind.wrap .i64 ((i:Int)+1)=i+1:=wrap_i64 (by omega) (by omega)
    obtain⟨x,hx⟩:∃ x,L[i]? =some x:=⟨_,List.getElem?_eq_getElem (by omega)⟩
    have hdr:L.drop i=x::L.drop (i+1):=by
      rw[List.getElem?_eq_getElem (by omega),Option.some.injEq]at hx
      rw[← hx,← List.drop_eq_getElem_cons]
    rw[hdr]at hs
    obtain⟨j0,c',e1,e2,e3,e4,e5,h2,_⟩:=hs.write ha (hfa _ _) hlt (ys:=ofDs (mineT k i).cells) rfl
    have hlay:=flC_lay cT (mkT k i) (L.drop (i+1)) x (mineT k i)
    rw[mkT_len]at hlay
    rw[hlay]at h2
    have hset:∀ cs,s.setBlk j0 (.row cs)=some (s.put j0 cs):=fun cs=> setBlk_put hs.fl
    obtain⟨s2,hs2⟩:∃ s2,s2=s.put j0 (lay c' (i * 5) (ofDs (mineT k i).cells)):=⟨_,rfl⟩
    rw[← hs2]at h2
    have hrow2:=(h2.al _ hbx).1
    simp only at hrow2
    have hgn:(mkT k i++mineT k i::L.drop (i+1))[i]? =some (mineT k i):=by
      rw[List.getElem?_append_right (by rw[mkT_len];omega),mkT_len,Nat.sub_self]
      rfl
    obtain⟨j1,c1,f1,f2,f3,f4,f5⟩:=h2.elem (a:=a) updF_eq hlt (k:= .i64)
    rw[flC_at cT hgn]at f5
    obtain rfl:j0=j1:=Option.some.inj (e1.symm.trans f1)
    have hv:=vwV_litN 5 s2 (ofDs (mineT k i).cells) rfl
    simp[TbS.cells,mineT,ofDs,lay]at f5 hv hs2
    simp[F369_b1,wNs,hrow,hlen,hlt,e2,e3,e4,hset,fillV,lay,ofDs,← hs2,hrow2,f2,f3,f4,f5,reps]
    refine(h2.push _).app (a:=21) (by omega) (n:=i) (sz:=5) (c:=ofDs (flC TbS.cells (mkT k i))) (by rw[updF_ne (Ne.symm ha2),updF_eq]) hv (by simp) rfl (by omega) (by omega) ?_
    intro s3 f3 j3 h3 _ _
    simp[F369_b1,wNs,w1]
    refine⟨n - (i+1),by omega,(hJ _ _ _).2 ⟨i+1,f3,j3,by omega,rfl,by simp,?_⟩⟩
    have c1:ofDs (flC TbS.cells (mkT k i))++ [V.d (.s [109,105,110,101]),.d (.i .i64 k),.d (.i .i64 i),.d (.i .i64 0),.d (.i .i64 0)]=ofDs (flC TbS.cells (mkT k (i+1))):=by
      rw[mkT_succ,flC_app];simp[ofDs,flC,TbS.cells,mineT]
    have c2:mkT k i++mineT k i::L.drop (i+1)=mkT k (i+1)++L.drop (i+1):=by rw[mkT_succ];simp
    rw[c1,c2,upd_upd]at h3
    refine cast (congrArg (fun g=> Hq s3 p R (upd lab 21 j3) g pv al) ?_) h3
    funext c
    by_cases h1:c=a <;> by_cases h2:c=21 <;> simp[updF,h1,h2,ha2]
  · have:i=n:=by omega
    subst this
    simp[F369_b1,wNs,hrow,hlen]
    rw[List.drop_of_length_le (by omega),List.append_nil]at hs
    exact hQ _ _ f j hs (by simp) (by simp) (by simp) (by simp) (by simp)
end
end Go.Sh
namespace Go.Sh
def GX {α:Type}(c:α→List D)(lab:Nat→Option Nat)(fs:Fs)(a b sz:Nat)(fv:V)(A:List α)(x:V)(B:List α):Prop:=
  (fs a=some (sz,A.length+B.length,x,ofDs (flC c (A++B)))∧Sub' sz fv A.length x (A.length+B.length)∧lab b=none∧fs b=none)∨
  (∃ w B0,fs a=some (sz,A.length+B0.length,w,ofDs (flC c (A++B0)))∧Sub' sz fv A.length w (A.length+B0.length)∧fs b=some (sz,A.length+B.length,x,ofDs (flC c (A++B))))
def Els (lab lab':Nat→Option Nat)(fs fs':Fs)(S:Nat→Prop):Prop:=∀ e,¬ S e→fs' e=fs e∧lab' e=lab e
theorem Els.refl (lab:Nat→Option Nat)(fs:Fs)(S:Nat→Prop):Els lab lab fs fs S:=fun _ _=> ⟨rfl,rfl⟩
theorem Els.trans {l1 l2 l3:Nat→Option Nat}{f1 f2 f3:Fs}{S:Nat→Prop}(h:Els l1 l2 f1 f2 S)(k:Els l2 l3 f2 f3 S):Els l1 l3 f1 f3 S:=fun e he=> ⟨(k e he).1.trans (h e he).1,(k e he).2.trans (h e he).2⟩
theorem Els.mono {l1 l2:Nat→Option Nat}{f1 f2:Fs}{S T:Nat→Prop}(h:Els l1 l2 f1 f2 S)(hs:∀ e,S e→T e):Els l1 l2 f1 f2 T:=fun e he=> h e fun k=> he (hs e k)
theorem Els.upd {lab:Nat→Option Nat}{fs:Fs}{a:Nat}{j:Option Nat}{x:Option (Nat×Nat×V×List V)}:Els lab (Go.Sh.upd lab a j) fs (updF fs a x) (fun e=> e=a):=fun e he=> ⟨updF_ne he,upd_ne he⟩
theorem Els.updF {lab:Nat→Option Nat}{fs:Fs}{a:Nat}{x:Option (Nat×Nat×V×List V)}:Els lab lab fs (Go.Sh.updF fs a x) (fun e=> e=a):=fun e he=> ⟨updF_ne he,rfl⟩
section
variable {α:Type}{c:α→List D}{s:St}{p:Nat}{R:List V}{lab lab':Nat→Option Nat}{fs fs':Fs}{pv:List (Nat×V×List D)}{al:List (Nat×List V)}{a b sz:Nat}{fv x:V}{A B:List α}
theorem GX.els (g:GX c lab fs a b sz fv A x B){S:Nat→Prop}(h:Els lab lab' fs fs' S)(ha:¬ S a)(hb:¬ S b):GX c lab' fs' a b sz fv A x B:=by
  unfold GX
  rw[(h a ha).1,(h b hb).1,(h b hb).2]
  exact g
theorem GX.app (hc:∀ x,(c x).length=sz)(hsz:0 < sz)(h:Hq s p R lab fs pv al)(ha:a≠0)(hb0:b≠0)(hab:a≠b)(g:GX c lab fs a b sz fv A x B){z:V}{Z:List α}(hz:vwV sz s z=some (Z.length,ofDs (flC c Z))){zero:List D}{bytes:Nat}(hzl:zero.length=sz)(hb:(A.length+B.length+Z.length) * bytes≤140737488355328)(hn:A.length+B.length+Z.length≤140737488355328){Q:V→St→Prop}
    (hQ:∀ s' x' lab' fs',Hq s' p R lab' fs' pv al→GX c lab' fs' a b sz fv A x' (B++Z)→Els lab lab' fs fs' (fun e=> e=a∨e=b)→Q x' s'):appW sz bytes zero s x z Q:=by
  have hZ:(ofDs (flC c Z)).length=Z.length * sz:=by rw[ofDs_len,flC_len hc]
  have e1:ofDs (flC c (A++B))++ofDs (flC c Z)=ofDs (flC c (A++(B++Z))):=by
    rw[← List.append_assoc,flC_app (A++B) Z];simp[ofDs]
  have e2:A.length+(B++Z).length=A.length+B.length+Z.length:=by rw[List.length_append];omega
  rcases g with⟨g1,g2,g3,g4⟩ | ⟨w,B0,g1,g2,g3⟩
  · refine h.grow ha hb0 hsz g1 hz hZ hzl hb hn g3 ?_ ?_
    · intro s' v' h' hs
      rw[e1]at h'
      refine hQ s' v' _ _ h' (.inl ⟨?_,?_,g3,?_⟩) (Els.updF.mono fun e he=> .inl he)
      · rw[updF_eq,e2]
      · rw[e2];exact hs _ _ g2
      · rw[updF_ne (Ne.symm hab)];exact g4
    · intro s' v' j' h'
      rw[e1]at h'
      refine hQ s' v' _ _ h' (.inr ⟨x,B,?_,g2,?_⟩) (Els.upd.mono fun e he=> .inr he)
      · rw[updF_ne hab];exact g1
      · rw[updF_eq,e2]
  · refine h.app hb0 g3 hz hZ hzl hb hn ?_
    intro s' v' j' h' _ _
    rw[e1]at h'
    refine hQ s' v' _ _ h' (.inr ⟨w,B0,?_,g2,?_⟩) (Els.upd.mono fun e he=> .inr he)
    · rw[updF_ne hab];exact g1
    · rw[updF_eq,e2]
end
def grwB (k:Int)(n:Nat):List Bnd:=(List.range n).map fun(i:Nat)=> ⟨[],k,(i:Int)⟩
def grwT (k:Int)(n:Nat):List TbS:=(List.range n).map fun(i:Nat)=> ⟨[],k,(i:Int),0,0⟩
theorem grwB_len (k:Int)(n:Nat):(grwB k n).length=n:=by simp[grwB]
theorem grwT_len (k:Int)(n:Nat):(grwT k n).length=n:=by simp[grwT]
theorem grwB_succ (k:Int)(n:Nat):grwB k (n+1)=grwB k n++ [⟨[],k,n⟩]:=by simp[grwB,List.range_succ]
theorem grwT_succ (k:Int)(n:Nat):grwT k (n+1)=grwT k n++ [⟨[],k,n,0,0⟩]:=by simp[grwT,List.range_succ]
section
variable {pr:Prog}(hp:Sub nsFns pr){st:St}{p:Nat}{R:List V}{lab:Nat→Option Nat}{fs:Fs}{pv:List (Nat×V×List D)}{al:List (Nat×List V)}
include hp
theorem loopNs2 (h:Hq st p R lab fs pv al){a n:Nat}{B3 fv f t y more0:V}{C:List V}{A:List Bnd}(ha:a≠0)(ha2:a < 20)(hA:A.length=n)(hf:fs a=some (3,n,fv,ofDs (flC Bnd.cells A)))(h20:fs 20=some (3,n,f,C))(h22:fs 22=some (3,0,more0,[]))(h23:lab 23=none∧fs 23=none)(hn:n≤1099511627776){k:Int}{Q:Out→Prop}
    (hQ:∀ e s x more lab' fs',Hq s p R lab' fs' pv al→GX Bnd.cells lab' fs' a 23 3 fv A x (grwB (IntKind.wrap .i64 (0 - k)) (n+20))→fs' 22=some (3,n+20,more,ofDs (flC Bnd.cells (grwB (IntKind.wrap .i64 (0 - k)) (n+20))))→Els lab lab' fs fs' (fun e=> e=a∨e=22∨e=23)→
      e.get 0=some (.ptr p 0)→e.get 3=some B3→e.get 4=some (.d (.i .i64 k))→e.get 5=some f→e.get 7=some t→e.get 9=some x→e.get 10=some y→e.get 11=some more→Q (.exit 4,e,s)):
    CodeW pr (.loop [0,3,4,5,7,9,10,11,12] false F369_b2) [(0,.ptr p 0),(3,B3),(4,.d (.i .i64 k)),(5,f),(7,t),(9,fv),(10,y),(11,more0),(12,.d (.i .i64 0))] st Q:=by
  obtain⟨nk,hnk⟩:∃ nk,nk=IntKind.wrap .i64 (0 - k):=⟨_,rfl⟩
  rw[← hnk]at hQ
  obtain⟨J,hJ⟩:∃ J:Nat→Env→St→Prop,∀ n' e s,J n' e s↔∃ i x more lab' fs',i≤n+20∧n'=n+20 - i∧e= [(0,.ptr p 0),(3,B3),(4,.d (.i .i64 k)),(5,f),(7,t),(9,x),(10,y),(11,more),(12,.d (.i .i64 (i:Nat)))]∧Hq s p R lab' fs' pv al∧GX Bnd.cells lab' fs' a 23 3 fv A x (grwB nk i)∧fs' 22=some (3,i,more,ofDs (flC Bnd.cells (grwB nk i)))∧Els lab lab' fs fs' (fun e=> e=a∨e=22∨e=23):=⟨_,fun _ _ _=> Iff.rfl⟩
  refine loopW_j wNs J ?_ (n:=n+20) ((hJ _ _ _).2 ⟨0,fv,more0,lab,fs,Nat.zero_le _,rfl,by simp,h,.inl ⟨?_,?_,h23⟩,(h22:fs 22=some (3,0,more0,ofDs (flC Bnd.cells (grwB nk 0)))),.refl _ _ _⟩)
  rotate_left
  · rw[hA]
    simpa[grwB]using hf
  · rw[hA]
    simpa[grwB]using(h.lr a _ hf).self
  intro n' e s hj
  obtain⟨i,x,more,lab1,fs1,hi,rfl,rfl,hs,hg,h22',hE⟩:=(hJ _ _ _).1 hj
  have hlen:=hs.len (a:=20) ((hE 20 (by omega)).1.trans h20)
  have w0:IntKind.wrap .i64 ((n:Int)+20)=n+20:=wrap_i64 (by omega) (by omega)
  rcases Nat.lt_or_ge i (n+20) with hlt | hge
  · have hltI:(i:Int) < (n:Int)+20:=by omega
    have w1:IntKind.wrap .i64 ((i:Int)+1)=i+1:=wrap_i64 (by omega) (by omega)
    have hneg:unV .neg (.d (.i .i64 k))=some (.d (.i .i64 nk)):=by simp[unV,hnk]
    have hv:=vwV_litN 3 s [V.d (.s []),.d (.i .i64 nk),.d (.i .i64 (i:Int))] rfl
    have hal:=grwB_len nk i
    simp[F369_b2,wNs,hlen,w0,hlt,hltI,hneg,fillV,lay,ofDs,reps]
    refine GX.app (Z:= [(⟨[],nk,i⟩:Bnd)]) cB (by omega) (hs.push _) ha (by omega) (by omega) hg (by simpa[flC,Bnd.cells,ofDs]using hv) rfl (by simp only[List.length_singleton];omega) (by simp only[List.length_singleton];omega) ?_
    intro s2 x2 lab2 fs2 h2 g2 E2
    have h22b:fs2 22=some (3,i,more,ofDs (flC Bnd.cells (grwB nk i))):=(E2 22 (by omega)).1.trans h22'
    have hv2:=vwV_litN 3 s2 [V.d (.s []),.d (.i .i64 nk),.d (.i .i64 (i:Int))] rfl
    simp[F369_b2,wNs,hneg,fillV,lay,ofDs,reps]
    refine(h2.push _).app (a:=22) (by omega) h22b hv2 (by simp) rfl (by omega) (by omega) ?_
    intro s3 m3 j3 h3 _ _
    simp[F369_b2,wNs,w1]
    have c1:ofDs (flC Bnd.cells (grwB nk i))++ [V.d (.s []),.d (.i .i64 nk),.d (.i .i64 i)]=ofDs (flC Bnd.cells (grwB nk (i+1))):=by
      rw[grwB_succ,flC_app];simp[ofDs,flC,Bnd.cells]
    rw[c1]at h3
    refine⟨n+20 - (i+1),by omega,(hJ _ _ _).2 ⟨i+1,x2,m3,_,_,by omega,rfl,by simp,h3,?_,updF_eq,?_⟩⟩
    · rw[grwB_succ]
      exact g2.els (Els.upd) (by omega) (by omega)
    · exact hE.trans ((E2.mono fun e he=> by omega).trans (Els.upd.mono fun e he=> by omega))
  · have:i=n+20:=by omega
    subst this
    have:¬ ((n+20:Nat):Int) < (n:Int)+20:=by omega
    simp[F369_b2,wNs,hlen,w0]
    exact hQ _ _ x more lab1 fs1 hs hg h22' hE (by simp) (by simp) (by simp) (by simp) (by simp) (by simp) (by simp) (by simp)
theorem loopNs3 (h:Hq st p R lab fs pv al){a n:Nat}{B3 tv f t x more:V}{C:List V}{A:List TbS}(ha:a≠0)(ha2:a < 20)(hA:A.length=n)(hf:fs a=some (5,n,tv,ofDs (flC TbS.cells A)))(h21:fs 21=some (5,n,t,C))(h24:lab 24=none∧fs 24=none)(hn:n≤1099511627776){k:Int}{Q:Out→Prop}
    (hQ:∀ e s y lab' fs',Hq s p R lab' fs' pv al→GX TbS.cells lab' fs' a 24 5 tv A y (grwT (IntKind.wrap .i64 (0 - k)) (n+20))→Els lab lab' fs fs' (fun e=> e=a∨e=24)→
      e.get 0=some (.ptr p 0)→e.get 3=some B3→e.get 5=some f→e.get 7=some t→e.get 9=some x→e.get 10=some y→e.get 11=some more→Q (.exit 6,e,s)):
    CodeW pr (.loop [0,3,4,5,7,9,10,11,13] false F369_b3) [(0,.ptr p 0),(3,B3),(4,.d (.i .i64 k)),(5,f),(7,t),(9,x),(10,tv),(11,more),(13,.d (.i .i64 0))] st Q:=by
  obtain⟨nk,hnk⟩:∃ nk,nk=IntKind.wrap .i64 (0 - k):=⟨_,rfl⟩
  rw[← hnk]at hQ
  obtain⟨J,hJ⟩:∃ J:Nat→Env→St→Prop,∀ n' e s,J n' e s↔∃ i y lab' fs',i≤n+20∧n'=n+20 - i∧e= [(0,.ptr p 0),(3,B3),(4,.d (.i .i64 k)),(5,f),(7,t),(9,x),(10,y),(11,more),(13,.d (.i .i64 (i:Nat)))]∧Hq s p R lab' fs' pv al∧GX TbS.cells lab' fs' a 24 5 tv A y (grwT nk i)∧Els lab lab' fs fs' (fun e=> e=a∨e=24):=⟨_,fun _ _ _=> Iff.rfl⟩
  refine loopW_j wNs J ?_ (n:=n+20) ((hJ _ _ _).2 ⟨0,tv,lab,fs,Nat.zero_le _,rfl,by simp,h,.inl ⟨?_,?_,h24⟩,.refl _ _ _⟩)
  rotate_left
  · rw[hA]
    simpa[grwT]using hf
  · rw[hA]
    simpa[grwT]using(h.lr a _ hf).self
  intro n' e s hj
  obtain⟨i,y,lab1,fs1,hi,rfl,rfl,hs,hg,hE⟩:=(hJ _ _ _).1 hj
  have hlen:=hs.len (a:=21) ((hE 21 (by omega)).1.trans h21)
  have w0:IntKind.wrap .i64 ((n:Int)+20)=n+20:=wrap_i64 (by omega) (by omega)
  rcases Nat.lt_or_ge i (n+20) with hlt | hge
  · have hltI:(i:Int) < (n:Int)+20:=by omega
    have w1:IntKind.wrap .i64 ((i:Int)+1)=i+1:=wrap_i64 (by omega) (by omega)
    have hneg:unV .neg (.d (.i .i64 k))=some (.d (.i .i64 nk)):=by simp[unV,hnk]
    have hv:=vwV_litN 5 s [V.d (.s []),.d (.i .i64 nk),.d (.i .i64 (i:Int)),.d (.i .i64 0),.d (.i .i64 0)] rfl
    have hal:=grwT_len nk i
    simp[F369_b3,wNs,hlen,w0,hlt,hltI,hneg,fillV,lay,ofDs,reps]
    refine GX.app (Z:= [(⟨[],nk,i,0,0⟩:TbS)]) cT (by omega) (hs.push _) ha (by omega) (by omega) hg (by simpa[flC,TbS.cells,ofDs]using hv) rfl (by simp only[List.length_singleton];omega) (by simp only[List.length_singleton];omega) ?_
    intro s2 x2 lab2 fs2 h2 g2 E2
    simp[F369_b3,wNs,w1]
    refine⟨n+20 - (i+1),by omega,(hJ _ _ _).2 ⟨i+1,x2,_,_,by omega,rfl,by simp,h2,?_,?_⟩⟩
    · rw[grwT_succ]
      exact g2
    · exact hE.trans E2
  · have:i=n+20:=by omega
    subst this
    simp[F369_b3,wNs,hlen,w0]
    exact hQ _ _ y lab1 fs1 hs hg hE (by simp) (by simp) (by simp) (by simp) (by simp) (by simp) (by simp)
end
end Go.Sh
namespace Go.Sh
section
variable {α:Type}{c:α→List D}{s:St}{p:Nat}{R:List V}{lab:Nat→Option Nat}{fs:Fs}{pv:List (Nat×V×List D)}{al:List (Nat×List V)}{a b d sz:Nat}{fv x:V}{A B:List α}
theorem Hq.done3 (h:Hq s p R lab fs pv al){n m k:Nat}(ha:a≠0){u v w:V}{M L K:List D}(hf:fs a=some (sz,m,w,ofDs M))(hs:Sub' sz u n w m)(hL:M.take (n * sz)=L)(hs':Sub' sz v k w m)(hK:M.take (k * sz)=K):Hq s p R (upd lab a none) (updF fs a none) ((sz,v,K)::(sz,u,L)::(sz,w,M)::pv) al:=by
  obtain⟨h1,h2⟩:=h.subs hf hs' (L:=K) (by rw[← hK];simp[ofDs,List.map_take])
  refine(h.done2 ha hf hs hL).prot h1 (fun r hr c hc=> ?_) fun x hx e=> (h.al x hx).2.1 a (h2 _ e)
  by_cases hca:c=a
  · subst hca;rw[upd_eq]at hc;cases hc
  · rw[upd_ne hca]at hc
    exact hca (h.labs.sep c a r hc (h2 r hr))
theorem upd_none (h:lab b=none)(j:Option Nat):upd (upd lab b j) b none=lab:=by rw[upd_upd,upd_off h]
theorem updF_none (h:fs b=none)(j:Option (Nat×Nat×V×List V)):updF (updF fs b j) b none=fs:=by rw[updF_updF,updF_off h]
theorem GX.third (hc:∀ x,(c x).length=sz)(hsz:0 < sz)(h:Hq s p R lab fs pv al)(ha:a≠0)(hb0:b≠0)(hd0:d≠0)(hab:a≠b)(had:a≠d)(hbd:b≠d)(g:GX c lab fs a b sz fv A x B)(hd:lab d=none∧fs d=none){z:V}(hz:vwV sz s z=some (B.length,ofDs (flC c B))){zero:List D}{bytes:Nat}(hzl:zero.length=sz)(hb:(A.length+B.length) * bytes≤140737488355328)(hn:A.length+B.length≤140737488355328){Q:V→St→Prop}
    (hQ:∀ s' z lab' fs' pv',Hq s' p R lab' fs' pv' al→(∀ y∈pv,y∈pv')→(sz,fv,flC c A)∈pv'→(sz,x,flC c (A++B))∈pv'→(sz,z,flC c (A++B))∈pv'→Els lab lab' fs fs' (fun e=> e=a∨e=b∨e=d)→(∀ e,e=a∨e=b∨e=d→lab' e=none∧fs' e=none)→Q z s'):appW sz bytes zero s fv z Q:=by
  have hBl:(ofDs (flC c B)).length=B.length * sz:=by rw[ofDs_len,flC_len hc]
  have hAB:ofDs (flC c A)++ofDs (flC c B)=ofDs (flC c (A++B)):=by rw[flC_app];simp[ofDs]
  have htk:∀ B0:List α,(flC c (A++B0)).take (A.length * sz)=flC c A:=fun B0=> by
    rw[flC_app,← flC_len hc A,List.take_left' rfl]
  have htk':∀ B0:List α,(ofDs (flC c (A++B0))).take (A.length * sz)=ofDs (flC c A):=fun B0=> by
    rw[← htk B0];simp[ofDs,List.map_take]
  have hfull:(flC c (A++B)).take ((A.length+B.length) * sz)=flC c (A++B):=List.take_of_length_le (by rw[flC_len hc,List.length_append];omega)
  rcases g with⟨g1,g2,g3,g4⟩ | ⟨w,B0,g1,g2,g3⟩
  · refine h.growS ha hd0 hsz g1 g2 hz hBl hzl hb hn hd.1 ?_ ?_
    · intro s' z h' hs
      rw[htk',hAB]at h'
      have h2:=h'.done3 ha updF_eq (hs _ _ g2 (by omega)) (htk B) (hs _ _ (LR.self (h.lr a _ g1)) (Nat.le_refl _)) hfull
      rw[updF_updF]at h2
      refine hQ s' z _ _ _ h2 (fun y hy=> by simp[hy]) (by simp) (by simp) (by simp) (Els.upd.mono fun e he=> .inl he) ?_
      rintro e (rfl | rfl | rfl)
      · rw[upd_eq,updF_eq];exact⟨rfl,rfl⟩
      · rw[upd_ne (Ne.symm hab),updF_ne (Ne.symm hab)];exact⟨g3,g4⟩
      · rw[upd_ne (Ne.symm had),updF_ne (Ne.symm had)];exact hd
    · intro s' z j' h'
      rw[htk',hAB]at h'
      have h1:=h'.done (a:=d) hd0 updF_eq
      rw[upd_none hd.1,updF_none hd.2]at h1
      have h2:=h1.done2 ha g1 g2 (htk B)
      refine hQ s' z _ _ _ h2 (fun y hy=> by simp[hy]) (by simp) (by simp) (by simp) (Els.upd.mono fun e he=> .inl he) ?_
      rintro e (rfl | rfl | rfl)
      · rw[upd_eq,updF_eq];exact⟨rfl,rfl⟩
      · rw[upd_ne (Ne.symm hab),updF_ne (Ne.symm hab)];exact⟨g3,g4⟩
      · rw[upd_ne (Ne.symm had),updF_ne (Ne.symm had)];exact hd
  · have fin:∀ lab' fs',Els lab lab' fs fs' (fun e=> e=a∨e=b)→(lab' a=none∧fs' a=none)→(lab' b=none∧fs' b=none)→Els lab lab' fs fs' (fun e=> e=a∨e=b∨e=d)∧∀ e,e=a∨e=b∨e=d→lab' e=none∧fs' e=none:=by
      intro lab' fs' E e1 e2
      refine⟨E.mono fun e he=> by omega,?_⟩
      rintro e (rfl | rfl | rfl)
      · exact e1
      · exact e2
      · obtain⟨q1,q2⟩:=E e (by omega)
        exact⟨q2.trans hd.1,q1.trans hd.2⟩
    refine h.growS ha hd0 hsz g1 g2 hz hBl hzl hb hn hd.1 ?_ ?_
    · intro s' z h' hs
      rw[htk',hAB]at h'
      have hsub:Sub' sz fv A.length z (A.length+B.length):=hs _ _ g2 (by omega)
      have h1:=h'.done2 ha updF_eq hsub (htk B)
      rw[updF_updF]at h1
      have h2:=h1.done hb0 (by rw[updF_ne (Ne.symm hab)];exact g3)
      obtain⟨q1,q2⟩:=fin _ _ ((Els.upd (lab:=lab) (fs:=fs) (a:=a) (j:=none) (x:=none)).mono (fun e he=> .inl he) |>.trans (Els.upd.mono fun e he=> .inr he)) ⟨by rw[upd_ne hab,upd_eq],by rw[updF_ne hab,updF_eq]⟩ ⟨upd_eq,updF_eq⟩
      exact hQ s' z _ _ _ h2 (fun y hy=> by simp[hy]) (by simp) (by simp) (by simp) q1 q2
    · intro s' z j' h'
      rw[htk',hAB]at h'
      have h0:=h'.done (a:=d) hd0 updF_eq
      rw[upd_none hd.1,updF_none hd.2]at h0
      have h1:=h0.done2 ha g1 g2 (htk B0)
      have h2:=h1.done hb0 (by rw[updF_ne (Ne.symm hab)];exact g3)
      obtain⟨q1,q2⟩:=fin _ _ ((Els.upd (lab:=lab) (fs:=fs) (a:=a) (j:=none) (x:=none)).mono (fun e he=> .inl he) |>.trans (Els.upd.mono fun e he=> .inr he)) ⟨by rw[upd_ne hab,upd_eq],by rw[updF_ne hab,updF_eq]⟩ ⟨upd_eq,updF_eq⟩
      exact hQ s' z _ _ _ h2 (fun y hy=> by simp[hy]) (by simp) (by simp) (by simp) q1 q2
theorem GX.two (hc:∀ x,(c x).length=sz)(h:Hq s p R lab fs pv al)(ha:a≠0)(hb0:b≠0)(hab:a≠b)(g:GX c lab fs a b sz fv A x B):
    ∃ lab' fs' pv',Hq s p R lab' fs' pv' al∧(∀ y∈pv,y∈pv')∧(sz,fv,flC c A)∈pv'∧(sz,x,flC c (A++B))∈pv'∧Els lab lab' fs fs' (fun e=> e=a∨e=b)∧∀ e,e=a∨e=b→lab' e=none∧fs' e=none:=by
  have htk:∀ B0:List α,(flC c (A++B0)).take (A.length * sz)=flC c A:=fun B0=> by
    rw[flC_app,← flC_len hc A,List.take_left' rfl]
  rcases g with⟨g1,g2,g3,g4⟩ | ⟨w,B0,g1,g2,g3⟩
  · refine⟨_,_,_,h.done2 ha g1 g2 (htk B),fun y hy=> by simp[hy],by simp,by simp,Els.upd.mono fun e he=> .inl he,?_⟩
    rintro e (rfl | rfl)
    · rw[upd_eq,updF_eq];exact⟨rfl,rfl⟩
    · rw[upd_ne (Ne.symm hab),updF_ne (Ne.symm hab)];exact⟨g3,g4⟩
  · have h1:=h.done2 ha g1 g2 (htk B0)
    have h2:=h1.done hb0 (by rw[updF_ne (Ne.symm hab)];exact g3)
    refine⟨_,_,_,h2,fun y hy=> by simp[hy],by simp,by simp,((Els.upd (lab:=lab) (fs:=fs) (a:=a) (j:=none) (x:=none)).mono (fun e he=> .inl he) |>.trans (Els.upd.mono fun e he=> .inr he)),?_⟩
    rintro e (rfl | rfl)
    · rw[upd_ne hab,upd_eq,updF_ne hab,updF_eq];exact⟨rfl,rfl⟩
    · rw[upd_eq,updF_eq];exact⟨rfl,rfl⟩
end
end Go.Sh
namespace Go.Sh
def PrC {α:Type}(c:α→List D)(sz:Nat)(pv:List (Nat×V×List D))(x y:V):Prop:=∃ L:List α,(sz,x,flC c L)∈pv∧(sz,y,flC c L)∈pv∧L.length≤4398046511104
theorem PrC.mono {α:Type}{c:α→List D}{sz:Nat}{pv pv':List (Nat×V×List D)}{x y:V}(h:PrC c sz pv x y)(hs:∀ z∈pv,z∈pv'):PrC c sz pv' x y:=by
  obtain⟨L,h1,h2,h3⟩:=h
  exact⟨L,hs _ h1,hs _ h2,h3⟩
theorem vwV_litM (sz n:Nat)(st:St)(X:List V)(h:X.length=n * sz):vwV sz (st.push (.row X)) (.rsl sz st.heap.length 0 n n)=some (n,X):=by
  have:X.take (n * sz)=X:=List.take_of_length_le (by omega)
  simp[vwV,h,this]
def HE (p:Nat)(R:List V)(lab:Nat→Option Nat)(fs:Fs)(pv:List (Nat×V×List D))(al:List (Nat×List V))(s:St)(o o':Option (Nat×Nat×V×List V)):Prop:=
  ∃ lab' fs',Hq s p R lab' fs' pv al∧Els lab lab' fs fs' (fun e=> e=26∨e=27)∧(fs' 26=o∧(o=none→lab' 26=none))∧(fs' 27=o'∧(o'=none→lab' 27=none))
section
variable {p:Nat}{R:List V}{lab:Nat→Option Nat}{fs:Fs}{pv:List (Nat×V×List D)}{al:List (Nat×List V)}{s:St}{o o':Option (Nat×Nat×V×List V)}
theorem HE.row (h:HE p R lab fs pv al s o o'):s.row p=some R:=by obtain⟨_,_,h,_⟩:=h;exact h.row
theorem HE.emp (h:HE p R lab fs pv al s none o'):HE p R lab fs pv al (s.push (.row [])) (some (3,0,.rsl 3 s.heap.length 0 0 0,[])) o':=by
  obtain⟨lab',fs',h,E,⟨h1,h2⟩,h3,h4⟩:=h
  have h0:=h.own (a:=26) (by omega) (h2 rfl) (sz:=3) (n:=0) (m:=0) (c:= []) (t:= []) (by simp) (by simp) (Nat.le_refl _)
  rw[List.append_nil]at h0
  refine⟨_,_,h0,E.trans (Els.upd.mono fun e he=> .inl he),⟨updF_eq,fun e=> by cases e⟩,?_,fun e=> ?_⟩
  · rw[updF_ne (by omega)];exact h3
  · rw[upd_ne (by omega)];exact h4 e
theorem HE.emp' (h:HE p R lab fs pv al s o none):HE p R lab fs pv al (s.push (.row [])) o (some (3,0,.rsl 3 s.heap.length 0 0 0,[])):=by
  obtain⟨lab',fs',h,E,⟨h1,h2⟩,h3,h4⟩:=h
  have h0:=h.own (a:=27) (by omega) (h4 rfl) (sz:=3) (n:=0) (m:=0) (c:= []) (t:= []) (by simp) (by simp) (Nat.le_refl _)
  rw[List.append_nil]at h0
  refine⟨_,_,h0,E.trans (Els.upd.mono fun e he=> .inr he),⟨?_,fun e=> ?_⟩,updF_eq,fun e=> by cases e⟩
  · rw[updF_ne (by omega)];exact h1
  · rw[upd_ne (by omega)];exact h2 e
theorem HE.app {k m:Nat}{v z:V}{C Z:List D}{l:Nat}(hl:l≠26∧l≠27)(hfz:fs l=some (3,m,z,ofDs Z))(h:HE p R lab fs pv al s (some (3,k,v,ofDs C)) o')(hb:(k+m) * 32≤140737488355328){Q:V→St→Prop}(hQ:∀ s' v',HE p R lab fs pv al s' (some (3,k+m,v',ofDs (C++Z))) o'→Q v' s'):appW 3 32 [.s [],.i .i64 0,.i .i64 0] s v z Q:=by
  obtain⟨lab',fs',h,E,⟨h1,h2⟩,h3,h4⟩:=h
  have hz:=(E l (by omega)).1.trans hfz
  obtain⟨n',v1,v2,_⟩:=((h.lr l _ hz).lst).1.vw
  have v3:=(h.lr l _ hz).1
  simp only[ofDs_len]at v3
  simp only at v1
  have:n'=m:=by omega
  subst this
  refine h.app (a:=26) (by omega) h1 v1 (by rw[ofDs_len];exact v2) rfl hb (by omega) ?_
  intro s' v' j' h' _ _
  have e1:ofDs C++ofDs Z=ofDs (C++Z):=by simp[ofDs]
  rw[e1]at h'
  refine hQ s' v' ⟨_,_,h',E.trans (Els.upd.mono fun e he=> .inl he),⟨updF_eq,fun e=> by cases e⟩,?_,fun e=> ?_⟩
  · rw[updF_ne (by omega)];exact h3
  · rw[upd_ne (by omega)];exact h4 e
theorem HE.app' {k m:Nat}{v z:V}{C Z:List D}{l:Nat}(hl:l≠26∧l≠27)(hfz:fs l=some (3,m,z,ofDs Z))(h:HE p R lab fs pv al s o (some (3,k,v,ofDs C)))(hb:(k+m) * 32≤140737488355328){Q:V→St→Prop}(hQ:∀ s' v',HE p R lab fs pv al s' o (some (3,k+m,v',ofDs (C++Z)))→Q v' s'):appW 3 32 [.s [],.i .i64 0,.i .i64 0] s v z Q:=by
  obtain⟨lab',fs',h,E,⟨h1,h2⟩,h3,h4⟩:=h
  have hz:=(E l (by omega)).1.trans hfz
  obtain⟨n',v1,v2,_⟩:=((h.lr l _ hz).lst).1.vw
  have v3:=(h.lr l _ hz).1
  simp only[ofDs_len]at v3
  simp only at v1
  have:n'=m:=by omega
  subst this
  refine h.app (a:=27) (by omega) h3 v1 (by rw[ofDs_len];exact v2) rfl hb (by omega) ?_
  intro s' v' j' h' _ _
  have e1:ofDs C++ofDs Z=ofDs (C++Z):=by simp[ofDs]
  rw[e1]at h'
  refine hQ s' v' ⟨_,_,h',E.trans (Els.upd.mono fun e he=> .inr he),⟨?_,fun e=> ?_⟩,updF_eq,fun e=> by cases e⟩
  · rw[updF_ne (by omega)];exact h1
  · rw[upd_ne (by omega)];exact h2 e
end
structure Nsb where
  F:V
  W:V
  T:V
  S:V
  fl:List V
  wl:List V
  tl:List V
  sl:List V
def Nsb.R (b:Nsb):List V:= [b.F,b.W,b.T,b.S]
structure NsI (s:St)(p:Nat)(b:Nsb)(lab:Nat→Option Nat)(fs:Fs)(pv:List (Nat×V×List D))(al:List (Nat×List V)):Prop where
  hp:Hq s p b.R lab fs pv al
  f1:fs 1=some (1,b.fl.length,b.F,b.fl)
  f2:fs 2=some (1,b.fl.length,b.W,b.wl)
  f3:fs 3=some (1,b.tl.length,b.T,b.tl)
  f4:fs 4=some (1,b.tl.length,b.S,b.sl)
  pf:∀ (i:Nat) x y,b.fl[i]? =some x→b.wl[i]? =some y→PrC Bnd.cells 3 pv x y
  pt:∀ (i:Nat) x y,b.tl[i]? =some x→b.sl[i]? =some y→PrC TbS.cells 5 pv x y
  none:∀ e,20≤e→lab e=none∧fs e=none
theorem get3 {α:Type}{l:List α}{a b c x:α}{i:Nat}(h:(l++ [a,b,c])[i]? =some x):(i < l.length∧l[i]? =some x)∨(i=l.length∧x=a)∨(i=l.length+1∧x=b)∨(i=l.length+2∧x=c):=by
  rw[List.getElem?_append]at h
  split at h
  · exact .inl ⟨by assumption,h⟩
  · rename_i hge
    obtain⟨j,hj⟩:∃ j,i=l.length+j:=⟨i - l.length,by omega⟩
    subst hj
    rw[Nat.add_sub_cancel_left]at h
    match j,h with
    | 0,h=> simp at h;exact .inr (.inl ⟨rfl,h.symm⟩)
    | 1,h=> simp at h;exact .inr (.inr (.inl ⟨rfl,h.symm⟩))
    | 2,h=> simp at h;exact .inr (.inr (.inr ⟨rfl,h.symm⟩))
    | j+3,h=> simp at h
theorem get2 {α:Type}{l:List α}{a b x:α}{i:Nat}(h:(l++ [a,b])[i]? =some x):(i < l.length∧l[i]? =some x)∨(i=l.length∧x=a)∨(i=l.length+1∧x=b):=by
  rw[List.getElem?_append]at h
  split at h
  · exact .inl ⟨by assumption,h⟩
  · rename_i hge
    obtain⟨j,hj⟩:∃ j,i=l.length+j:=⟨i - l.length,by omega⟩
    subst hj
    rw[Nat.add_sub_cancel_left]at h
    match j,h with
    | 0,h=> simp at h;exact .inr (.inl ⟨rfl,h.symm⟩)
    | 1,h=> simp at h;exact .inr (.inr ⟨rfl,h.symm⟩)
    | j+2,h=> simp at h
theorem flat_T (T:List TbS):(flC TbS.cells T).all D.flat=true:=by
  refine List.all_eq_true.2 fun d hd=> ?_
  simp only[flC,List.mem_flatten,List.mem_map]at hd
  obtain⟨l,⟨x,_,rfl⟩,hd⟩:=hd
  simp only[TbS.cells,List.mem_cons,List.not_mem_nil,or_false]at hd
  rcases hd with rfl | rfl | rfl | rfl | rfl <;> rfl
section
variable {pr:Prog}(hp:Sub nsFns pr){st:St}{p:Nat}{b:Nsb}{lab:Nat→Option Nat}{fs:Fs}{pv:List (Nat×V×List D)}{al:List (Nat×List V)}
include hp
omit hp in
theorem raw_cpT {n:Nat}{nz:Bool}{L:List D}(hn:L.length=n * 5)(hl:n≤2900000000000):RawD pr F327 [.d (.sl n nz L)] fun v s=> v= .own 5 n true L 0∧s.tips[0]? =some n:=by
  have h1:n * 48≤140737488355328:=by omega
  have h2:n≤140737488355328:=by omega
  refine .of ?_
  simp[F327,fillV,reps,ofDs,appV,vw,hn,h1,h2]
theorem callW_cpT {v:V}{T:List TbS}(h:Lst st 5 v (flC TbS.cells T))(hl:T.length≤2900000000000):CallW pr 327 [v] st fun r s=> s=st∧r= .d (.sl T.length true (flC TbS.cells T)):=by
  obtain⟨n,nz,hs,hn⟩:=h.see 0
  have hT:=flC_len cT T
  obtain rfl:n=T.length:=by omega
  refine .seen (k:=1) (as:= [.d (.sl T.length nz (flC TbS.cells T))]) (by simp only[seeA,hs]) (((raw_cpT hn (by omega)).callW (hp.at 2 rfl) rfl).mono ?_)
  rintro v s ⟨rfl,ht⟩
  simp only[FreshR,FreshV,ht,flat_T,hn,true_and]
  exact .inl ⟨rfl,trivial⟩
set_option maxHeartbeats 2000000 in
theorem callW_ownN (h:NsI st p b lab fs pv al)(hsm:b.fl.length≤1099511627776∧b.tl.length≤1099511627776){a d n m:Nat}{fv tv:V}{A:List Bnd}{T:List TbS}(ha:5≤a∧a < 20)(hd:5≤d∧d < 20)(had:a≠d)(hf:fs a=some (3,n,fv,ofDs (flC Bnd.cells A)))(hg:fs d=some (5,m,tv,ofDs (flC TbS.cells T)))(hn:n≤1099511627776)(hm:m≤1099511627776){Q:V→St→Prop}
    (hQ:∀ s b' lab' fs' pv',NsI s p b' lab' fs' pv' al→(∀ x∈pv,x∈pv')→Els lab lab' fs fs' (fun e=> e < 5∨e=a∨e=d)→(∀ e,e=a∨e=d→lab' e=Option.none∧fs' e=Option.none)→b'.fl.length=b.fl.length+3→b'.tl.length=b.tl.length+2→Q (.tup []) s):CallW pr 369 [.ptr p 0,.agg [fv,tv]] st Q:=by
  refine .run wNs (hp.at 0 rfl) rfl ?_
  rw[start_raw _ rfl]
  refine codeC_of ?_
  have hA:A.length=n:=by
    have:=(h.hp.lr a _ hf).1
    simp only[ofDs_len,flC_len cB]at this
    omega
  have hT:T.length=m:=by
    have:=(h.hp.lr d _ hg).1
    simp only[ofDs_len,flC_len cT]at this
    omega
  have of1:=h.hp.one hf
  have og1:=h.hp.one hg
  -- the names lie in a row
  obtain⟨bx,hbx⟩:∃ bx,bx=st.heap.length:=⟨_,rfl⟩
  have h0:Hq (st.push (.row [fv,tv])) p b.R lab fs pv ((bx,[fv,tv])::al):=by
    refine(h.hp.push _).alset fun x hx=> ?_
    rcases List.mem_cons.1 hx with rfl | hx
    · exact⟨by rw[hbx];exact row_push_new rfl,h.hp.apNew (by rw[hbx];exact Nat.le_refl _)⟩
    · exact⟨by rw[row_old (row_lt (h.hp.al x hx).1)];exact(h.hp.al x hx).1,(h.hp.al x hx).2⟩
  obtain⟨s0,hs0⟩:∃ s0,s0=st.push (.row [fv,tv]):=⟨_,rfl⟩
  rw[← hs0]at h0
  have hmem:(bx,[fv,tv])∈(bx,[fv,tv])::al:=List.mem_cons_self
  obtain⟨al1,hal1⟩:∃ al1,al1=(bx,[fv,tv])::al:=⟨_,rfl⟩
  have hals:∀ x∈al,x∈al1:=fun x hx=> by rw[hal1];exact List.mem_cons_of_mem _ hx
  rw[← hal1]at h0 hmem
  have hrow:=h0.row
  simp only[Nsb.R]at hrow
  have hlF:=h0.len h.f1
  obtain⟨k,hk⟩:∃ k,k=IntKind.wrap .i64 ((b.fl.length:Int)+1):=⟨_,rfl⟩
  simp[F369,wNs,← hs0,← hbx,hrow,hlF,← hk]
  refine loopNs0 hp h0 hmem (by omega) (by omega) hf hn (h.none 20 (by omega)).1 ?_
  intro e1 s1 f j1 h1 g0 g3 g4 g5
  obtain⟨lab1,fs1,h1,fa1,f1_20,E1⟩:∃ lab1 fs1,Hq s1 p b.R lab1 fs1 pv al1∧fs1 a=some (3,n,fv,ofDs (flC Bnd.cells (mkB k n)))∧fs1 20=some (3,n,f,ofDs (flC Bnd.cells (mkB k n)))∧Els lab lab1 fs fs1 (fun e=> e=a∨e=20):=
    ⟨_,_,h1,by rw[updF_ne (by omega),updF_eq],updF_eq,(Els.updF.mono fun e he=> .inl he).trans (Els.upd.mono fun e he=> .inr he)⟩
  have fd1:=(E1 d (by omega)).1.trans hg
  simp[g0,g3,g4,g5]
  refine loopNs1 hp h1 hmem (by omega) (by omega) fd1 hm ((E1 21 (by omega)).2.trans (h.none 21 (by omega)).1) ?_
  intro e2 s2 t j2 h2 k0 k3 k4 k5 k7
  obtain⟨lab2,fs2,h2,fd2,f2_21,E2⟩:∃ lab2 fs2,Hq s2 p b.R lab2 fs2 pv al1∧fs2 d=some (5,m,tv,ofDs (flC TbS.cells (mkT k m)))∧fs2 21=some (5,m,t,ofDs (flC TbS.cells (mkT k m)))∧Els lab1 lab2 fs1 fs2 (fun e=> e=d∨e=21):=
    ⟨_,_,h2,by rw[updF_ne (by omega),updF_eq],updF_eq,(Els.updF.mono fun e he=> .inl he).trans (Els.upd.mono fun e he=> .inr he)⟩
  have fa2:=(E2 a (by omega)).1.trans fa1
  have f2_20:=(E2 20 (by omega)).1.trans f1_20
  have hrow2:=(h2.al _ hmem).1
  simp only at hrow2
  -- the list of what is grown by
  have n22:lab2 22=none∧fs2 22=none:=⟨(E2 22 (by omega)).2.trans ((E1 22 (by omega)).2.trans (h.none 22 (by omega)).1),(E2 22 (by omega)).1.trans ((E1 22 (by omega)).1.trans (h.none 22 (by omega)).2)⟩
  have h3:=h2.own (a:=22) (by omega) n22.1 (sz:=3) (n:=0) (m:=0) (c:= []) (t:= []) (by simp) (by simp) (Nat.le_refl _)
  rw[List.append_nil]at h3
  obtain⟨mo,hmo⟩:∃ mo,mo=V.rsl 3 s2.heap.length 0 0 0:=⟨_,rfl⟩
  obtain⟨s3,hs3⟩:∃ s3,s3=s2.push (.row []):=⟨_,rfl⟩
  rw[← hmo,← hs3]at h3
  obtain⟨lab3,fs3,h3,f3_22,E3⟩:∃ lab3 fs3,Hq s3 p b.R lab3 fs3 pv al1∧fs3 22=some (3,0,mo,[])∧Els lab2 lab3 fs2 fs3 (fun e=> e=22):=⟨_,_,h3,updF_eq,Els.upd⟩
  simp[F369,wNs,k0,k3,k4,k5,k7,hrow2,fillV,reps,ofDs,← hs3,← hmo]
  have n23:lab3 23=none∧fs3 23=none:=⟨(E3 23 (by omega)).2.trans ((E2 23 (by omega)).2.trans ((E1 23 (by omega)).2.trans (h.none 23 (by omega)).1)),(E3 23 (by omega)).1.trans ((E2 23 (by omega)).1.trans ((E1 23 (by omega)).1.trans (h.none 23 (by omega)).2))⟩
  refine loopNs2 hp h3 (a:=a) (by omega) (by omega) (mkB_len k n) ((E3 a (by omega)).1.trans fa2) ((E3 20 (by omega)).1.trans f2_20) f3_22 n23 hn ?_
  intro e4 s4 x more lab4 fs4 h4 gx f4_22 E4 q0 q3 q4 q5 q7 q9 q10 q11
  have n24:lab4 24=none∧fs4 24=none:=⟨(E4 24 (by omega)).2.trans ((E3 24 (by omega)).2.trans ((E2 24 (by omega)).2.trans ((E1 24 (by omega)).2.trans (h.none 24 (by omega)).1))),(E4 24 (by omega)).1.trans ((E3 24 (by omega)).1.trans ((E2 24 (by omega)).1.trans ((E1 24 (by omega)).1.trans (h.none 24 (by omega)).2)))⟩
  simp[q0,q3,q4,q5,q7,q9,q10,q11]
  refine loopNs3 hp h4 (a:=d) (by omega) (by omega) (mkT_len k m) ((E4 d (by omega)).1.trans ((E3 d (by omega)).1.trans fd2)) ((E4 21 (by omega)).1.trans ((E3 21 (by omega)).1.trans f2_21)) n24 hm ?_
  intro e5 s5 y lab5 fs5 h5 gy E5 r0 r3 r5 r7 r9 r10 r11
  have EE:Els lab lab5 fs fs5 (fun e=> e=a∨e=d∨(20≤e∧e≤24)):=
    (E1.mono fun e he=> by omega).trans ((E2.mono fun e he=> by omega).trans ((E3.mono fun e he=> by omega).trans ((E4.mono fun e he=> by omega).trans (E5.mono fun e he=> by omega))))
  have hrow5:=(h5.al _ hmem).1
  simp only at hrow5
  obtain⟨gB,hgB⟩:∃ gB,gB=grwB (IntKind.wrap .i64 (0 - k)) (n+20):=⟨_,rfl⟩
  have hgl:gB.length=n+20:=by rw[hgB,grwB_len]
  rw[← hgB]at gx f4_22
  obtain⟨gT,hgT⟩:∃ gT,gT=grwT (IntKind.wrap .i64 (0 - k)) (m+20):=⟨_,rfl⟩
  have hgt:gT.length=m+20:=by rw[hgT,grwT_len]
  rw[← hgT]at gy
  have f5_22:fs5 22=some (3,n+20,more,ofDs (flC Bnd.cells gB)):=(E5 22 (by omega)).1.trans f4_22
  have hmv:vwV 3 s5 more=some (gB.length,ofDs (flC Bnd.cells gB)):=by
    obtain⟨n',v1,v2,_⟩:=((h5.lr 22 _ f5_22).lst).1.vw
    have:n'=gB.length:=by rw[flC_len cB]at v2;omega
    rw[← this];exact v1
  simp[r0,r3,r5,r7,r9,r10,r11,hrow5]
  refine GX.third cB (by omega) h5 (a:=a) (b:=23) (d:=25) (by omega) (by omega) (by omega) (by omega) (by omega) (by omega) (gx.els E5 (by omega) (by omega)) ⟨(EE 25 (by omega)).2.trans (h.none 25 (by omega)).1,(EE 25 (by omega)).1.trans (h.none 25 (by omega)).2⟩ hmv rfl (by rw[mkB_len,hgl];omega) (by rw[mkB_len,hgl];omega) ?_
  intro s6 z lab6 fs6 pv6 h6 sub6 m1 m2 m3 E6 N6
  obtain⟨lab7,fs7,pv7,h7,sub7,m4,m5,E7,N7⟩:=GX.two cT h6 (a:=d) (b:=24) (by omega) (by omega) (by omega) (gy.els E6 (by omega) (by omega))
  replace m1:=sub7 _ m1
  replace m2:=sub7 _ m2
  replace m3:=sub7 _ m3
  have sub67:∀ x∈pv,x∈pv7:=fun x hx=> sub7 x (sub6 x hx)
  have EF:Els lab lab7 fs fs7 (fun e=> e=a∨e=d∨(20≤e∧e≤25)):=(EE.mono fun e he=> by omega).trans ((E6.mono fun e he=> by omega).trans (E7.mono fun e he=> by omega))
  have f7_20:fs7 20=some (3,n,f,ofDs (flC Bnd.cells (mkB k n))):=(E7 20 (by omega)).1.trans ((E6 20 (by omega)).1.trans ((E5 20 (by omega)).1.trans ((E4 20 (by omega)).1.trans ((E3 20 (by omega)).1.trans f2_20))))
  have f7_21:fs7 21=some (5,m,t,ofDs (flC TbS.cells (mkT k m))):=(E7 21 (by omega)).1.trans ((E6 21 (by omega)).1.trans ((E5 21 (by omega)).1.trans ((E4 21 (by omega)).1.trans ((E3 21 (by omega)).1.trans f2_21))))
  have f7_22:fs7 22=some (3,n+20,more,ofDs (flC Bnd.cells gB)):=(E7 22 (by omega)).1.trans ((E6 22 (by omega)).1.trans f5_22)
  have N723:lab7 23=none∧fs7 23=none:=⟨(E7 23 (by omega)).2.trans (N6 23 (by omega)).1,(E7 23 (by omega)).1.trans (N6 23 (by omega)).2⟩
  have N725:lab7 25=none∧fs7 25=none:=⟨(E7 25 (by omega)).2.trans (N6 25 (by omega)).1,(E7 25 (by omega)).1.trans (N6 25 (by omega)).2⟩
  have N7a:lab7 a=none∧fs7 a=none:=⟨(E7 a (by omega)).2.trans (N6 a (by omega)).1,(E7 a (by omega)).1.trans (N6 a (by omega)).2⟩
  have o1:=((h7.pv _ m1).1).one
  have o2:=((h7.pv _ m2).1).one
  have o3:=((h7.pv _ m3).1).one
  have o4:=((h7.pv _ m4).1).one
  have o5:=((h7.pv _ m5).1).one
  simp only at o1 o2 o3 o4 o5
  have hrow6:=h7.row
  simp only[Nsb.R]at hrow6
  have hbx6:=(h7.al _ hmem).1
  simp only at hbx6
  have hrp6:=(h7.push (.row [fv,x,z])).row
  simp only[Nsb.R]at hrp6
  have hbp6:=((h7.push (.row [fv,x,z])).al _ hmem).1
  simp only at hbp6
  simp[wNs]
  refine drawn3 11 [0,1,2,3,4,5,6,7,8] [9,10] [] (by decide) ?_
  simp[picks,hrow6,hbx6,fillV,reps,ofDs,o1,o2,o3,lay,r0,r3,r5,r7,r9,r10,r11,hrp6,hbp6]
  have f7_1:fs7 1=some (1,b.fl.length,b.F,b.fl):=(EF 1 (by omega)).1.trans h.f1
  have f7_2:fs7 2=some (1,b.fl.length,b.W,b.wl):=(EF 2 (by omega)).1.trans h.f2
  have f7_3:fs7 3=some (1,b.tl.length,b.T,b.tl):=(EF 3 (by omega)).1.trans h.f3
  have f7_4:fs7 4=some (1,b.tl.length,b.S,b.sl):=(EF 4 (by omega)).1.trans h.f4
  refine(h7.push _).app (a:=1) (by omega) f7_1 (vwV_litM 1 3 s6 [fv,x,z] rfl) (by simp) rfl (by omega) (by omega) ?_
  intro s7 F' j7 h8 _ _
  have hrow7:=h8.row
  simp only[Nsb.R]at hrow7
  have hbx7:=(h8.al _ hmem).1
  simp only at hbx7
  have hset7:∀ cs,s7.setBlk p (.row cs)=some (s7.put p cs):=fun cs=> setBlk_put h8.fl
  have oF:=h8.one (a:=1) updF_eq
  obtain⟨h9,_⟩:=h8.put (R':= [F',b.W,b.T,b.S]) rfl
  obtain⟨s9,hs9⟩:∃ s9,s9=s7.put p [F',b.W,b.T,b.S]:=⟨_,rfl⟩
  rw[← hs9]at h9
  obtain⟨lab9,fs9,h9,f9_1,E9⟩:∃ lab9 fs9,Hq s9 p [F',b.W,b.T,b.S] lab9 fs9 pv7 al1∧fs9 1=some (1,b.fl.length+3,F',b.fl++ [fv,x,z])∧Els lab7 lab9 fs7 fs9 (fun e=> e=1):=⟨_,_,h9,updF_eq,Els.upd⟩
  simp[hrow7,hbx7,hset7,oF,← hs9]
  -- what they must hold
  have hrow9:=h9.row
  have hbx9:=(h9.al _ hmem).1
  simp only at hbx9
  have N926:lab9 26=none∧fs9 26=none:=⟨(E9 26 (by omega)).2.trans ((EF 26 (by omega)).2.trans (h.none 26 (by omega)).1),(E9 26 (by omega)).1.trans ((EF 26 (by omega)).1.trans (h.none 26 (by omega)).2)⟩
  have N927:lab9 27=none∧fs9 27=none:=⟨(E9 27 (by omega)).2.trans ((EF 27 (by omega)).2.trans (h.none 27 (by omega)).1),(E9 27 (by omega)).1.trans ((EF 27 (by omega)).1.trans (h.none 27 (by omega)).2)⟩
  have f9_20:fs9 20=some (3,n,f,ofDs (flC Bnd.cells (mkB k n))):=(E9 20 (by omega)).1.trans f7_20
  have f9_22:fs9 22=some (3,n+20,more,ofDs (flC Bnd.cells gB)):=(E9 22 (by omega)).1.trans f7_22
  have H0:HE p [F',b.W,b.T,b.S] lab9 fs9 pv7 al1 s9 none none:=⟨_,_,h9,.refl _ _ _,⟨N926.2,fun _=> N926.1⟩,N927.2,fun _=> N927.1⟩
  clear h9
  have hbn:(0+n) * 32≤140737488355328:=by omega
  have hbm:(0+n+(n+20)) * 32≤140737488355328:=by omega
  obtain⟨Mid,hMid⟩:∃ Mid:Env→St→Prop,∀ e s,Mid e s↔∃ w1 w2,HE p [F',b.W,b.T,b.S] lab9 fs9 pv7 al1 s (some (3,0+n+(n+20),w1,ofDs ([]++flC Bnd.cells (mkB k n)++flC Bnd.cells gB))) (some (3,0,w2,[]))∧e.get 122=some (.ptr p 0)∧e.get 123=some (.ptr p 0)∧e.get 124=some (.ptr p 0)∧e.get 125=some (.ptr p 1)∧e.get 126=some b.W∧e.get 127=some f∧e.get 129=some f∧e.get 131=some more∧e.get 134=some f∧e.get 136=some more∧e.get 132=some w1∧e.get 133=some w2∧e.get 0=some (.ptr p 0)∧e.get 3=some (.ptr bx 0)∧e.get 7=some t∧e.get 10=some y∧e.get 5=some f∧e.get 11=some more:=⟨_,fun _ _=> Iff.rfl⟩
  refine drawn5 18 [0,1,2,3,4,5,7,9,12,14] 11 [6,8,10] [13,15,16,17] [] _ Mid (by decide) rfl ?_ ?_
  · have A1:=H0.emp'
    have A2:=A1.emp
    have B1:=H0.emp
    have B2:=B1.emp'
    have a1:=A1.row
    have a2:=A2.row
    simp at A2 B2 a1 a2
    simp[picks,hrow9,fillV,reps,ofDs,r0,r3,r5,r7,r9,r10,r11,a1,a2]
    refine⟨A2.app (C:= []) (l:=20) (by omega) f9_20 hbn ?_,B2.app (C:= []) (l:=20) (by omega) f9_20 hbn ?_,B1.app (C:= []) (l:=20) (by omega) f9_20 hbn ?_⟩
    · intro s v h
      have r1:=h.row
      simp[r1]
      refine h.app (l:=22) (by omega) f9_22 hbm ?_
      intro s v h
      have r1:=h.row
      simp[r1,hMid]
      simpa using h
    · intro s v h
      have r1:=h.row
      simp[r1]
      refine h.app (l:=22) (by omega) f9_22 hbm ?_
      intro s v h
      have r1:=h.row
      simp[r1,hMid]
      simpa using h
    · intro s v h
      have r1:=h.row
      have h1:=h.emp'
      have r2:=h1.row
      simp[r1,r2]
      refine⟨h1.app (l:=22) (by omega) f9_22 hbm ?_,h.app (l:=22) (by omega) f9_22 hbm ?_⟩
      · intro s v h
        have r1:=h.row
        simp[r1,hMid]
        simpa using h
      · intro s v h
        have r1:=h.row
        have h1:=h.emp'
        have r2:=h1.row
        simp[r1,r2,hMid]
        simpa using h1
  · intro e s hm
    obtain⟨w1,w2,hh,u1,u2,u3,u4,u5,u6,u7,u8,u9,u10,u11,u12,u13,u14,u15,u16,u17,u18⟩:=(hMid _ _).1 hm
    have r1:=hh.row
    have hh':HE p [F',b.W,b.T,b.S] lab9 fs9 pv7 al1 s (some (3,0+n+(n+20),w1,ofDs ([]++flC Bnd.cells (mkB k n)++flC Bnd.cells gB))) (some (3,0,w2,ofDs [])):=hh
    simp[picks,u1,u2,u3,u4,u5,u6,u7,u8,u9,u10,u11,u12,u13,u14,u15,u16,u17,u18,r1]
    refine hh'.app' (l:=20) (by omega) f9_20 hbn ?_
    intro s10 v10 h10
    have r10:=h10.row
    simp[r10]
    refine h10.app' (l:=22) (by omega) f9_22 hbm ?_
    intro s11 w3 h11
    obtain⟨lab11,fs11,h11,E11,⟨g26,_⟩,g27,_⟩:=h11
    have r11':=h11.row
    have p20:=h11.one ((E11 20 (by omega)).1.trans f9_20)
    have p26:=h11.one g26
    have p27:=h11.one g27
    have hrp11:=(h11.push (.row [f,w1,w3])).row
    simp[r11',fillV,reps,ofDs,lay,p20,p26,p27,hrp11]
    refine(h11.push _).app (a:=2) (by omega) ((E11 2 (by omega)).1.trans ((E9 2 (by omega)).1.trans f7_2)) (vwV_litM 1 3 s11 [f,w1,w3] rfl) (by simp) rfl (by omega) (by omega) ?_
    intro s12 W' j12 h12 _ _
    have hrow12:=h12.row
    have hset12:∀ cs,s12.setBlk p (.row cs)=some (s12.put p cs):=fun cs=> setBlk_put h12.fl
    have oW:=h12.one (a:=2) updF_eq
    obtain⟨h13,_⟩:=h12.put (R':= [F',W',b.T,b.S]) rfl
    obtain⟨s13,hs13⟩:∃ s13,s13=s12.put p [F',W',b.T,b.S]:=⟨_,rfl⟩
    rw[← hs13]at h13
    obtain⟨lab13,fs13,h13,f13_2,E13⟩:∃ lab13 fs13,Hq s13 p [F',W',b.T,b.S] lab13 fs13 pv7 al1∧fs13 2=some (1,b.fl.length+3,W',b.wl++ [f,w1,w3])∧Els lab11 lab13 fs11 fs13 (fun e=> e=2):=⟨_,_,h13,updF_eq,Els.upd⟩
    have EG:Els lab7 lab13 fs7 fs13 (fun e=> e=1∨e=2∨e=26∨e=27):=(E9.mono fun e he=> by omega).trans ((E11.mono fun e he=> by omega).trans (E13.mono fun e he=> by omega))
    simp[hrow12,hset12,oW,lay,← hs13,u13,u14,u15,u16]
    have hrow13:=h13.row
    have hbx13:=(h13.al _ hmem).1
    simp only at hbx13
    have hrp13:=(h13.push (.row [tv,y])).row
    have hbp13:=((h13.push (.row [tv,y])).al _ hmem).1
    simp only at hbp13
    refine drawn3 10 [0,1,2,3,4,5,6,7] [8,9] [] (by decide) ?_
    simp[picks,hrow13,hbx13,fillV,reps,ofDs,o4,o5,lay,hrp13,hbp13]
    refine(h13.push _).app (a:=3) (by omega) ((EG 3 (by omega)).1.trans f7_3) (vwV_litM 1 2 s13 [tv,y] rfl) (by simp) rfl (by omega) (by omega) ?_
    intro s14 T' j14 h14 _ _
    have hrow14:=h14.row
    have hbx14:=(h14.al _ hmem).1
    simp only at hbx14
    have hset14:∀ cs,s14.setBlk p (.row cs)=some (s14.put p cs):=fun cs=> setBlk_put h14.fl
    have oT:=h14.one (a:=3) updF_eq
    obtain⟨h15,_⟩:=h14.put (R':= [F',W',T',b.S]) rfl
    obtain⟨s15,hs15⟩:∃ s15,s15=s14.put p [F',W',T',b.S]:=⟨_,rfl⟩
    rw[← hs15]at h15
    obtain⟨lab15,fs15,h15,f15_3,E15⟩:∃ lab15 fs15,Hq s15 p [F',W',T',b.S] lab15 fs15 pv7 al1∧fs15 3=some (1,b.tl.length+2,T',b.tl++ [tv,y])∧Els lab13 lab15 fs13 fs15 (fun e=> e=3):=⟨_,_,h15,updF_eq,Els.upd⟩
    simp[hrow14,hbx14,hset14,oT,lay,← hs15]
    have hrow15:=h15.row
    have f15_21:fs15 21=some (5,m,t,ofDs (flC TbS.cells (mkT k m))):=(E15 21 (by omega)).1.trans ((EG 21 (by omega)).1.trans f7_21)
    have o21:=h15.one f15_21
    refine drawn3 10 [0,1,2,3,4,5,6] [7,8,9] [] (by decide) ?_
    simp[picks,hrow15]
    refine(callW_cpT hp (h15.pv _ m5).1 (by rw[List.length_append,mkT_len,hgt];omega)).mono ?_
    rintro cv s' ⟨hs',hcv⟩
    replace hs':=hs'.symm
    subst hs'
    obtain⟨L5,hL5⟩:∃ L5,L5=mkT k m++gT:=⟨_,rfl⟩
    have hL5l:L5.length≤4398046511104:=by rw[hL5,List.length_append,mkT_len,hgt];omega
    rw[← hL5]at hcv m5
    have ocv:cv.ok1=true∧cv.cs= [cv]:=by rw[hcv];exact⟨rfl,rfl⟩
    have lcv:Lst s15 5 cv (flC TbS.cells L5):=by rw[hcv];exact⟨rfl,flC_len cT L5⟩
    have fcv:foot cv=none:=by rw[hcv];rfl
    clear hcv
    have hrp15:=(h15.push (.row [t,cv])).row
    simp[hrow15,fillV,reps,ofDs,o21,ocv,lay,hrp15]
    refine(h15.push _).app (a:=4) (by omega) ((E15 4 (by omega)).1.trans ((EG 4 (by omega)).1.trans f7_4)) (vwV_litM 1 2 s15 [t,cv] rfl) (by simp) rfl (by omega) (by omega) ?_
    intro s16 S' j16 h16 g16 _
    have hrow16:=h16.row
    have hset16:∀ cs,s16.setBlk p (.row cs)=some (s16.put p cs):=fun cs=> setBlk_put h16.fl
    have oS:=h16.one (a:=4) updF_eq
    obtain⟨h17,_⟩:=h16.put (R':= [F',W',T',S']) rfl
    obtain⟨s17,hs17⟩:∃ s17,s17=s16.put p [F',W',T',S']:=⟨_,rfl⟩
    rw[← hs17]at h17
    simp[hrow16,hset16,oS,lay,← hs17,FinW]
    obtain⟨lab17,fs17,h17,f17_4,E17⟩:∃ lab17 fs17,Hq s17 p [F',W',T',S'] lab17 fs17 pv7 al1∧fs17 4=some (1,b.tl.length+2,S',b.sl++ [t,cv])∧Els lab15 lab17 fs15 fs17 (fun e=> e=4):=⟨_,_,h17,updF_eq,Els.upd⟩
    have f17_1:fs17 1=some (1,b.fl.length+3,F',b.fl++ [fv,x,z]):=(E17 1 (by omega)).1.trans ((E15 1 (by omega)).1.trans ((E13 1 (by omega)).1.trans ((E11 1 (by omega)).1.trans f9_1)))
    have f17_2:fs17 2=some (1,b.fl.length+3,W',b.wl++ [f,w1,w3]):=(E17 2 (by omega)).1.trans ((E15 2 (by omega)).1.trans f13_2)
    have f17_3:fs17 3=some (1,b.tl.length+2,T',b.tl++ [tv,y]):=(E17 3 (by omega)).1.trans f15_3
    have f17_21:=(E17 21 (by omega)).1.trans f15_21
    have f17_20:fs17 20=some (3,n,f,ofDs (flC Bnd.cells (mkB k n))):=(E17 20 (by omega)).1.trans ((E15 20 (by omega)).1.trans ((EG 20 (by omega)).1.trans f7_20))
    have hcat: []++flC Bnd.cells (mkB k n)++flC Bnd.cells gB=flC Bnd.cells (mkB k n++gB):=by rw[List.nil_append,flC_app]
    rw[hcat]at g26 g27
    have f17_26:=(E17 26 (by omega)).1.trans ((E15 26 (by omega)).1.trans ((E13 26 (by omega)).1.trans g26))
    have f17_27:=(E17 27 (by omega)).1.trans ((E15 27 (by omega)).1.trans ((E13 27 (by omega)).1.trans g27))
    have EH:Els lab7 lab17 fs7 fs17 (fun e=> e=1∨e=2∨e=3∨e=4∨e=26∨e=27):=(EG.mono fun e he=> by omega).trans ((E15.mono fun e he=> by omega).trans (E17.mono fun e he=> by omega))
    have k1:=h17.done (a:=20) (by omega) f17_20
    have k2:=k1.done (a:=21) (by omega) (by rw[updF_ne (by omega)];exact f17_21)
    have k3:=k2.done (a:=26) (by omega) (by rw[updF_ne (by omega),updF_ne (by omega)];exact f17_26)
    have k4:=k3.done (a:=27) (by omega) (by rw[updF_ne (by omega),updF_ne (by omega),updF_ne (by omega)];exact f17_27)
    have k5:=k4.drop (a:=22) (by omega)
    have k6:=k5.prot (lcv.row (s1:=s17) fun j hj=> by rw[fcv]at hj;cases hj) (fun r hr=> by rw[fcv]at hr;cases hr) (fun _ _ e=> by rw[fcv]at e;cases e)
    have k7:=k6.alset (al':=al) fun x hx=> k6.al x (hals x hx)
    obtain⟨labZ,fsZ,pvZ,k7,EZ,NZ,subZ,z1,z2,z3,z4,z5⟩:∃ labZ fsZ pvZ,Hq s17 p [F',W',T',S'] labZ fsZ pvZ al∧Els lab17 labZ fs17 fsZ (fun e=> e=20∨e=21∨e=22∨e=26∨e=27)∧(∀ e,(e=20∨e=21∨e=22∨e=26∨e=27)→labZ e=none∧fsZ e=none)∧(∀ x∈pv7,x∈pvZ)∧(3,f,flC Bnd.cells (mkB k n))∈pvZ∧(5,t,flC TbS.cells (mkT k m))∈pvZ∧(3,w1,flC Bnd.cells (mkB k n++gB))∈pvZ∧(3,w3,flC Bnd.cells (mkB k n++gB))∈pvZ∧(5,cv,flC TbS.cells L5)∈pvZ:=by
      refine⟨_,_,_,k7,?_,?_,fun x hx=> by simp[hx],by simp,by simp,by simp,by simp,by simp⟩
      · exact(Els.upd.mono fun e he=> by omega).trans ((Els.upd.mono fun e he=> by omega).trans ((Els.upd.mono fun e he=> by omega).trans ((Els.upd.mono fun e he=> by omega).trans (Els.upd.mono fun e he=> by omega))))
      · rintro e (rfl | rfl | rfl | rfl | rfl) <;> simp[upd,updF]
    have EY:Els lab labZ fs fsZ (fun e=> e=1∨e=2∨e=3∨e=4∨e=a∨e=d∨(20≤e∧e≤27)):=(EF.mono fun e he=> by omega).trans ((EH.mono fun e he=> by omega).trans (EZ.mono fun e he=> by omega))
    have subY:∀ x∈pv,x∈pvZ:=fun x hx=> subZ x (sub67 x hx)
    have N724:lab7 24=none∧fs7 24=none:=N7 24 (by omega)
    have N7d:lab7 d=none∧fs7 d=none:=N7 d (by omega)
    have via:∀ e,lab7 e=none∧fs7 e=none→¬ (e=1∨e=2∨e=3∨e=4∨e=20∨e=21∨e=22∨e=26∨e=27)→labZ e=none∧fsZ e=none:=fun e h1 h2=> ⟨(EZ e (by omega)).2.trans ((EH e (by omega)).2.trans h1.1),(EZ e (by omega)).1.trans ((EH e (by omega)).1.trans h1.2)⟩
    have hmBl:(mkB k n).length≤4398046511104:=by rw[mkB_len];omega
    have hmTl:(mkT k m).length≤4398046511104:=by rw[mkT_len];omega
    have hBBl:(mkB k n++gB).length≤4398046511104:=by rw[List.length_append,mkB_len,hgl];omega
    have wll:b.wl.length=b.fl.length:=by have:=(h.hp.lr _ _ h.f2).1;simpa using this
    have sll:b.sl.length=b.tl.length:=by have:=(h.hp.lr _ _ h.f4).1;simpa using this
    have hnone:∀ e,20≤e→labZ e=none∧fsZ e=none:=by
      intro e he
      by_cases e1:e=20∨e=21∨e=22∨e=26∨e=27
      · exact NZ e e1
      · by_cases e2:e=23
        · subst e2;exact via 23 N723 (by omega)
        · by_cases e3:e=24
          · subst e3;exact via 24 N724 (by omega)
          · by_cases e4:e=25
            · subst e4;exact via 25 N725 (by omega)
            · obtain⟨q1,q2⟩:=EY e (by omega)
              obtain⟨q3,q4⟩:=h.none e he
              exact⟨q2.trans q3,q1.trans q4⟩
    refine hQ s17 ⟨F',W',T',S',b.fl++ [fv,x,z],b.wl++ [f,w1,w3],b.tl++ [tv,y],b.sl++ [t,cv]⟩ labZ fsZ pvZ ⟨k7,?_,?_,?_,?_,?_,?_,?_⟩ subY (fun e he=> ?_) ?_ (by simp) (by simp)
    · show fsZ 1=_
      rw[(EZ 1 (by omega)).1,f17_1];simp
    · show fsZ 2=_
      rw[(EZ 2 (by omega)).1,f17_2];simp
    · show fsZ 3=_
      rw[(EZ 3 (by omega)).1,f17_3];simp
    · show fsZ 4=_
      rw[(EZ 4 (by omega)).1,f17_4];simp
    · intro i u v hu hv
      rcases get3 hu with⟨hi,hu⟩ | ⟨rfl,rfl⟩ | ⟨rfl,rfl⟩ | ⟨rfl,rfl⟩ <;> rcases get3 hv with⟨hj,hv⟩ | ⟨hj,rfl⟩ | ⟨hj,rfl⟩ | ⟨hj,rfl⟩ <;> try (exfalso;omega)
      · exact(h.pf i u v hu hv).mono subY
      · exact⟨mkB k n,subZ _ m1,z1,hmBl⟩
      · exact⟨_,subZ _ m2,z3,hBBl⟩
      · exact⟨_,subZ _ m3,z4,hBBl⟩
    · intro i u v hu hv
      rcases get2 hu with⟨hi,hu⟩ | ⟨rfl,rfl⟩ | ⟨rfl,rfl⟩ <;> rcases get2 hv with⟨hj,hv⟩ | ⟨hj,rfl⟩ | ⟨hj,rfl⟩ <;> try (exfalso;omega)
      · exact(h.pt i u v hu hv).mono subY
      · exact⟨mkT k m,subZ _ m4,z2,hmTl⟩
      · exact⟨_,subZ _ m5,z5,hL5l⟩
    · exact hnone
    · rcases Nat.lt_or_ge e 20 with h20 | h20
      · exact EY e (by omega)
      · exact⟨(hnone e h20).2.trans (h.none e h20).2.symm,(hnone e h20).1.trans (h.none e h20).1.symm⟩
    · rintro e (rfl | rfl)
      · exact via e N7a (by omega)
      · exact via e N7d (by omega)
end
end Go.Sh
namespace Go.Sh
section
variable {pr:Prog}{st:St}
theorem Lst.seeC {α:Type}{c:α→List D}{sz:Nat}(hc:∀ x,(c x).length=sz)(hsz:0 < sz){v:V}{L:List α}(h:Lst st sz v (flC c L))(k:Nat):∃ nz,see1 st (k+1) v=some (dsl c nz L):=by
  obtain⟨n,nz,hs,hn⟩:=h.see k
  rw[flC_len hc]at hn
  have:=Nat.eq_of_mul_eq_mul_right hsz hn
  subst this
  exact⟨nz,hs⟩
theorem callW_sameF (hp:Sub r15Fns pr){v w:V}{L:List Bnd}(hl:L.length≤4398046511104)(h:Lst st 3 v (flC Bnd.cells L))(h':Lst st 3 w (flC Bnd.cells L)):CallW pr 368 [v,w] st fun r s=> s=st∧r= .d (.b true):=by
  obtain⟨a,hs⟩:=h.seeC cB (by omega) 0
  obtain⟨b,hs'⟩:=h'.seeC cB (by omega) 0
  refine .seen (k:=1) (seeA_two hs hs') (CallW.of_den (den_sameF hp (by omega) rfl rfl) ?_)
  simp[FreshR,FreshV,D.flat,pushO,V.flat]
theorem callW_sameT (hp:Sub smFns pr){v w:V}{L:List TbS}(hl:L.length≤4398046511104)(h:Lst st 5 v (flC TbS.cells L))(h':Lst st 5 w (flC TbS.cells L)):CallW pr 321 [v,w] st fun r s=> s=st∧r= .d (.b true):=by
  obtain⟨a,hs⟩:=h.seeC cT (by omega) 0
  obtain⟨b,hs'⟩:=h'.seeC cT (by omega) 0
  refine .seen (k:=1) (seeA_two hs hs') (CallW.of_den (den_smT hp (by omega) rfl rfl) ?_)
  simp[FreshR,FreshV,D.flat,pushO,V.flat]
end
section
variable {pr:Prog}(hp:Sub nsFns pr)(hr:Sub r15Fns pr)(hs:Sub smFns pr){st:St}{p:Nat}{b:Nsb}{lab:Nat→Option Nat}{fs:Fs}{pv:List (Nat×V×List D)}{al:List (Nat×List V)}
include hp hr hs
theorem callW_holdsN (h:NsI st p b lab fs pv al)(hsm:b.fl.length≤1099511627776∧b.tl.length≤1099511627776):CallW pr 370 [.ptr p 0] st fun r s=> s=st∧r= .d (.b true):=by
  refine .run wNs (hp.at 1 rfl) rfl ?_
  rw[start_raw _ rfl]
  refine codeC_of ?_
  have hrow:=h.hp.row
  simp only[Nsb.R]at hrow
  have hlF:=h.hp.len h.f1
  have hlT:=h.hp.len h.f3
  have wll:b.wl.length=b.fl.length:=by have:=(h.hp.lr _ _ h.f2).1;simpa using this
  have sll:b.sl.length=b.tl.length:=by have:=(h.hp.lr _ _ h.f4).1;simpa using this
  simp[F370,wNs]
  refine loopW_j wNs (fun n e s=> ∃ i,i≤b.fl.length∧n=b.fl.length - i∧e= [(0,.ptr p 0),(3,.d (.i .i64 (i:Nat)))]∧st=s) ?_ (n:=b.fl.length) ⟨0,Nat.zero_le _,rfl,by simp,rfl⟩
  rintro n e s ⟨i,hi,rfl,rfl,rfl⟩
  have w1:IntKind.wrap .i64 ((i:Int)+1)=i+1:=wrap_i64 (by omega) (by omega)
  rcases Nat.lt_or_ge i b.fl.length with hlt | hge
  · obtain⟨x,hx⟩:∃ x,b.fl[i]? =some x:=⟨_,List.getElem?_eq_getElem hlt⟩
    obtain⟨y,hy⟩:∃ y,b.wl[i]? =some y:=⟨_,List.getElem?_eq_getElem (by omega)⟩
    obtain⟨L,m1,m2,hL⟩:=h.pf i x y hx hy
    obtain⟨j1,c1,_,a1,a2,a3,a4⟩:=h.hp.get h.f1 i hx (k:= .i64)
    obtain⟨j2,c2,_,b1,b2,b3,b4⟩:=h.hp.get h.f2 i hy (k:= .i64)
    simp[F370_b0,wNs,hrow,hlF,hlt]
    refine drawn2 14 [] (by decide) (by decide) ?_
    simp[DetW,hrow,a1,a2,a3,a4,b1,b2,b3,b4]
    rw[if_pos (by decide)]
    refine(callW_sameF hr hL (h.hp.pv _ m1).1 (h.hp.pv _ m2).1).mono ?_
    rintro r s' ⟨e1,rfl⟩
    replace e1:=e1.symm
    subst e1
    simp[F370_b0,wNs,w1]
    exact⟨b.fl.length - (i+1),by omega,i+1,by omega,rfl,rfl⟩
  · have:i=b.fl.length:=by omega
    subst this
    simp[F370_b0,wNs,hrow,hlF]
    refine loopW_j wNs (fun n e s=> ∃ i,i≤b.tl.length∧n=b.tl.length - i∧e= [(0,.ptr p 0),(4,.d (.i .i64 (i:Nat)))]∧st=s) ?_ (n:=b.tl.length) ⟨0,Nat.zero_le _,rfl,by simp,rfl⟩
    rintro n e s ⟨i,hi,rfl,rfl,rfl⟩
    have w1:IntKind.wrap .i64 ((i:Int)+1)=i+1:=wrap_i64 (by omega) (by omega)
    rcases Nat.lt_or_ge i b.tl.length with hlt | hge
    · obtain⟨x,hx⟩:∃ x,b.tl[i]? =some x:=⟨_,List.getElem?_eq_getElem hlt⟩
      obtain⟨y,hy⟩:∃ y,b.sl[i]? =some y:=⟨_,List.getElem?_eq_getElem (by omega)⟩
      obtain⟨L,m1,m2,hL⟩:=h.pt i x y hx hy
      obtain⟨j1,c1,_,a1,a2,a3,a4⟩:=h.hp.get h.f3 i hx (k:= .i64)
      obtain⟨j2,c2,_,b1,b2,b3,b4⟩:=h.hp.get h.f4 i hy (k:= .i64)
      simp[F370_b1,wNs,hrow,hlT,hlt]
      refine drawn2 14 [] (by decide) (by decide) ?_
      simp[DetW,hrow,a1,a2,a3,a4,b1,b2,b3,b4]
      rw[if_pos (by decide)]
      refine(callW_sameT hs hL (h.hp.pv _ m1).1 (h.hp.pv _ m2).1).mono ?_
      rintro r s' ⟨e1,rfl⟩
      replace e1:=e1.symm
      subst e1
      simp[F370_b1,wNs,w1]
      exact⟨b.tl.length - (i+1),by omega,i+1,by omega,rfl,rfl⟩
    · have:i=b.tl.length:=by omega
      subst this
      simp[F370_b1,wNs,hrow,hlT]
      simp[FinW]
end
end Go.Sh
