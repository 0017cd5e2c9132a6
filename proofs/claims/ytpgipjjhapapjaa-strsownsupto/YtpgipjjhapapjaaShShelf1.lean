/- Part of the proof. -/
import Derived.Test.YtpgipjjhapapjaaShLbook1
import Derived.Test.YtpgipjjhapapjaaShLstrs1
set_option linter.unusedVariables false
set_option linter.unusedSimpArgs false
namespace Go.Sh
def Lst (st:St)(sz:Nat)(v:V)(L:List D):Prop:=match v with
  | .d (.sl n _ cs)=> cs=L∧L.length=n * sz
  | .rsl s id off n _=> s=sz∧off=0∧L.length=n * sz∧∃ c,st.row id=some c∧n * sz≤c.length∧c.take (n * sz)=ofDs L
  | _=> False
section
variable {st s1:St}{A:Nat→Prop}{P:V→Prop}{v:V}{sz:Nat}{L:List D}
theorem Lst.lt (h:Lst st sz v L){j:Nat}(hj:foot v=some j):j < st.heap.length:=by
  cases v with
  | rsl s id off n cap=>
    obtain⟨_,_,_,c,h1,_⟩:=h
    obtain rfl:=Option.some.inj hj
    exact row_lt h1
  | _=> cases hj
theorem Lst.row (h:Lst st sz v L)(he:∀ j,foot v=some j→s1.row j=st.row j):Lst s1 sz v L:=by
  cases v with
  | rsl s id off n cap=>
    obtain⟨h1,h2,h3,c,h4,h5⟩:=h
    exact⟨h1,h2,h3,c,(he id rfl).trans h4,h5⟩
  | d d=> cases d <;> exact h
  | _=> exact h
theorem Lst.gr (h:Lst st sz v L)(g:Gr st s1 A P)(ha:∀ j,foot v=some j→¬ A j):Lst s1 sz v L:=h.row fun j hj=> g.keep j (h.lt hj) (ha j hj)
theorem Lst.one (h:Lst st sz v L):v.ok1=true∧v.cs= [v]:=by
  cases v with
  | d d=> exact⟨rfl,rfl⟩
  | rsl s id off n cap=> exact⟨rfl,rfl⟩
  | _=> exact h.elim
theorem LR.lst {n:Nat}{j:Option Nat}(h:LR st sz v n (ofDs L) j):Lst st sz v L∧foot v=j∧L.length=n * sz:=by
  obtain⟨h0,⟨rfl,rfl,rfl⟩ | ⟨j0,cap,tail,rfl,rfl,h1,h2,h3⟩⟩:=h
  · rw[ofDs_len,Nat.zero_mul]at h0
    have:L= []:=List.eq_nil_of_length_eq_zero h0
    subst this
    exact⟨⟨rfl,by simp⟩,rfl,by simp⟩
  · have h0':L.length=n * sz:=by rw[← ofDs_len];exact h0
    exact⟨⟨rfl,rfl,h0',_,h2,by rw[List.length_append];omega,by rw[← h0,List.take_left' rfl]⟩,rfl,h0'⟩
theorem Lst.see (h:Lst st sz v L)(k:Nat):∃ n nz,see1 st (k+1) v=some (.d (.sl n nz L))∧L.length=n * sz:=by
  cases v with
  | d d=>
    cases d with
    | sl n nz cs=> obtain⟨rfl,h⟩:=h;exact⟨n,nz,rfl,h⟩
    | _=> exact h.elim
  | rsl s id off n cap=>
    obtain⟨rfl,rfl,h3,c,h4,h5,h6⟩:=h
    refine⟨n,true,?_,h3⟩
    simp only[see1,seeD,h4,Nat.zero_add,h5,if_true,List.drop_zero,h6,seeL_ofDs,Option.map_some]
  | _=> exact h.elim
end
/-! ### Labels, with what their rows hold -/
def updF {α:Type}(f:Nat→α)(a:Nat)(x:α):Nat→α:=fun c=> if c=a then x else f c
theorem updF_eq {α:Type}{f:Nat→α}{a:Nat}{x:α}:updF f a x a=x:=by simp[updF]
theorem updF_ne {α:Type}{f:Nat→α}{a c:Nat}{x:α}(h:c≠a):updF f a x c=f c:=by simp[updF,h]
theorem updF_updF {α:Type}{f:Nat→α}{a:Nat}{x y:α}:updF (updF f a x) a y=updF f a y:=by
  funext c
  by_cases h:c=a <;> simp[updF,h]
theorem upd_self {f:Nat→Option Nat}{a:Nat}:upd f a (f a)=f:=by
  funext c
  by_cases h:c=a <;> simp[upd,h]
abbrev Fs:=Nat→Option (Nat×Nat×V×List V)
end Go.Sh
namespace Go.Sh
theorem u8_ofB (z:Int):∃ y:UInt8,IntKind.wrap .u8 z=y.toNat:=by
  have h:0≤IntKind.wrap .u8 z∧IntKind.wrap .u8 z < 256:=by
    simp only[IntKind.wrap,IntKind.bits,IntKind.signed]
    exact⟨Int.emod_nonneg _ (by decide),Int.emod_lt_of_pos _ (by decide)⟩
  refine⟨UInt8.ofNat (IntKind.wrap .u8 z).toNat,?_⟩
  rw[UInt8.toNat_ofNat']
  omega
end Go.Sh
namespace Go.Sh
structure Hq (s:St)(p:Nat)(R:List V)(lab:Nat→Option Nat)(fs:Fs)(Pv:List (Nat×V×List D))(Al:List (Nat×List V)):Prop where
  fl:s.floor=0
  row:s.row p=some R
  p0:lab 0=some p
  f0:fs 0=none
  lr:∀ a x,fs a=some x→LR s x.1 x.2.2.1 x.2.1 x.2.2.2 (lab a)
  labs:Labs s lab
  pv:∀ x∈Pv,Lst s x.1 x.2.1 x.2.2∧Free lab x.2.1
  al:∀ x∈Al,s.row x.1=some x.2∧(∀ a,lab a≠some x.1)∧∀ y∈Pv,foot y.2.1≠some x.1
section
variable {s s':St}{p:Nat}{R:List V}{lab:Nat→Option Nat}{fs:Fs}{pv:List (Nat×V×List D)}{al:List (Nat×List V)}{A:Nat→Prop}{P:V→Prop}
theorem Hq.grS (h:Hq s p R lab fs pv al)(g:Gr s s' A P){fs':Fs}(S:Nat→Prop)(h0:¬ S 0)(hA:∀ r,r < s.heap.length→A r→∃ a,S a∧lab a=some r)
    (hf:∀ a x,fs' a=some x→(fs a=some x∧¬ S a)∨(a≠0∧LR s' x.1 x.2.2.1 x.2.1 x.2.2.2 (lab a))):Hq s' p R lab fs' pv al:=by
  have hl:∀ a,¬ S a→∀ r,lab a=some r→¬ A r:=by
    intro a ha r hr hAr
    obtain⟨d,hd,hd2⟩:=hA r (h.labs.lt a r hr) hAr
    exact ha (h.labs.sep a d r hr hd2 ▸ hd)
  refine⟨g.floor.trans h.fl,(g.keep p (row_lt h.row) (hl 0 h0 p h.p0)).trans h.row,h.p0,?_,?_,h.labs.mono g.len,?_,fun x hx=> ?_⟩
  rotate_right
  · obtain⟨h1,h2,h3⟩:=h.al x hx
    refine⟨(g.keep x.1 (row_lt h1) fun hAr=> ?_).trans h1,h2,h3⟩
    obtain⟨d,_,hd⟩:=hA x.1 (row_lt h1) hAr
    exact h2 d hd
  · cases hx:fs' 0 with
    | none=> rfl
    | some x=>
      rcases hf 0 x hx with⟨h1,_⟩ | ⟨h1,_⟩
      · rw[h.f0]at h1;cases h1
      · exact(h1 rfl).elim
  · intro a x hx
    rcases hf a x hx with⟨h1,h2⟩ | ⟨_,h2⟩
    · exact(h.lr a x h1).gr g fun r hr=> hl a h2 r hr
    · exact h2
  · intro x hx
    obtain⟨h1,h2⟩:=h.pv x hx
    refine⟨h1.gr g fun r hr hAr=> ?_,h2⟩
    obtain⟨d,_,hd⟩:=hA r (h1.lt hr) hAr
    exact h2 r hr d hd
theorem Hq.new (h:Hq s p R lab fs pv al)(g:Gr s s' A P)(hA:∀ r,r < s.heap.length→¬ A r):Hq s' p R lab fs pv al:=
  h.grS g (fun _=> False) (fun h=> h) (fun r hr h=> (hA r hr h).elim) fun a x hx=> .inl ⟨hx,fun h=> h⟩
theorem Hq.push (h:Hq s p R lab fs pv al)(b:Blk):Hq (s.push b) p R lab fs pv al:=h.new (A:=fun _=> False) (P:=fun _=> True) (.push b) fun _ _ h=> h
def LoneQ (s:St)(lab:Nat→Option Nat)(pv:List (Nat×V×List D))(al:List (Nat×List V))(a:Nat)(j:Option Nat):Prop:=∀ r,j=some r→r < s.heap.length∧(lab a=some r∨((∀ c,lab c≠some r)∧(∀ x∈pv,foot x.2.1≠some r)∧∀ x∈al,x.1≠r))
theorem Hq.lone (h:Hq s p R lab fs pv al)(hl:s.heap.length≤s'.heap.length){a:Nat}{j:Option Nat}(hn:NewOr s s' (lab a) j):LoneQ s' lab pv al a j:=by
  intro r hr
  rcases hn with rfl | ⟨i,rfl,h1,h2⟩
  · exact⟨Nat.lt_of_lt_of_le (h.labs.lt a r hr) hl,.inl hr⟩
  · obtain rfl:=Option.some.inj hr
    refine⟨h2,.inr ⟨fun c hc=> ?_,fun x hx hc=> ?_,fun x hx hc=> ?_⟩⟩
    · have:=h.labs.lt c _ hc;omega
    · have:=(h.pv x hx).1.lt hc;omega
    · have:=row_lt (h.al x hx).1;omega
theorem Hq.set (h:Hq s p R lab fs pv al){a:Nat}(ha:a≠0){j:Option Nat}(hj:LoneQ s lab pv al a j){sz n:Nat}{v:V}{c:List V}(hl:LR s sz v n c j)(hfa:∀ b,b≠a→∀ r,j=some r→lab b≠some r):Hq s p R (upd lab a j) (updF fs a (some (sz,n,v,c))) pv al:=by
  refine⟨h.fl,h.row,by rw[upd_ne (Ne.symm ha)];exact h.p0,by rw[updF_ne (Ne.symm ha)];exact h.f0,?_,⟨?_,?_⟩,?_,fun x hx=> ?_⟩
  rotate_right
  · obtain⟨h1,h2,h3⟩:=h.al x hx
    refine⟨h1,fun b hb=> ?_,h3⟩
    by_cases hba:b=a
    · subst hba;rw[upd_eq]at hb
      rcases(hj _ hb).2 with h4 | ⟨_,_,h4⟩
      · exact h2 _ h4
      · exact h4 x hx rfl
    · rw[upd_ne hba]at hb;exact h2 b hb
  · intro b x hx
    by_cases hb:b=a
    · subst hb
      rw[updF_eq]at hx
      obtain rfl:=Option.some.inj hx
      rw[upd_eq]
      exact hl
    · rw[updF_ne hb]at hx
      rw[upd_ne hb]
      exact h.lr b x hx
  · intro b r hr
    by_cases hb:b=a
    · subst hb;rw[upd_eq]at hr;exact(hj r hr).1
    · rw[upd_ne hb]at hr;exact h.labs.lt b r hr
  · intro b d r hb hd
    by_cases hba:b=a <;> by_cases hda:d=a
    · rw[hba,hda]
    · subst hba;rw[upd_eq]at hb;rw[upd_ne hda]at hd
      exact absurd hd (hfa d hda r hb)
    · subst hda;rw[upd_eq]at hd;rw[upd_ne hba]at hb
      exact absurd hb (hfa b hba r hd)
    · rw[upd_ne hba]at hb;rw[upd_ne hda]at hd
      exact h.labs.sep b d r hb hd
  · intro x hx
    obtain⟨h1,h2⟩:=h.pv x hx
    refine⟨h1,fun r hr b hb=> ?_⟩
    by_cases hba:b=a
    · subst hba;rw[upd_eq]at hb
      rcases(hj r hb).2 with h3 | ⟨_,h3,_⟩
      · exact h2 r hr _ h3
      · exact h3 x hx hr
    · rw[upd_ne hba]at hb
      exact h2 r hr b hb
theorem Hq.sepNew (h:Hq s p R lab fs pv al){a:Nat}{j:Option Nat}(hn:NewOr s s' (lab a) j):∀ b,b≠a→∀ r,j=some r→lab b≠some r:=by
  intro b hb r hr e
  rcases hn with rfl | ⟨i,rfl,h1,_⟩
  · exact hb (h.labs.sep b a r e hr)
  · obtain rfl:=Option.some.inj hr
    have:=h.labs.lt b _ e;omega
theorem Hq.at (h:Hq s p R lab fs pv al){a:Nat}(ha:a≠0){sz n:Nat}{v:V}{c:List V}{j:Option Nat}(g:Gr s s' (fun r=> lab a=some r) P)(hl:LR s' sz v n c j)(hn:NewOr s s' (lab a) j):Hq s' p R (upd lab a j) (updF fs a (some (sz,n,v,c))) pv al:=by
  have h1:Hq s' p R lab (updF fs a none) pv al:=h.grS g (fun b=> b=a) (fun e=> ha e.symm) (fun r _ hr=> ⟨a,rfl,hr⟩) fun b x hx=> by
    by_cases hb:b=a
    · subst hb;rw[updF_eq]at hx;cases hx
    · rw[updF_ne hb]at hx;exact .inl ⟨hx,hb⟩
  have h2:=h1.set ha (h.lone g.len hn) hl (h.sepNew hn)
  rwa [updF_updF]at h2
theorem Hq.app (h:Hq s p R lab fs pv al){a:Nat}(ha:a≠0){sz n:Nat}{v:V}{c:List V}(hf:fs a=some (sz,n,v,c)){x:V}{m:Nat}{ys:List V}(hx:vwV sz s x=some (m,ys))(hy:ys.length=m * sz){zero:List D}{bytes:Nat}(hz:zero.length=sz)(hb:(n+m) * bytes≤140737488355328)(hn:n+m≤140737488355328){Q:V→St→Prop}
    (hQ:∀ s' v' j',Hq s' p R (upd lab a j') (updF fs a (some (sz,n+m,v',c++ys))) pv al→Gr s s' (fun r=> lab a=some r) (· ∈ys)→NewOr s s' (lab a) j'→Q v' s'):appW sz bytes zero s v x Q:=by
  refine appW_LR h.fl (h.lr a _ hf) hx hy hz hb hn ?_
  intro s1 v1 j1 hl g hn1
  exact hQ s1 v1 j1 (h.at ha g hl hn1) g hn1
theorem Hq.prot (h:Hq s p R lab fs pv al){z:Nat}{v:V}{L:List D}(hv:Lst s z v L)(hf:Free lab v)(ha:∀ x∈al,foot v≠some x.1):Hq s p R lab fs ((z,v,L)::pv) al:=
  ⟨h.fl,h.row,h.p0,h.f0,h.lr,h.labs,fun x hx=> by
    cases hx with
    | head=> exact⟨hv,hf⟩
    | tail _ hx=> exact h.pv x hx,fun x hx=> ⟨(h.al x hx).1,(h.al x hx).2.1,fun y hy=> by
    cases hy with
    | head=> exact ha x hx
    | tail _ hy=> exact(h.al x hx).2.2 y hy⟩⟩
theorem Hq.drop (h:Hq s p R lab fs pv al){a:Nat}(ha:a≠0):Hq s p R (upd lab a none) (updF fs a none) pv al:=
  ⟨h.fl,h.row,by rw[upd_ne (Ne.symm ha)];exact h.p0,by rw[updF_ne (Ne.symm ha)];exact h.f0,fun b x hx=> by
    by_cases hb:b=a
    · subst hb;rw[updF_eq]at hx;cases hx
    · rw[updF_ne hb]at hx;rw[upd_ne hb];exact h.lr b x hx,h.labs.drop a,fun x hx=> ⟨(h.pv x hx).1,(h.pv x hx).2.drop a⟩,fun x hx=> ⟨(h.al x hx).1,fun b hb=> by
    by_cases hba:b=a
    · subst hba;rw[upd_eq]at hb;cases hb
    · rw[upd_ne hba]at hb;exact(h.al x hx).2.1 b hb,(h.al x hx).2.2⟩⟩
theorem Hq.free (h:Hq s p R lab fs pv al){a:Nat}{v:V}(hv:foot v=lab a):Free (upd lab a none) v:=by
  intro r hr c hc
  by_cases hca:c=a
  · subst hca;rw[upd_eq]at hc;cases hc
  · rw[upd_ne hca]at hc
    exact hca (h.labs.sep c a r hc (by rw[← hv,hr]))
theorem Hq.done (h:Hq s p R lab fs pv al){a z n:Nat}(ha:a≠0){v:V}{L:List D}(hf:fs a=some (z,n,v,ofDs L)):Hq s p R (upd lab a none) (updF fs a none) ((z,v,L)::pv) al:=by
  obtain⟨h1,h2,_⟩:=(h.lr a _ hf).lst
  exact(h.drop ha).prot h1 (h.free h2) fun x hx e=> (h.al x hx).2.1 a (by rw[← h2];exact e)
theorem Hq.put (h:Hq s p R lab fs pv al){R':List V}(hl:R'.length=R.length):Hq (s.put p R') p R' lab fs pv al∧Gr s (s.put p R') (fun r=> r=p) (fun _=> True):=by
  have g:Gr s (s.put p R') (fun r=> r=p) (fun _=> True):= .put h.row hl rfl fun _ _ _=> .inr trivial
  have hne:∀ a,fs a≠none→∀ r,lab a=some r→r≠p:=by
    rintro a ha r hr rfl
    have:=h.labs.sep a 0 r hr h.p0
    subst this
    exact ha h.f0
  refine⟨⟨h.fl,row_put_eq (row_lt h.row),h.p0,h.f0,fun a x hx=> (h.lr a x hx).row fun r hr=> row_put_ne (hne a (by rw[hx];simp) r hr),h.labs.mono g.len,fun x hx=> ⟨(h.pv x hx).1.row fun r hr=> row_put_ne fun e=> (h.pv x hx).2 r hr 0 (by rw[e];exact h.p0),(h.pv x hx).2⟩,fun x hx=> ⟨(row_put_ne fun e=> (h.al x hx).2.1 0 (by rw[e];exact h.p0)).trans (h.al x hx).1,(h.al x hx).2⟩⟩,g⟩
theorem Hq.nil (h:Hq s p R lab fs pv al){a:Nat}(ha:a≠0){sz:Nat}:Hq s p R (upd lab a none) (updF fs a (some (sz,0,.d (.sl 0 false []),[]))) pv al:=
  h.set ha (fun r hr=> by cases hr) (.nil s sz) fun b _ r hr=> by cases hr
theorem Hq.get (h:Hq s p R lab fs pv al){a n:Nat}{v:V}{c:List V}(hf:fs a=some (1,n,v,c))(i:Nat){x:V}(hx:c[i]? =some x){k:IntKind}:∃ j0 c',lab a=some j0∧iaddrV 1 v (.d (.i k (i:Int)))=some (.ptr j0 i)∧s.row j0=some c'∧i+1≤c'.length∧(c'.drop i).take 1= [x]:=(h.lr a _ hf).get i hx
theorem Hq.len (h:Hq s p R lab fs pv al){a sz n:Nat}{v:V}{c:List V}(hf:fs a=some (sz,n,v,c)):lenV v=some n:=(h.lr a _ hf).len
theorem Hq.one (h:Hq s p R lab fs pv al){a sz n:Nat}{v:V}{c:List V}(hf:fs a=some (sz,n,v,c)):v.ok1=true∧v.cs= [v]:=by
  obtain⟨_,⟨_,hv,_⟩ | ⟨j0,cap,tail,_,hv,_⟩⟩:=h.lr a _ hf <;> (simp only at hv;rw[hv];exact⟨rfl,rfl⟩)
theorem Hq.write (h:Hq s p R lab fs pv al){a sz n:Nat}(ha:a≠0){v:V}{c:List V}(hf:fs a=some (sz,n,v,c)){k:Nat}(hk:k < n){ys:List V}(hy:ys.length=sz):∃ j0 c',lab a=some j0∧iaddrV sz v (.d (.i .i64 (k:Int)))=some (.ptr j0 (k * sz))∧s.row j0=some c'∧k * sz+sz≤c'.length∧c.length=n * sz∧
    Hq (s.put j0 (lay c' (k * sz) ys)) p R lab (updF fs a (some (sz,n,v,lay c (k * sz) ys))) pv al∧Gr s (s.put j0 (lay c' (k * sz) ys)) (fun r=> lab a=some r) (· ∈ys):=by
  have hl:=h.lr a _ hf
  obtain⟨j0,h1,h2⟩:=hl.iaddr (k:= .i64) hk
  obtain⟨h0,⟨h3,_⟩ | ⟨j1,cap,tail,h3,hv,hc,hrow,ht⟩⟩:=hl
  · rw[h1]at h3;cases h3
  · rw[h1]at h3
    obtain rfl:=Option.some.inj h3
    simp only at h0 hrow hv hc ht h2
    have hks:k * sz+sz≤n * sz:=by
      have:=Nat.mul_le_mul_right sz hk
      rw[Nat.succ_mul]at this
      exact this
    have hlen:k * sz+sz≤(c++tail).length:=by rw[List.length_append];omega
    have hlay:lay (c++tail) (k * sz) ys=lay c (k * sz) ys++tail:=by
      unfold lay
      rw[List.take_append_of_le_length (by omega),List.drop_append_of_le_length (by omega)]
      simp
    have hlc:(lay c (k * sz) ys).length=n * sz:=by rw[lay_len' (by omega)];exact h0
    have g:Gr s (s.put j0 (lay (c++tail) (k * sz) ys)) (fun r=> lab a=some r) (· ∈ys):= .put hrow (lay_len' (by omega)) h1 fun i x hx=> lay_get hx (by omega)
    refine⟨j0,_,h1,h2,hrow,hlen,h0,?_,g⟩
    have hh:=h.at ha g (sz:=sz) (n:=n) (v:=v) (c:=lay c (k * sz) ys) (j:=lab a) ⟨hlc,.inr ⟨j0,cap,tail,h1,hv,hc,by rw[row_put_eq (row_lt hrow),hlay],ht⟩⟩ (.inl rfl)
    rwa [upd_self]at hh
end
def Ap' (lab:Nat→Option Nat)(pv:List (Nat×V×List D))(r:Nat):Prop:=(∀ a,lab a≠some r)∧∀ y∈pv,foot y.2.1≠some r
section
variable {s s':St}{p:Nat}{R:List V}{lab:Nat→Option Nat}{fs:Fs}{pv:List (Nat×V×List D)}{al al':List (Nat×List V)}
theorem Hq.alset (h:Hq s p R lab fs pv al)(ha:∀ x∈al',s.row x.1=some x.2∧Ap' lab pv x.1):Hq s p R lab fs pv al':=⟨h.fl,h.row,h.p0,h.f0,h.lr,h.labs,h.pv,ha⟩
theorem Hq.apNew (h:Hq s p R lab fs pv al){r:Nat}(hr:s.heap.length≤r):Ap' lab pv r:=⟨fun a e=> by have:=h.labs.lt a r e;omega,fun y hy e=> by have:=(h.pv y hy).1.lt e;omega⟩
end
end Go.Sh
namespace Go.Sh
section
variable {st:St}{sz n:Nat}{v:V}{cells:List V}{j:Option Nat}
theorem appW_LR3 {x:V}{m:Nat}{ys:List V}{zero:List D}{bytes:Nat}{Q:V→St→Prop}(hf:st.floor=0)(h:LR st sz v n cells j)(hx:vwV sz st x=some (m,ys))(hy:ys.length=m * sz)(hz:zero.length=sz)(hb:(n+m) * bytes≤140737488355328)(hn:n+m≤140737488355328)
    (hQ1:∀ st' v',LR st' sz v' (n+m) (cells++ys) j→Gr st st' (fun i=> j=some i) (· ∈ys)→Q v' st')
    (hQ2:∀ st' v' r,LR st' sz v' (n+m) (cells++ys) (some r)→Gr st st' (fun _=> False) (· ∈ys)→st.heap.length≤r→r < st'.heap.length→Q v' st'):appW sz bytes zero st v x Q:=by
  have hl:=h.1
  have hreps:∀ k,(ofDs (reps k zero)).length=k * sz:=fun k=> by rw[ofDs,List.length_map,reps_len,hz]
  have hlen:(cells++ys).length=(n+m) * sz:=by rw[List.length_append,hl,hy,Nat.add_mul]
  obtain⟨_,⟨rfl,rfl,rfl⟩ | ⟨j0,cap,tail,rfl,rfl,hcap,hrow,htl⟩⟩:=h
  · have hc0:cells= []:=List.eq_nil_of_length_eq_zero (by simpa using hl)
    subst hc0
    refine⟨m,ys,hx,hy,by simpa using hb,by simpa using hn,fun hm=> ?_,fun hm k=> ?_⟩
    · subst hm
      have:ys= []:=List.eq_nil_of_length_eq_zero (by simpa using hy)
      subst this
      exact hQ1 st _ ⟨by simp,.inl ⟨rfl,rfl,rfl⟩⟩ (.refl _ _ _)
    · refine hQ2 _ _ st.heap.length ⟨hlen,.inr ⟨st.heap.length,m+k,ofDs (reps k zero),rfl,by simp,by simp,?_,?_⟩⟩ (.push _) (Nat.le_refl _) (by simp)
      · rw[row_push_new rfl]
        rfl
      · rw[hreps,Nat.zero_add,Nat.add_mul]
        omega
  · have hfit:n * sz≤(cells++tail).length:=by rw[List.length_append];omega
    have hclen:(cells++tail).length=cap * sz:=by rw[List.length_append];omega
    refine⟨rfl,cells++tail,m,ys,hrow,hx,hy,by rw[hclen];simp,hb,hn,fun _ hm=> ?_,fun hroom hm=> ?_,fun hroom k=> ?_⟩
    · subst hm
      have:ys= []:=List.eq_nil_of_length_eq_zero (by simpa using hy)
      subst this
      exact hQ1 st _ ⟨by simpa using hl,.inr ⟨j0,cap,tail,rfl,rfl,hcap,by simpa using hrow,htl⟩⟩ (.refl _ _ _)
    · have hms:(n+m) * sz≤cap * sz:=Nat.mul_le_mul_right _ hroom
      rw[Nat.add_mul]at hms
      refine⟨_,setBlk_put hf,hQ1 _ _ ⟨hlen,.inr ⟨j0,cap,tail.drop (m * sz),rfl,rfl,hroom,?_,?_⟩⟩ (.put hrow (lay_len' (by rw[hclen,hy];omega)) rfl fun k x hk=> lay_get hk (by rw[hclen];omega))⟩
      · rw[row_put_eq (row_lt hrow),Nat.zero_add]
        unfold lay
        rw[← hl,List.take_left',List.drop_append,List.drop_of_length_le (by omega),hy,show cells.length+m * sz - cells.length=m * sz by omega]
        · simp
        · rfl
      · rw[List.length_drop,Nat.add_mul]
        omega
    · refine hQ2 _ _ st.heap.length ⟨hlen,.inr ⟨st.heap.length,n+m+k,ofDs (reps k zero),rfl,by simp,by simp,?_,?_⟩⟩ (.push _) (Nat.le_refl _) (by simp)
      · rw[row_push_new rfl,List.drop_zero,← hl,List.take_left' rfl]
      · rw[hreps,Nat.add_mul (n+m)]
        omega
end
def Sub' (sz:Nat)(v:V)(n:Nat)(w:V)(m:Nat):Prop:=(v= .d (.sl 0 false [])∧n=0)∨∃ j cap,v= .rsl sz j 0 n cap∧w= .rsl sz j 0 m cap∧n≤m∧m≤cap
section
variable {s s':St}{sz n m k:Nat}{v w u:V}{c C ys:List V}{j:Option Nat}
theorem LR.self (h:LR s sz v n c j):Sub' sz v n v n:=by
  obtain⟨_,⟨_,h1,h2⟩ | ⟨j0,cap,tail,_,h1,h2,_⟩⟩:=h
  · exact .inl ⟨h1,h2⟩
  · exact .inr ⟨j0,cap,h1,h1,Nat.le_refl _,h2⟩
theorem LR.subq (h:LR s sz w m C j)(hs:Sub' sz v n w m):∃ j',(v= .d (.sl 0 false [])∧n=0∧j'=none∨j'=j)∧n≤m∧LR s sz v n (C.take (n * sz)) j':=by
  rcases hs with⟨rfl,rfl⟩ | ⟨j0,cap,rfl,rfl,h1,h2⟩
  · exact⟨none,.inl ⟨rfl,rfl,rfl⟩,Nat.zero_le _,by simpa using LR.nil s sz⟩
  · obtain⟨h0,⟨_,h3,_⟩ | ⟨j1,cap1,tail,rfl,h3,h4,h5,h6⟩⟩:=h
    · cases h3
    · simp only[V.rsl.injEq,true_and]at h3
      obtain⟨rfl,rfl⟩:=h3
      have hle:=Nat.mul_le_mul_right sz h1
      refine⟨some j0,.inr rfl,h1,by rw[List.length_take];omega,.inr ⟨j0,cap,C.drop (n * sz)++tail,rfl,rfl,by omega,?_,?_⟩⟩
      · rw[← List.append_assoc,List.take_append_drop];exact h5
      · rw[List.length_append,List.length_drop];omega
theorem LR.inplace {A:Nat→Prop}{P:V→Prop}(hsz:0 < sz)(h:LR s sz v n c j)(h':LR s' sz w m (c++ys) j)(hnm:n≤m)(g:Gr s s' A P):Sub' sz v n w m:=by
  obtain⟨h0,⟨rfl,h1,h2⟩ | ⟨j0,cap,tail,rfl,rfl,h2,h3,h4⟩⟩:=h
  · exact .inl ⟨h1,h2⟩
  · obtain⟨k0,⟨k1,_⟩ | ⟨j1,cap1,tail1,k1,rfl,k2,k3,k4⟩⟩:=h'
    · cases k1
    · obtain rfl:=Option.some.inj k1
      obtain⟨c',e1,e2,_⟩:=g.cell j0 _ h3
      rw[k3]at e1
      obtain rfl:=Option.some.inj e1
      simp only[List.length_append]at e2 k0
      have:cap * sz=cap1 * sz:=by omega
      have:=Nat.eq_of_mul_eq_mul_right hsz this
      subst this
      exact .inr ⟨j0,cap,rfl,rfl,hnm,k2⟩
end
section
variable {s s':St}{p:Nat}{R:List V}{lab:Nat→Option Nat}{fs:Fs}{pv:List (Nat×V×List D)}{al:List (Nat×List V)}
theorem Hq.growS (h:Hq s p R lab fs pv al){a b:Nat}(ha:a≠0)(hb0:b≠0){sz n m0 m:Nat}(hsz:0 < sz){v w x:V}{C ys:List V}(hf:fs a=some (sz,m0,w,C))(hsub:Sub' sz v n w m0)(hx:vwV sz s x=some (m,ys))(hy:ys.length=m * sz){zero:List D}{bytes:Nat}(hz:zero.length=sz)(hb:(n+m) * bytes≤140737488355328)(hn:n+m≤140737488355328)
    (hlb:lab b=none) {Q:V→St→Prop}
    (hA:∀ s' v',Hq s' p R lab (updF fs a (some (sz,n+m,v',C.take (n * sz)++ys))) pv al→Gr s s' (fun r=> lab a=some r) (· ∈ys)→(∀ u k,Sub' sz u k w m0→k≤n+m→Sub' sz u k v' (n+m))→Q v' s')
    (hB:∀ s' v' j',Hq s' p R (upd lab b j') (updF fs b (some (sz,n+m,v',C.take (n * sz)++ys))) pv al→Gr s s' (fun r=> lab a=some r) (· ∈ys)→NewOr s s' none j'→Q v' s'):appW sz bytes zero s v x Q:=by
  have hla:=h.lr a _ hf
  simp only at hla
  obtain⟨j',hj',hnm,hlv⟩:=hla.subq hsub
  refine appW_LR3 h.fl hlv hx hy hz hb hn ?_ ?_
  · intro s1 g1 hl gr
    rcases hj' with⟨rfl,rfl,rfl⟩ | rfl
    · have hm0:m=0∧g1= .d (.sl 0 false []):=by
        obtain⟨_,⟨_,h1,h2⟩ | ⟨_,_,_,h1,_⟩⟩:=hl
        · exact⟨by omega,h1⟩
        · cases h1
      obtain⟨rfl,rfl⟩:=hm0
      have hh:Hq s1 p R lab fs pv al:=h.new (gr.mono (A':=fun _=> False) (fun i _ e=> by cases e) fun _ h=> h) fun _ _ e=> e
      exact hB s1 _ none (hh.set (a:=b) hb0 (j:=none) (fun r hr=> by cases hr) hl (fun _ _ r hr=> by cases hr)) (gr.mono (fun i _ e=> by cases e) fun _ h=> h) (.inl rfl)
    · have hs2:Sub' sz v n g1 (n+m):=LR.inplace hsz hlv hl (by omega) gr
      have hH:=h.at ha gr hl (.inl rfl)
      rw[upd_self]at hH
      refine hA s1 g1 hH gr fun u k hu hk=> ?_
      rcases hu with hu | ⟨j0,cap,rfl,rfl,h1,h2⟩
      · exact .inl hu
      · rcases hsub with⟨rfl,rfl⟩ | ⟨j2,cap2,rfl,h3,h4,h5⟩
        · obtain⟨_,⟨e1,_,_⟩ | ⟨_,_,_,_,h6,_⟩⟩:=hlv
          · obtain⟨_,⟨_,e3,_⟩ | ⟨_,_,_,e2,_⟩⟩:=hla
            · cases e3
            · rw[e1]at e2;cases e2
          · cases h6
        · simp only[V.rsl.injEq,true_and]at h3
          obtain⟨rfl,rfl⟩:=h3
          rcases hs2 with⟨e1,_⟩ | ⟨j3,cap3,e1,rfl,e3,e4⟩
          · cases e1
          · simp only[V.rsl.injEq,true_and]at e1
            obtain⟨rfl,rfl⟩:=e1
            exact .inr ⟨_,_,rfl,rfl,hk,e4⟩
  · intro s1 g1 r hl gr h1 h2
    have hh:Hq s1 p R lab fs pv al:=h.new gr fun _ _ e=> e
    have hno:NewOr s s1 (lab b) (some r):= .inr ⟨r,rfl,h1,h2⟩
    exact hB s1 g1 (some r) (hh.set hb0 (h.lone gr.len hno) hl (h.sepNew hno)) (gr.mono (fun _ _ e=> e.elim) fun _ h=> h) (.inr ⟨r,rfl,h1,h2⟩)
theorem Hq.subs (h:Hq s p R lab fs pv al){a sz n m:Nat}{u w:V}{C:List V}{L:List D}(hf:fs a=some (sz,m,w,C))(hs:Sub' sz u n w m)(hL:C.take (n * sz)=ofDs L):Lst s sz u L∧(∀ r,foot u=some r→lab a=some r):=by
  obtain⟨j,hj,_,hl⟩:=(h.lr a _ hf).subq hs
  simp only at hl
  rw[hL]at hl
  obtain⟨h1,h2,_⟩:=hl.lst
  refine⟨h1,fun r hr=> ?_⟩
  rcases hj with⟨rfl,_,_⟩ | rfl
  · cases hr
  · rw[← h2];exact hr
end
end Go.Sh
