/- Part of the proof. -/
import Derived.Test.YtpgipjjhapapjaaShBe
import Derived.Test.YtpgipjjhapapjaaShFstrs
import Derived.Test.YtpgipjjhapapjaaShFstrings
import Derived.Test.YtpgipjjhapapjaaShFslices
import Derived.Test.YtpgipjjhapapjaaShFcmp
set_option linter.unusedVariables false
set_option linter.unusedSimpArgs false
namespace Go.Sh
abbrev Nm:=List UInt8
def okNm (s:Nm):Bool:=decide (0 < s.length) && decide (s.length≤64) && !s.contains 0
def endAt (a:Nat):List Nm→Nat
  | []=> a
  | s::r=> endAt (a+s.length+1) r
def plcs (a:Nat):List Nm→List Nat
  | []=> []
  | s::r=> a::plcs (a+s.length+1) r
def findNm (s:Nm)(a:Nat):List Nm→Option Nat
  | []=> none
  | x::r=> if x=s then some a else findNm s (a+x.length+1) r
def nmAt (p:Nat)(a:Nat):List Nm→Option Nm
  | []=> none
  | x::r=> if a=p then some x else nmAt p (a+x.length+1) r
def tabB (ns:List Nm):List UInt8:=0::(ns.map (· ++ [0])).flatten
theorem endAt_app {a:Nat}:∀ {ns r:List Nm},endAt a (ns++r)=endAt (endAt a ns) r:=by
  intro ns
  induction ns generalizing a with
  | nil=> intro r;rfl
  | cons x ns ih=> intro r;exact ih
theorem endAt_ge {a:Nat}{ns:List Nm}:a+ns.length≤endAt a ns:=by
  induction ns generalizing a with
  | nil=> exact Nat.le_refl _
  | cons x ns ih=>
    have:=ih (a:=a+x.length+1)
    simp only[endAt,List.length_cons]
    omega
theorem endAt_snoc {a:Nat}{ns:List Nm}{s:Nm}:endAt a (ns++ [s])=endAt a ns+s.length+1:=by rw[endAt_app];rfl
theorem plcs_len {a:Nat}{ns:List Nm}:(plcs a ns).length=ns.length:=by
  induction ns generalizing a with
  | nil=> rfl
  | cons x ns ih=> simp[plcs,ih]
theorem plcs_app {a:Nat}:∀ {ns r:List Nm},plcs a (ns++r)=plcs a ns++plcs (endAt a ns) r:=by
  intro ns
  induction ns generalizing a with
  | nil=> intro r;rfl
  | cons x ns ih=> intro r;simp only[List.cons_append,plcs,endAt,ih]
theorem plcs_get {a:Nat}{ns:List Nm}{i:Nat}{s:Nm}(h:ns[i]? =some s):(plcs a ns)[i]? =some (endAt a (ns.take i)):=by
  induction ns generalizing a i with
  | nil=> simp at h
  | cons x ns ih=>
    cases i with
    | zero=> rfl
    | succ i=>
      simp only[List.getElem?_cons_succ]at h
      simp only[plcs,List.getElem?_cons_succ,List.take_succ_cons,endAt]
      exact ih h
theorem findNm_app {s:Nm}{a:Nat}{ns r:List Nm}:findNm s a (ns++r)=(findNm s a ns).or (findNm s (endAt a ns) r):=by
  induction ns generalizing a with
  | nil=> simp[findNm,endAt]
  | cons x ns ih=>
    simp only[List.cons_append,findNm,endAt]
    split
    · simp
    · exact ih
theorem findNm_none {s:Nm}{a:Nat}{ns:List Nm}:findNm s a ns=none↔s∉ns:=by
  induction ns generalizing a with
  | nil=> simp[findNm]
  | cons x ns ih=>
    simp only[findNm,List.mem_cons,not_or]
    split
    · rename_i h
      simp[h]
    · rename_i h
      rw[ih]
      exact⟨fun hn=> ⟨fun e=> h e.symm,hn⟩,fun hn=> hn.2⟩
theorem findNm_some {s:Nm}{a q:Nat}{ns:List Nm}(h:findNm s a ns=some q):∃ i,ns[i]? =some s∧q=endAt a (ns.take i):=by
  induction ns generalizing a with
  | nil=> simp[findNm]at h
  | cons x ns ih=>
    simp only[findNm]at h
    split at h
    · rename_i hx
      simp only[Option.some.injEq]at h
      exact⟨0,by simp[hx],by simp[endAt,h]⟩
    · obtain⟨i,h1,h2⟩:=ih h
      exact⟨i+1,by simpa using h1,by simpa[endAt]using h2⟩
theorem nmAt_at {a i:Nat}{ns:List Nm}{s:Nm}(h:ns[i]? =some s):nmAt (endAt a (ns.take i)) a ns=some s:=by
  induction ns generalizing a i with
  | nil=> simp at h
  | cons x ns ih=>
    cases i with
    | zero=> simpa[nmAt,endAt]using h
    | succ i=>
      simp only[List.getElem?_cons_succ]at h
      simp only[nmAt,List.take_succ_cons,endAt]
      have:=endAt_ge (a:=a+x.length+1) (ns:=ns.take i)
      rw[if_neg (by omega)]
      exact ih h
theorem nmAt_some {p a:Nat}{ns:List Nm}{s:Nm}(h:nmAt p a ns=some s):∃ i,ns[i]? =some s∧p=endAt a (ns.take i):=by
  induction ns generalizing a with
  | nil=> simp[nmAt]at h
  | cons x ns ih=>
    simp only[nmAt]at h
    split at h
    · rename_i hx
      simp only[Option.some.injEq]at h
      exact⟨0,by simp[h],by simp[endAt,hx]⟩
    · obtain⟨i,h1,h2⟩:=ih h
      exact⟨i+1,by simpa using h1,by simpa[endAt]using h2⟩
theorem tabB_len {ns:List Nm}:(tabB ns).length=endAt 1 ns:=by
  have:∀ (ns:List Nm) a,(ns.map (· ++ [(0:UInt8)])).flatten.length+a=endAt a ns:=by
    intro ns
    induction ns with
    | nil=> intro a;simp[endAt]
    | cons x ns ih=>
      intro a
      simp only[List.map_cons,List.flatten_cons,List.length_append,List.length_cons,List.length_nil,endAt,← ih]
      omega
  rw[← this ns 1]
  simp[tabB]
theorem tabB_snoc {ns:List Nm}{s:Nm}:tabB (ns++ [s])=tabB ns++(s++ [0]):=by simp[tabB]
/-! ### Reading -/
def toZero (r:List UInt8):Nm:=r.takeWhile (· !=0)
def rdNm:Nat→List Nm→Nat→List UInt8→Option (List Nm)×Nat
  | 0,ns,_,_=> (some ns,0)
  | k+1,ns,a,r=> if r= []then(some ns,0) else if(toZero r).length=r.length∨(toZero r).length=0∨64 < (toZero r).length∨toZero r∈ns then(none,a) else rdNm k (ns++ [toZero r]) (a+(toZero r).length+1) (r.drop ((toZero r).length+1))
def readB:List UInt8→Option (List Nm)×Nat
  | []=> (none,0)
  | x::r=> if x=0 then rdNm r.length [] 1 r else(none,0)
theorem toZero_len (r:List UInt8):(toZero r).length≤r.length:=by
  unfold toZero
  induction r with
  | nil=> simp
  | cons x r ih=>
    rw[List.takeWhile_cons]
    split
    · simpa using ih
    · simp
theorem toZero_take (r:List UInt8):r.take (toZero r).length=toZero r:=by
  unfold toZero
  induction r with
  | nil=> rfl
  | cons x r ih=>
    rw[List.takeWhile_cons]
    split
    · simpa using ih
    · rfl
theorem toZero_zero {r:List UInt8}(h:(toZero r).length≠r.length):r[(toZero r).length]? =some 0:=by
  unfold toZero at h ⊢
  induction r with
  | nil=> simp at h
  | cons x r ih=>
    rw[List.takeWhile_cons]at h ⊢
    split
    · rename_i hx
      rw[if_pos hx]at h
      simp only[List.length_cons,ne_eq,Nat.add_right_cancel_iff]at h
      simpa using ih h
    · rename_i hx
      have:x=0:=by simpa using hx
      simp[this]
theorem toZero_no (r:List UInt8):(toZero r).contains 0=false:=by
  unfold toZero
  induction r with
  | nil=> rfl
  | cons x r ih=>
    rw[List.takeWhile_cons]
    split
    · rename_i hx
      have:x≠0:=by simpa using hx
      simp only[List.contains_cons,ih,Bool.or_false,beq_eq_false_iff_ne,ne_eq]
      exact fun e=> this e.symm
    · rfl
theorem idx_zero (r:List UInt8):Lib.indexByte r 0=if(toZero r).length=r.length then -1 else((toZero r).length:Int):=by
  induction r with
  | nil=> rfl
  | cons x r ih=>
    unfold Lib.indexByte
    by_cases hx:x=0
    · subst hx
      rfl
    · have h1:(x==0)=false:=by simpa using hx
      have h2:toZero (x::r)=x::toZero r:=by
        unfold toZero
        rw[List.takeWhile_cons,if_pos (by simpa using hx)]
      rw[h1,h2,ih]
      simp only[Bool.false_eq_true,if_false,List.length_cons,Nat.add_right_cancel_iff]
      by_cases hl:(toZero r).length=r.length
      · simp[hl]
      · simp only[hl,if_false]
        have:(((toZero r).length:Int)== -1)=false:=by
          rw[beq_eq_false_iff_ne]
          omega
        rw[this]
        simp
theorem idx_neg (s:List UInt8):Lib.indexByte s 0 < 0↔s.contains 0=false:=by
  rw[idx_zero]
  by_cases h:(toZero s).length=s.length
  · simp only[h,if_true]
    have:toZero s=s:=by
      have:=toZero_take s
      rw[h,List.take_length]at this
      exact this.symm
    have h2:=toZero_no s
    rw[this]at h2
    exact⟨fun _=> h2,fun _=> by decide⟩
  · simp only[h,if_false]
    have h1:=toZero_zero h
    have h2:=List.mem_of_getElem? h1
    constructor
    · intro h;omega
    · intro h3
      simp only[List.contains_eq_mem,decide_eq_false_iff_not]at h3
      exact absurd h2 h3
theorem rdNm_some {ns ns':List Nm}{a k q:Nat}{r:List UInt8}(hk:r.length≤k)(h:rdNm k ns a r=(some ns',q))(hr:∀ s∈ns,okNm s=true)(hn:ns.Nodup):
    ∃ l,ns'=ns++l∧r=(l.map (· ++ [0])).flatten∧(∀ s∈ns',okNm s=true)∧ns'.Nodup∧q=0:=by
  induction k generalizing ns a r with
  | zero=>
    have:r= []:=List.eq_nil_of_length_eq_zero (by omega)
    subst this
    simp only[rdNm,Prod.mk.injEq,Option.some.injEq]at h
    obtain⟨rfl,rfl⟩:=h
    exact⟨[],by simp,rfl,hr,hn,rfl⟩
  | succ k ih=>
    unfold rdNm at h
    split at h
    · rename_i he
      subst he
      simp only[Prod.mk.injEq,Option.some.injEq]at h
      obtain⟨rfl,rfl⟩:=h
      exact⟨[],by simp,rfl,hr,hn,rfl⟩
    · split at h
      · simp at h
      · rename_i h0 hc
        simp only[not_or]at hc
        obtain⟨c1,c2,c3,c4⟩:=hc
        have hok:okNm (toZero r)=true:=by
          unfold okNm
          rw[toZero_no]
          simp
          omega
        have hrl:=toZero_len r
        obtain⟨l,q1,q2,q3,q4,q5⟩:=ih (ns:=ns++ [toZero r]) (by rw[List.length_drop];omega) h (fun s hs=> by
          rcases List.mem_append.1 hs with hs | hs
          · exact hr s hs
          · simp only[List.mem_singleton]at hs
            rw[hs];exact hok) (by
          rw[List.nodup_append]
          refine⟨hn,by simp,fun x hx y hy e=> ?_⟩
          simp only[List.mem_singleton]at hy
          exact c4 (by rw[← hy,← e];exact hx))
        refine⟨toZero r::l,by simp[q1],?_,q3,q4,q5⟩
        have hz:=toZero_zero c1
        have hlt:(toZero r).length < r.length:=(List.getElem?_eq_some_iff.1 hz).1
        have hsplit:r=toZero r++0::r.drop ((toZero r).length+1):=by
          have h1:=(List.take_append_drop (toZero r).length r).symm
          rw[toZero_take,List.drop_eq_getElem_cons hlt]at h1
          rw[(List.getElem?_eq_some_iff.1 hz).2]at h1
          exact h1
        rw[List.map_cons,List.flatten_cons,← q2]
        simpa using hsplit
theorem readB_some {b:List UInt8}{ns:List Nm}{q:Nat}(h:readB b=(some ns,q)):b=tabB ns∧(∀ s∈ns,okNm s=true)∧ns.Nodup∧q=0:=by
  unfold readB at h
  split at h
  · simp at h
  · rename_i x r
    split at h
    · rename_i hx
      obtain⟨l,q1,q2,q3,q4,q5⟩:=rdNm_some (Nat.le_refl _) h (fun s hs=> (List.not_mem_nil hs).elim) List.nodup_nil
      rw[List.nil_append]at q1
      subst q1 hx
      exact⟨by rw[q2];rfl,q3,q4,q5⟩
    · simp at h
end Go.Sh
namespace Go.Sh
def strsFns:List (Nat×SFn):= [(146,F146),(150,F150),(151,F151),(149,F149),(105,F105),(115,F115),(152,F152),
  (139,F139),(147,F147),(140,F140),(144,F144),(142,F142),(143,F143)]
def namFns:List (Nat×SFn):= [(166,F166),(173,F173)]
def SubP (l:List (Nat×(List V→St→Option V)))(pr:Prog):Prop:=∀ x∈l,pr.fn x.1=none∧pr.prim x.1=some x.2
theorem SubP.den {l:List (Nat×(List V→St→Option V))}{pr:Prog}(h:SubP l pr)(i:Nat){f:Nat}{g:List V→St→Option V}(hx:l[i]? =some (f,g)){args:List V}{st:St}{v:V}(hg:g args st=some v):den pr f args st=some (v,st):=by
  obtain⟨h1,h2⟩:=h _ (List.mem_of_getElem? hx)
  exact den_prim h1 h2 hg
def strsPrims:List (Nat×(List V→St→Option V)):= [(153,pIdxS),(154,pCln),(148,pIdxB)]
section
variable {pr:Prog}(hp:Sub strsFns pr)(hq:SubP strsPrims pr){st:St}
include hp hq
theorem den_idxStr (s:List UInt8):den pr 150 [.d (.s s),.d (.i .u8 0)] st=some (.d (.i .i64 (Lib.indexByte s 0)),st):=by
  have h:=fun st=> hq.den 0 rfl (args:= [.d (.s s),.d (.i .u8 0)]) (st:=st) (v:= .d (.i .i64 (Lib.indexByte s 0))) rfl
  exact den_shut (hp.at 1 rfl) rfl rfl (by simp;rfl) (by simp[F150,h])
theorem den_clnStr (s:List UInt8)(hs:s.length≤281474976710656):den pr 151 [.d (.s s)] st=some (.d (.s s),st):=by
  have h:=fun st=> hq.den 1 rfl (args:= [.d (.s s)]) (st:=st) (v:= .d (.s s)) (by simp[pCln,hs])
  exact den_shut (hp.at 2 rfl) rfl rfl (by simp;rfl) (by simp[F151,h])
theorem den_isName (s:List UInt8):den pr 146 [.d (.s s)] st=some (.d (.b (okNm s)),st):=by
  have h:=fun st=> den_idxStr hp hq (st:=st) s
  have hn:=idx_neg s
  refine den_shut (hp.at 0 rfl) rfl rfl (by simp;rfl) ?_
  by_cases h0:s= []
  · subst h0
    simp[F146,okNm]
  · have hl:0 < s.length:=List.length_pos_iff.2 h0
    have he:s.isEmpty=false:=by cases s <;> simp at h0 ⊢
    by_cases h1:s.length≤64
    · have h1':(s.length:Int)≤64:=by omega
      by_cases h2:Lib.indexByte s 0 < 0
      · have h3:=hn.1 h2
        have h4:okNm s=true:=by unfold okNm;rw[h3];simp[hl,h1]
        simp[F146,he,h1',h,h2,h4]
      · have h3:s.contains 0=true:=by
          cases hc:s.contains 0 with
          | false=> exact absurd (hn.2 hc) h2
          | true=> rfl
        have h4:okNm s=false:=by unfold okNm;rw[h3];simp
        simp[F146,he,h1',h,h2,h4]
    · have h1':¬ (s.length:Int)≤64:=by omega
      have h4:okNm s=false:=by unfold okNm;simp[h1]
      simp[F146,he,h1',h4]
omit hq in
theorem den_isNaN1 (x:Int):den pr 115 [.d (.i .i64 x)] st=some (.d (.b false),st):=den_shut (hp.at 5 rfl) rfl rfl (by simp;rfl) (by simp[F115])
omit hq in
theorem den_isNaN2 (x:Int):den pr 152 [.d (.i .i64 x)] st=some (.d (.b false),st):=den_shut (hp.at 6 rfl) rfl rfl (by simp;rfl) (by simp[F152])
omit hq in
theorem den_less (x y:Int):den pr 105 [.d (.i .i64 x),.d (.i .i64 y)] st=some (.d (.b (decide (x < y))),st):=by
  have h:=fun st x=> den_isNaN1 hp (st:=st) x
  exact den_shut (hp.at 4 rfl) rfl rfl (by simp;rfl) (by simp[F105,h])
omit hq in
theorem den_bsearch {v:V}{xs:List Int}(hv:SlC 1 v (xs.map fun x=> [.i .i64 x]))(hs:xs.Pairwise (· < ·))(hl:xs.length≤140737488355328)(x:Int):
    ∃ (i:Nat) (b:Bool),den pr 149 [v,.d (.i .i64 x)] st=some (.tup [.d (.i .i64 i),.d (.b b)],st)∧i≤xs.length∧(b=true→xs[i]? =some x)∧(b=false→x∉xs):=by
  obtain⟨w,hw,hd⟩:=hv.close
  have hget:∀ a b:Nat,a < b→∀ y z,xs[a]? =some y→xs[b]? =some z→y < z:=by
    intro a b hab y z hy hz
    have h1:=List.pairwise_iff_getElem.1 hs a b (List.getElem?_eq_some_iff.1 hy).1 (List.getElem?_eq_some_iff.1 hz).1 hab
    rwa [(List.getElem?_eq_some_iff.1 hy).2,(List.getElem?_eq_some_iff.1 hz).2]at h1
  have hless:=fun st x y=> den_less hp (st:=st) x y
  have hnan:=fun st x=> den_isNaN2 hp (st:=st) x
  have hlen:=hd.len
  rw[List.length_map]at hlen
  have hia:∀ k:Nat,k < xs.length→iaddrV 1 w (.d (.i .i64 (k:Int)))=some (elP 1 w k 0):=fun k hk=> by
    have:=hd.iaddr (i:=(k:Int)) (k:= .i64) (by omega) (by simpa using hk)
    simpa using this
  have hld:∀ (k:Nat) y st,xs[k]? =some y→loadV 1 false st (elP 1 w k 0)=some (.d (.i .i64 y)):=fun k y st hk=> by
    have:=hd.load (st:=st) (i:=k) (o:=0) (n:=1) (agg:=false) (el:= [.i .i64 y]) (by simp[hk]) (by omega) (by omega)
    simpa[mkV,ofDs]using this
  obtain⟨Q,hQd⟩:∃ Q:V→Prop,∀ r,Q r↔∃ (i:Nat) (b:Bool),r= .tup [.d (.i .i64 i),.d (.b b)]∧i≤xs.length∧(b=true→xs[i]? =some x)∧(b=false→x∉xs):=⟨_,fun _=> Iff.rfl⟩
  have fin:∃ r,finish F149 st0 (cden pr F149.body (initE 0 [w,.d (.i .i64 x)]) (start F149 st0))=some (r,st0)∧Q r:=by
    simp[F149,hlen]
    generalize hL:cden pr (.loop _ _ _) _ _=o
    obtain⟨r,rfl,hQ⟩:∃ r,o=some r∧∃ e,∃ i:Nat,r=(.exit 0,e,s0 [] [] 0 0)∧e.get 0=some w∧e.get 1=some (.d (.i .i64 x))∧e.get 6=some (.d (.i .i64 xs.length))∧e.get 7=some (.d (.i .i64 i))∧i≤xs.length∧(∀ k y,k < i→xs[k]? =some y→y < x)∧(∀ k y,i≤k→xs[k]? =some y→x≤y):=by
      rw[← hL]
      refine loop_j (fun n e s=> ∃ i j:Nat,i≤j∧j≤xs.length∧n=j - i∧e= [(0,w),(1,.d (.i .i64 x)),(6,.d (.i .i64 xs.length)),(7,.d (.i .i64 i)),(8,.d (.i .i64 j))]∧s=s0 [] [] 0 0∧(∀ k y,k < i→xs[k]? =some y→y < x)∧(∀ k y,j≤k→xs[k]? =some y→x≤y)) ?_ (n:=xs.length)
        ⟨0,xs.length,Nat.zero_le _,Nat.le_refl _,rfl,by simp,rfl,fun k y h=> absurd h (by omega),fun k y h hk=> absurd (List.getElem?_eq_some_iff.1 hk).1 (by omega)⟩
      rintro n e s ⟨i,j,hij,hj,rfl,rfl,rfl,h1,h2⟩
      rcases Nat.lt_or_ge i j with hlt | hge
      · have hm:(i+j) / 2 < xs.length:=by omega
        obtain⟨y,hy⟩:∃ y,xs[(i+j) / 2]? =some y:=⟨_,List.getElem?_eq_getElem hm⟩
        have w1:IntKind.wrap .i64 ((i:Int)+j)=((i+j:Nat):Int):=by rw[wrap_i64 (by omega) (by omega)];omega
        have w2:IntKind.wrap .u64 (((i+j:Nat):Int))=((i+j:Nat):Int):=by
          simp only[IntKind.wrap,IntKind.bits,IntKind.signed]
          exact Int.emod_eq_of_lt (by omega) (by omega)
        have w3:(((i+j:Nat):Int)).fdiv 2=(((i+j) / 2:Nat):Int):=fdiv_nat (i+j) 2
        have w4:IntKind.wrap .i64 (((i+j) / 2:Nat):Int)=(((i+j) / 2:Nat):Int):=wrap_i64 (by omega) (by omega)
        have w5:IntKind.wrap .i64 ((((i+j) / 2:Nat):Int)+1)=(((i+j) / 2+1:Nat):Int):=by rw[wrap_i64 (by omega) (by omega)];omega
        obtain⟨m,hme⟩:∃ m,m=(i+j) / 2:=⟨_,rfl⟩
        rw[← hme]at hm hy w3 w4 w5
        have hia:=hia m hm
        have hld:=fun st=> hld m y st hy
        have hlt':(i:Int) < j:=by omega
        obtain⟨N,hN⟩:∃ N:Int,N=((i+j:Nat):Int):=⟨_,rfl⟩
        rw[← hN]at w1 w2 w3
        by_cases hyx:y < x
        · simp[F149_b0,hlt,hlt',w1,w2,shI_shr,IntKind.bits,w3,w4,hia,hld,hless,hyx,w5]
          refine⟨j - (m+1),by omega,m+1,j,by omega,hj,rfl,⟨rfl,rfl⟩,fun k z hk hz=> ?_,h2⟩
          rcases Nat.lt_or_ge k m with h | h
          · have:=hget k m h z y hz hy
            omega
          · have:k=m:=by omega
            subst this
            rw[hy]at hz
            obtain rfl:=Option.some.inj hz
            exact hyx
        · simp[F149_b0,hlt,hlt',w1,w2,shI_shr,IntKind.bits,w3,w4,hia,hld,hless,hyx]
          refine⟨m - i,by omega,i,m,by omega,by omega,rfl,⟨rfl,rfl⟩,h1,fun k z hk hz=> ?_⟩
          rcases Nat.lt_or_ge m k with h | h
          · have:=hget m k h y z hy hz
            omega
          · have:k=m:=by omega
            subst this
            rw[hy]at hz
            obtain rfl:=Option.some.inj hz
            omega
      · have:i=j:=by omega
        subst this
        simp[F149_b0]
        exact⟨i,rfl,hj,h1,h2⟩
    obtain⟨e,i,rfl,e0,e1,e6,e7,hi,h1,h2⟩:=hQ
    rcases Nat.lt_or_ge i xs.length with hlt | hge
    · obtain⟨y,hy⟩:∃ y,xs[i]? =some y:=⟨_,List.getElem?_eq_getElem hlt⟩
      have hia:=hia i hlt
      have hld:=fun st=> hld i y st hy
      have hlt':(i:Int) < xs.length:=by omega
      by_cases hyx:y=x
      · refine⟨.tup [.d (.i .i64 i),.d (.b true)],?_,(hQd _).2 ⟨i,true,rfl,hi,fun _=> hyx ▸ hy,fun h=> by cases h⟩⟩
        simp[e0,e1,e6,e7,hlt,hlt',hia,hld,hyx]
      · refine⟨.tup [.d (.i .i64 i),.d (.b false)],?_,(hQd _).2 ⟨i,false,rfl,hi,nofun,fun _ hx=> ?_⟩⟩
        · simp[e0,e1,e6,e7,hlt,hlt',hia,hld,hyx,hnan]
        · obtain⟨k,hk⟩:=List.mem_iff_getElem?.1 hx
          rcases Nat.lt_trichotomy k i with h | h | h
          · have:=h1 k x h hk;omega
          · subst h
            rw[hy]at hk
            exact hyx (Option.some.inj hk)
          · have h3:=hget i k h y x hy hk
            have h4:=h2 i y (Nat.le_refl _) hy
            omega
    · have:i=xs.length:=by omega
      subst this
      refine⟨.tup [.d (.i .i64 xs.length),.d (.b false)],?_,(hQd _).2 ⟨xs.length,false,rfl,Nat.le_refl _,nofun,fun _ hx=> ?_⟩⟩
      · simp[e0,e1,e6,e7]
      · obtain⟨k,hk⟩:=List.mem_iff_getElem?.1 hx
        have:=h1 k x (List.getElem?_eq_some_iff.1 hk).1 hk
        omega
  obtain⟨r,h1,h2⟩:=fin
  obtain⟨i,b,rfl,h3⟩:=(hQd _).1 h2
  exact⟨i,b,den_shut (hp.at 3 rfl) rfl rfl (by simp[hw]) h1,h3⟩
end
end Go.Sh
namespace Go.Sh
@[simp] theorem row_mk {st:St}{T:List Nat}{f g i:Nat}:(⟨st.heap,T,f,g⟩:St).row i=st.row i:=rfl
@[simp] theorem mapOf_mk {st:St}{T:List Nat}{f g i:Nat}:(⟨st.heap,T,f,g⟩:St).mapOf i=st.mapOf i:=rfl
@[simp] theorem map_cs {id:Nat}:V.cs (.map id)= [.map id]:=rfl
@[simp] theorem map_ok1 {id:Nat}:V.ok1 (.map id)=true:=rfl
structure Kp (st st':St)(R T:Nat→Prop):Prop where
  floor:st'.floor=st.floor
  tfloor:st'.tfloor=st.tfloor
  hlen:st.heap.length≤st'.heap.length
  tlen:st.tips.length≤st'.tips.length
  heap:∀ i,i < st.heap.length→¬ R i→st'.heap[i]? =st.heap[i]?
  tips:∀ t,t < st.tips.length→¬ T t→st'.tips[t]? =st.tips[t]?
theorem Kp.refl (st:St)(R T:Nat→Prop):Kp st st R T:=⟨rfl,rfl,Nat.le_refl _,Nat.le_refl _,fun _ _ _=> rfl,fun _ _ _=> rfl⟩
theorem Kp.trans {a b c:St}{R T:Nat→Prop}(h:Kp a b R T)(k:Kp b c R T):Kp a c R T:=
  ⟨k.floor.trans h.floor,k.tfloor.trans h.tfloor,Nat.le_trans h.hlen k.hlen,Nat.le_trans h.tlen k.tlen,
    fun i hi hn=> (k.heap i (Nat.lt_of_lt_of_le hi h.hlen) hn).trans (h.heap i hi hn),fun t ht hn=> (k.tips t (Nat.lt_of_lt_of_le ht h.tlen) hn).trans (h.tips t ht hn)⟩
theorem Kp.mono {a b:St}{R T R' T':Nat→Prop}(h:Kp a b R T)(hR:∀ i,i < a.heap.length→R i→R' i)(hT:∀ t,t < a.tips.length→T t→T' t):Kp a b R' T':=
  ⟨h.floor,h.tfloor,h.hlen,h.tlen,fun i hi hn=> h.heap i hi fun hr=> hn (hR i hi hr),fun t ht hn=> h.tips t ht fun hr=> hn (hT t ht hr)⟩
theorem row_of_heap {a b:St}{i:Nat}(h:b.heap[i]? =a.heap[i]?):b.row i=a.row i:=by unfold St.row;rw[h]
theorem map_of_heap {a b:St}{i:Nat}(h:b.heap[i]? =a.heap[i]?):b.mapOf i=a.mapOf i:=by unfold St.mapOf;rw[h]
theorem map_lt {st:St}{i:Nat}{es:List (D×V)}(h:st.mapOf i=some es):i < st.heap.length:=by
  unfold St.mapOf at h
  split at h
  · rename_i hc
    exact(List.getElem?_eq_some_iff.1 hc).1
  · cases h
theorem row_map_ne {st:St}{i j:Nat}{cs:List V}{es:List (D×V)}(h:st.row i=some cs)(h':st.mapOf j=some es):i≠j:=by
  rintro rfl
  unfold St.row at h
  unfold St.mapOf at h'
  split at h
  · rename_i hc
    rw[hc]at h'
    simp at h'
  · cases h
def St.putM (st:St)(id:Nat)(es:List (D×V)):St:={st with heap:=st.heap.set id (some (.map es))}
section
variable {st:St}{id j:Nat}{es:List (D×V)}{cs:List V}
theorem setBlk_putM (h:st.floor=0):st.setBlk id (.map es)=some (st.putM id es):=by
  unfold St.setBlk
  rw[if_pos (by omega)]
  rfl
theorem Kp.put {R T:Nat→Prop}(h:R id):Kp st (st.put id cs) R T:=by
  refine⟨rfl,rfl,by simp,Nat.le_refl _,fun i hi hn=> ?_,fun _ _ _=> rfl⟩
  unfold St.put
  simp only[List.getElem?_set]
  rw[if_neg (fun e=> hn (by rw[← e];exact h))]
theorem Kp.putM {R T:Nat→Prop}(h:R id):Kp st (st.putM id es) R T:=by
  refine⟨rfl,rfl,by simp[St.putM],Nat.le_refl _,fun i hi hn=> ?_,fun _ _ _=> rfl⟩
  unfold St.putM
  simp only[List.getElem?_set]
  rw[if_neg (fun e=> hn (by rw[← e];exact h))]
theorem Kp.push {R T:Nat→Prop}(b:Blk):Kp st (st.push b) R T:=by
  refine⟨rfl,rfl,by simp,Nat.le_refl _,fun i hi hn=> ?_,fun _ _ _=> rfl⟩
  simp only[St.push]
  rw[List.getElem?_append_left hi]
theorem mapOf_putM (h:id < st.heap.length):(st.putM id es).mapOf id=some es:=by simp[St.mapOf,St.putM,h]
theorem row_putM (h:j≠id):(st.putM id es).row j=st.row j:=by
  refine row_of_heap ?_
  unfold St.putM
  simp only[List.getElem?_set]
  rw[if_neg (fun e=> h e.symm)]
theorem mapOf_put (h:j≠id):(st.put id cs).mapOf j=st.mapOf j:=by
  refine map_of_heap ?_
  unfold St.put
  simp only[List.getElem?_set]
  rw[if_neg (fun e=> h e.symm)]
theorem mapOf_old {b:Blk}(h:j < st.heap.length):(st.push b).mapOf j=st.mapOf j:=by
  refine map_of_heap ?_
  simp only[St.push]
  rw[List.getElem?_append_left h]
theorem mapOf_push_new:(st.push (.map es)).mapOf st.heap.length=some es:=by simp[St.mapOf,St.push]
end
def NL (st:St)(v:V)(t:Nat)(cs:List D):Prop:=(cs= []∧v= .d (.sl 0 false []))∨(cs≠ []∧v= .own 1 cs.length true cs t∧st.tips[t]? =some cs.length∧st.tfloor=0)
section
variable {st st':St}{v:V}{t:Nat}{cs:List D}{R T:Nat→Prop}
theorem NL.one (h:NL st v t cs):v.ok1=true∧v.cs= [v]:=by
  rcases h with⟨_,rfl⟩ | ⟨_,rfl,_⟩ <;> exact⟨rfl,rfl⟩
theorem NL.lt (h:NL st v t cs)(hc:cs≠ []):t < st.tips.length:=by
  rcases h with⟨h,_⟩ | ⟨_,_,h,_⟩
  · exact absurd h hc
  · exact(List.getElem?_eq_some_iff.1 h).1
theorem NL.keep (h:NL st v t cs)(k:Kp st st' R T)(ht:cs≠ []→¬ T t):NL st' v t cs:=by
  rcases h with h | ⟨h0,h1,h2,h3⟩
  · exact .inl h
  · exact .inr ⟨h0,h1,(k.tips t (List.getElem?_eq_some_iff.1 h2).1 (ht h0)).trans h2,k.tfloor.trans h3⟩
theorem NL.c (h:NL st v t cs):SlC 1 v (cs.map fun d=> [d]):=by
  have hf:(cs.map fun d=> [d]).flatten=cs:=by
    clear h
    induction cs with
    | nil=> rfl
    | cons a r ih=> simpa using ih
  have h1:∀ x∈cs.map fun d=> [d],x.length=1:=by
    intro x hx
    simp only[List.mem_map]at hx
    obtain⟨_,_,rfl⟩:=hx
    rfl
  rcases h with⟨rfl,rfl⟩ | ⟨_,rfl,_⟩
  · exact .of_sl h1 rfl rfl
  · exact .of_own h1 (by simp) hf.symm
theorem NL.len (h:NL st v t cs):lenV v=some cs.length:=by
  rcases h with⟨rfl,rfl⟩ | ⟨_,rfl,_⟩ <;> rfl
theorem NL.get (h:NL st v t cs){i:Nat}{x:D}(hx:cs[i]? =some x){k:IntKind}:iaddrV 1 v (.d (.i k (i:Int)))=some (.ep (cs.drop i))∧∀ s,loadV 1 false s (.ep (cs.drop i))=some (.d x):=by
  have hlt:=(List.getElem?_eq_some_iff.1 hx).1
  have hd:cs.drop i=x::cs.drop (i+1):=by rw[List.drop_eq_getElem_cons hlt,(List.getElem?_eq_some_iff.1 hx).2]
  refine⟨?_,fun s=> ?_⟩
  · rcases h with⟨rfl,rfl⟩ | ⟨_,rfl,_⟩
    · simp at hlt
    · simp[iaddrV,hlt]
  · rw[hd]
    simp[loadV,mkV,ofDs]
theorem NL.app (h:NL st v t cs)(htf:st.tfloor=0){x:D}{by':Nat}(hb:(cs.length+1) * by'≤140737488355328)(hn:cs.length+1≤140737488355328):
    ∃ v' t' s1,appV 1 by' st v (.d (.sl 1 true [x]))=some (v',s1)∧NL s1 v' t' (cs++ [x])∧s1.heap=st.heap∧Kp st s1 (fun _=> False) (fun u=> cs≠ []∧u=t)∧((cs≠ []∧t'=t)∨t'=st.tips.length):=by
  rcases h with⟨rfl,rfl⟩ | ⟨h0,rfl,h2,h3⟩
  · have hb':by'≤140737488355328:=by simpa using hb
    refine⟨.own 1 1 true [x] st.tips.length,st.tips.length,{st with tips:=st.tips++ [1]},?_,.inr ⟨by simp,rfl,by simp,htf⟩,rfl,⟨rfl,rfl,Nat.le_refl _,by simp,fun _ _ _=> rfl,fun u hu _=> ?_⟩,.inr rfl⟩
    · simp[appV,vw,hb']
    · simp only
      rw[List.getElem?_append_left hu]
  · have hlt:=(List.getElem?_eq_some_iff.1 h2).1
    refine⟨.own 1 (cs.length+1) true (cs++ [x]) t,t,{st with tips:=st.tips.set t (cs.length+1)},?_,.inr ⟨by simp,by simp,by simp[hlt],htf⟩,rfl,⟨rfl,rfl,Nat.le_refl _,by simp,fun _ _ _=> rfl,fun u hu hn=> ?_⟩,.inl ⟨h0,rfl⟩⟩
    · have h4:st.tfloor≤t:=by omega
      simp[appV,vw,h2,h4,hb,hn]
    · simp only[List.getElem?_set]
      rw[if_neg (fun e=> hn ⟨h0,e.symm⟩)]
end
def ents (a:Nat):List Nm→List (D×V)
  | []=> []
  | s::r=> (.s s,.d (.i .i64 (a:Nat)))::ents (a+s.length+1) r
theorem findE_ents (s:Nm):∀ (ns:List Nm) (a:Nat),findE (.s s) (ents a ns)=some ((findNm s a ns).map fun q=> V.d (.i .i64 (q:Nat)))
  | [],a=> rfl
  | x::r,a=> by
    simp only[ents,findE,eqD,findNm]
    by_cases h:x=s
    · subst h
      simp
    · have h':(s==x)=false:=by simpa using fun e=> h e.symm
      simp only[h',if_neg h]
      exact findE_ents s r _
theorem setE_ents (s:Nm):∀ (ns:List Nm) (a:Nat),s∉ns→setE (.s s) (.d (.i .i64 (endAt a ns:Nat))) (ents a ns)=some (ents a (ns++ [s]))
  | [],a,_=> rfl
  | x::r,a,h=> by
    simp only[List.mem_cons,not_or]at h
    have h':(s==x)=false:=by simpa using h.1
    simp only[ents,setE,eqD,h',endAt,List.cons_append]
    rw[setE_ents s r _ h.2]
    rfl
structure Tbl (st:St)(p m tn tp:Nat)(ns:List Nm):Prop where
  fl:st.floor=0
  tf:st.tfloor=0
  row:∃ vN vP,st.row p=some [vN,vP,.map m,.d (.i .i64 (endAt 1 ns:Nat))]∧NL st vN tn (ns.map .s)∧NL st vP tp ((plcs 1 ns).map fun(a:Nat)=> .i .i64 (a:Int))
  map:st.mapOf m=some (ents 1 ns)
  tt:ns≠ []→tn≠tp
  nd:ns.Nodup
  ok:∀ s∈ns,okNm s=true
theorem Tbl.plt {st:St}{p m tn tp:Nat}{ns:List Nm}(h:Tbl st p m tn tp ns):p < st.heap.length:=by
  obtain⟨_,_,h1,_⟩:=h.row
  exact row_lt h1
theorem plcs_ne {a:Nat}{ns:List Nm}(h:ns≠ []):plcs a ns≠ []:=by
  cases ns with
  | nil=> exact absurd rfl h
  | cons x r=> simp[plcs]
theorem Tbl.keep {st st':St}{p m tn tp:Nat}{ns:List Nm}{R T:Nat→Prop}(h:Tbl st p m tn tp ns)(k:Kp st st' R T)(hp:¬ R p)(hm:¬ R m)(ht:ns≠ []→¬ T tn∧¬ T tp):Tbl st' p m tn tp ns:=by
  obtain⟨vN,vP,h1,h2,h3⟩:=h.row
  refine⟨k.floor.trans h.fl,k.tfloor.trans h.tf,⟨vN,vP,(row_of_heap (k.heap p (row_lt h1) hp)).trans h1,h2.keep k fun hc=> (ht fun e=> hc (by simp[e])).1,h3.keep k fun hc=> (ht fun e=> hc (by simp[e,plcs])).2⟩,(map_of_heap (k.heap m (map_lt h.map) hm)).trans h.map,h.tt,h.nd,h.ok⟩
def TR (p m:Nat):Nat→Prop:=fun i=> i=p∨i=m
def TT (tn tp:Nat)(ns:List Nm):Nat→Prop:=fun t=> ns≠ []∧(t=tn∨t=tp)
section
variable {pr:Prog}(hp:Sub strsFns pr)(hq:SubP strsPrims pr){st:St}
include hp
theorem den_New (hfl:st.floor=0)(htf:st.tfloor=0):∃ st',den pr 139 [] st=some (.ptr (st.heap.length+1) 0,st')∧Tbl st' (st.heap.length+1) st.heap.length 0 0 []∧Kp st st' (fun _=> False) (fun _=> False):=by
  refine⟨(st.push (.map [])).push (.row [.d (.sl 0 false []),.d (.sl 0 false []),.map st.heap.length,.d (.i .i64 1)]),?_,⟨hfl,htf,⟨_,_,row_push_new (by simp),.inl ⟨rfl,rfl⟩,.inl ⟨rfl,rfl⟩⟩,?_,fun h=> absurd rfl h,List.nodup_nil,fun s hs=> (List.not_mem_nil hs).elim⟩,(Kp.push _).trans (Kp.push _)⟩
  · rw[den_fn (hp.at 7 rfl) rfl rfl,start_raw _ rfl]
    simp[F139,fillV,lay,ofDs]
  · rw[mapOf_old (by simp),mapOf_push_new]
    rfl
include hq
theorem den_putS {p m tn tp:Nat}{ns:List Nm}(h:Tbl st p m tn tp ns){s:Nm}(hs:okNm s=true)(hn:s∉ns)(hb:endAt 1 ns+s.length+1≤1099511627776):
    ∃ st' tn' tp',den pr 147 [.ptr p 0,.d (.s s)] st=some (.d (.i .i64 (endAt 1 ns:Nat)),st')∧Tbl st' p m tn' tp' (ns++ [s])∧Kp st st' (TR p m) (TT tn tp ns)∧(tn'=tn∧tp'=tp∧ns≠ []∨st.tips.length≤tn'∧st.tips.length≤tp'):=by
  obtain⟨vN,vP,hrow,hN,hP⟩:=h.row
  have hsl:s.length≤64:=by
    unfold okNm at hs
    simp only[Bool.and_eq_true,decide_eq_true_eq]at hs
    exact hs.1.2
  have hcl:=fun st=> den_clnStr hp hq (st:=st) s (by omega)
  have hge:=endAt_ge (a:=1) (ns:=ns)
  obtain⟨vN',tn',s1,a1,a2,a3,a4,a5⟩:=hN.app h.tf (x:= .s s) (by':=16) (by simp;omega) (by simp;omega)
  have hpl:=row_lt hrow
  have hrow1:s1.row p=some [vN,vP,.map m,.d (.i .i64 (endAt 1 ns:Nat))]:=by unfold St.row;rw[a3];exact hrow
  have hfl1:s1.floor=0:=a4.floor.trans h.fl
  have o1:=a2.one
  obtain⟨s2,hs2⟩:∃ s2,s2=s1.put p [vN',vP,.map m,.d (.i .i64 (endAt 1 ns:Nat))]:=⟨_,rfl⟩
  have hpl1:p < s1.heap.length:=by rw[a3];exact hpl
  have hrow2:s2.row p=some [vN',vP,.map m,.d (.i .i64 (endAt 1 ns:Nat))]:=by rw[hs2];exact row_put_eq hpl1
  have k2:Kp s1 s2 (TR p m) (TT tn tp ns):=by rw[hs2];exact .put (.inl rfl)
  have k1:Kp st s1 (TR p m) (TT tn tp ns):=a4.mono (fun _ _ e=> e.elim) fun u _ ⟨e1,e2⟩=> ⟨fun e=> e1 (by simp[e]),.inl e2⟩
  have hfl2:s2.floor=0:=k2.floor.trans hfl1
  have htf2:s2.tfloor=0:=k2.tfloor.trans (a4.tfloor.trans h.tf)
  have hP2:NL s2 vP tp ((plcs 1 ns).map fun(a:Nat)=> .i .i64 (a:Int)):=by
    refine(hP.keep a4 fun hc he=> ?_).keep (T:=fun _=> False) (R:=TR p m) (by rw[hs2];exact .put (.inl rfl)) fun _ e=> e
    have hne:ns≠ []:=fun e=> hc (by simp[e,plcs])
    exact h.tt hne he.2.symm
  have hpn:((plcs 1 ns).map fun(a:Nat)=> D.i .i64 (a:Int)).length=ns.length:=by simp[plcs_len]
  obtain⟨vP',tp',s3,b1,b2,b3,b4,b5⟩:=hP2.app htf2 (x:= .i .i64 (endAt 1 ns:Nat)) (by':=8) (by rw[hpn];omega) (by rw[hpn];omega)
  have hrow3:s3.row p=some [vN',vP,.map m,.d (.i .i64 (endAt 1 ns:Nat))]:=by unfold St.row;rw[b3];exact hrow2
  have hfl3:s3.floor=0:=b4.floor.trans hfl2
  have o3:=b2.one
  obtain⟨s4,hs4⟩:∃ s4,s4=s3.put p [vN',vP',.map m,.d (.i .i64 (endAt 1 ns:Nat))]:=⟨_,rfl⟩
  have hpl3:p < s3.heap.length:=row_lt hrow3
  have hrow4:s4.row p=some [vN',vP',.map m,.d (.i .i64 (endAt 1 ns:Nat))]:=by rw[hs4];exact row_put_eq hpl3
  have hpm:m≠p:=(row_map_ne hrow h.map).symm
  have hmap4:s4.mapOf m=some (ents 1 ns):=by
    rw[hs4,mapOf_put hpm]
    have:s3.mapOf m=s2.mapOf m:=by unfold St.mapOf;rw[b3]
    rw[this,hs2,mapOf_put hpm]
    have:s1.mapOf m=st.mapOf m:=by unfold St.mapOf;rw[a3]
    rw[this]
    exact h.map
  have hfl4:s4.floor=0:=by rw[hs4];exact hfl3
  have hset:=setE_ents s ns 1 hn
  obtain⟨s5,hs5⟩:∃ s5,s5=s4.putM m (ents 1 (ns++ [s])):=⟨_,rfl⟩
  have hms:mapSetV true s4 (.map m) (.d (.s s)) (.d (.i .i64 (endAt 1 ns:Nat)))=some s5:=by
    simp only[mapSetV,keyOk,if_true,hmap4,hset,setBlk_putM hfl4,hs5]
  have hrow5:s5.row p=some [vN',vP',.map m,.d (.i .i64 (endAt 1 ns:Nat))]:=by rw[hs5,row_putM (Ne.symm hpm)];exact hrow4
  have hfl5:s5.floor=0:=by rw[hs5];exact hfl4
  obtain⟨s6,hs6⟩:∃ s6,s6=s5.put p [vN',vP',.map m,.d (.i .i64 (endAt 1 (ns++ [s]):Nat))]:=⟨_,rfl⟩
  have w1:IntKind.wrap .i64 ((s.length:Int)+1)=s.length+1:=wrap_i64 (by omega) (by omega)
  have w2:IntKind.wrap .i64 ((endAt 1 ns:Nat)+((s.length:Int)+1))=(endAt 1 (ns++ [s]):Nat):=by
    rw[endAt_snoc,wrap_i64 (by omega) (by omega)]
    omega
  have hst2:s1.setBlk p (.row [vN',vP,.map m,.d (.i .i64 (endAt 1 ns:Nat))])=some s2:=by rw[hs2];exact setBlk_put hfl1
  have hst4:s3.setBlk p (.row [vN',vP',.map m,.d (.i .i64 (endAt 1 ns:Nat))])=some s4:=by rw[hs4];exact setBlk_put hfl3
  have hst6:s5.setBlk p (.row [vN',vP',.map m,.d (.i .i64 (endAt 1 (ns++ [s]):Nat))])=some s6:=by rw[hs6];exact setBlk_put hfl5
  have k3:Kp s2 s3 (TR p m) (TT tn tp ns):=b4.mono (fun _ _ e=> e.elim) fun u _ ⟨e1,e2⟩=> ⟨fun e=> e1 (by simp[e,plcs]),.inr e2⟩
  have k4:Kp s3 s4 (TR p m) (TT tn tp ns):=by rw[hs4];exact .put (.inl rfl)
  have k5:Kp s4 s5 (TR p m) (TT tn tp ns):=by rw[hs5];exact .putM (.inr rfl)
  have k6:Kp s5 s6 (TR p m) (TT tn tp ns):=by rw[hs6];exact .put (.inl rfl)
  have kk:Kp st s6 (TR p m) (TT tn tp ns):=k1.trans (k2.trans (k3.trans (k4.trans (k5.trans k6))))
  have hps:s6.floor=0∧s6.tfloor=0:=⟨kk.floor.trans h.fl,kk.tfloor.trans h.tf⟩
  -- tokens
  have htl:st.tips.length≤s1.tips.length:=a4.tlen
  have ht2:s2.tips=s1.tips:=by rw[hs2];rfl
  have htip:s6.tips=s3.tips:=by rw[hs6,hs5,hs4];rfl
  have hne':tn'≠tp':=by
    have l1:=a2.lt (by simp)
    rcases b5 with⟨c0,rfl⟩ | rfl
    · have hne:ns≠ []:=fun e=> c0 (by simp[e,plcs])
      rcases a5 with⟨_,rfl⟩ | rfl
      · exact h.tt hne
      · have:=hP.lt c0
        omega
    · rw[ht2]
      omega
  have hN6:NL s6 vN' tn' ((ns++ [s]).map .s):=by
    rw[List.map_append]
    have:=((a2.keep (T:=fun _=> False) (R:=TR p m) (by rw[hs2];exact .put (.inl rfl)) fun _ e=> e:NL s2 _ _ _).keep b4 fun _ e=> ?_).keep (st':=s6) (T:=fun _=> False) (R:=TR p m) ?_ fun _ e=> e
    · exact this
    · rcases a5 with⟨c0,rfl⟩ | rfl
      · have hne:ns≠ []:=fun e=> c0 (by simp[e])
        exact h.tt hne e.2
      · have:=hP.lt e.1
        omega
    · have q4:Kp s3 s4 (TR p m) (fun _=> False):=by rw[hs4];exact .put (.inl rfl)
      have q5:Kp s4 s5 (TR p m) (fun _=> False):=by rw[hs5];exact .putM (.inr rfl)
      have q6:Kp s5 s6 (TR p m) (fun _=> False):=by rw[hs6];exact .put (.inl rfl)
      exact q4.trans (q5.trans q6)
  have hP6:NL s6 vP' tp' ((plcs 1 (ns++ [s])).map fun(a:Nat)=> .i .i64 (a:Int)):=by
    rw[plcs_app,List.map_append]
    refine b2.keep (st':=s6) (T:=fun _=> False) (R:=TR p m) ?_ fun _ e=> e
    have q4:Kp s3 s4 (TR p m) (fun _=> False):=by rw[hs4];exact .put (.inl rfl)
    have q5:Kp s4 s5 (TR p m) (fun _=> False):=by rw[hs5];exact .putM (.inr rfl)
    have q6:Kp s5 s6 (TR p m) (fun _=> False):=by rw[hs6];exact .put (.inl rfl)
    exact q4.trans (q5.trans q6)
  refine⟨s6,tn',tp',?_,⟨hps.1,hps.2,⟨vN',vP',?_,hN6,hP6⟩,?_,fun _=> hne',?_,?_⟩,kk,?_⟩
  · rw[den_fn (hp.at 8 rfl) rfl rfl,start_raw _ rfl]
    simp[F147,hrow,hcl,fillV,lay,ofDs,reps,a1,hrow1,o1,hst2,hrow2,b1,hrow3,o3,hst4,hrow4,hms,hrow5,w1,w2,hst6]
  · rw[hs6]
    exact row_put_eq (row_lt hrow5)
  · rw[hs6,mapOf_put hpm,hs5]
    exact mapOf_putM (map_lt hmap4)
  · rw[List.nodup_append]
    refine⟨h.nd,by simp,fun x hx y hy e=> ?_⟩
    simp only[List.mem_singleton]at hy
    exact hn (by rw[← hy,← e];exact hx)
  · intro x hx
    rcases List.mem_append.1 hx with hx | hx
    · exact h.ok x hx
    · simp only[List.mem_singleton]at hx
      rw[hx];exact hs
  · rcases a5 with⟨c0,rfl⟩ | rfl
    · have hne:ns≠ []:=fun e=> c0 (by simp[e])
      rcases b5 with⟨_,rfl⟩ | rfl
      · exact .inl ⟨rfl,rfl,hne⟩
      · rcases hP2 with⟨e,_⟩ | hP2
        · exact absurd (by simpa using e) (plcs_ne (a:=1) hne)
        · exfalso
          obtain⟨e0,rfl,e1,_⟩:=hP2
          -- the token stays
          have:=(List.getElem?_eq_some_iff.1 e1).1
          simp only[appV,vw]at b1
          split at b1
          · simp only[Option.some.injEq,Prod.mk.injEq]at b1
            have hv:=b1.1
            rcases b2 with⟨f0,_⟩ | ⟨_,f1,_⟩
            · simp at f0
            · rw[f1]at hv
              simp only[V.own.injEq]at hv
              omega
          · cases b1
    · right
      refine⟨Nat.le_refl _,?_⟩
      rcases b5 with⟨c0,rfl⟩ | rfl
      · have hne:ns≠ []:=fun e=> c0 (by simp[e,plcs])
        rcases hN with⟨e,_⟩ | hN
        · exact absurd (by simpa using e) hne
        · exfalso
          obtain⟨e0,rfl,e1,_⟩:=hN
          have:=(List.getElem?_eq_some_iff.1 e1).1
          simp only[appV,vw]at a1
          split at a1
          · simp only[Option.some.injEq,Prod.mk.injEq]at a1
            have hv:=a1.1
            rcases a2 with⟨f0,_⟩ | ⟨_,f1,_⟩
            · simp at f0
            · rw[f1]at hv
              simp only[V.own.injEq]at hv
              omega
          · cases a1
      · rw[ht2]
        exact htl
end
end Go.Sh
namespace Go.Sh
def atI (x:Int)(ns:List Nm):Option Nm:=if x < 0 then none else nmAt x.toNat 1 ns
theorem plcs_mem {a x:Nat}{ns:List Nm}:x∈plcs a ns↔∃ i s,ns[i]? =some s∧x=endAt a (ns.take i):=by
  induction ns generalizing a with
  | nil=> simp[plcs]
  | cons y r ih=>
    simp only[plcs,List.mem_cons,ih]
    constructor
    · rintro(rfl | ⟨i,s,h1,h2⟩)
      · exact⟨0,y,rfl,rfl⟩
      · exact⟨i+1,s,by simpa using h1,by simpa[endAt]using h2⟩
    · rintro⟨i,s,h1,h2⟩
      cases i with
      | zero=> exact .inl (by simpa[endAt]using h2)
      | succ i=> exact .inr ⟨i,s,by simpa using h1,by simpa[endAt]using h2⟩
theorem plcs_rise {a:Nat}{ns:List Nm}:(plcs a ns).Pairwise (· < ·):=by
  induction ns generalizing a with
  | nil=> exact .nil
  | cons y r ih=>
    refine .cons (fun x hx=> ?_) ih
    obtain⟨i,s,_,rfl⟩:=plcs_mem.1 hx
    have:=endAt_ge (a:=a+y.length+1) (ns:=r.take i)
    omega
theorem okNm_len {s:Nm}(h:okNm s=true):0 < s.length∧s.length≤64:=by
  unfold okNm at h
  simp only[Bool.and_eq_true,decide_eq_true_eq]at h
  exact h.1
section
variable {pr:Prog}(hp:Sub strsFns pr)(hq:SubP strsPrims pr){st:St}
include hp
theorem den_Add_nil (s:List UInt8):den pr 140 [.d .np,.d (.s s)] st=some (.tup [.d (.i .i64 0),.d (.i .i64 1)],st):=by
  rw[den_fn (hp.at 9 rfl) rfl rfl,start_raw _ rfl]
  simp[F140,eqV]
theorem den_At_nil (x:Int):den pr 144 [.d .np,.d (.i .i64 x)] st=some (.tup [.d (.s []),.d (.i .i64 1)],st):=by
  rw[den_fn (hp.at 10 rfl) rfl rfl]
  simp[F144,eqV,start]
omit hp in
theorem den_Names_nil (hN:Sub namFns pr):den pr 166 [.d .np] st=some (.tup [.d (.sl 0 false []),.d (.i .i64 1)],st):=by
  rw[den_fn (hN.at 0 rfl) rfl rfl]
  simp[F166,eqV,start]
theorem den_Bytes_nil:den pr 142 [.d .np] st=some (.tup [.d (.sl 0 false []),.d (.i .i64 1)],st):=by
  rw[den_fn (hp.at 11 rfl) rfl rfl]
  simp[F142,eqV,start]
include hq
theorem den_Add_bad {p:Nat}{s:List UInt8}(hs:okNm s=false):den pr 140 [.ptr p 0,.d (.s s)] st=some (.tup [.d (.i .i64 0),.d (.i .i64 81)],st):=by
  have h:=fun st=> den_isName hp hq (st:=st) s
  rw[hs]at h
  rw[den_fn (hp.at 9 rfl) rfl rfl,start_raw _ rfl]
  simp[F140,eqV,h]
theorem den_Add_old {p m tn tp:Nat}{ns:List Nm}(h:Tbl st p m tn tp ns){s:Nm}(hs:okNm s=true){q:Nat}(hf:findNm s 1 ns=some q):den pr 140 [.ptr p 0,.d (.s s)] st=some (.tup [.d (.i .i64 q),.d (.i .i64 0)],st):=by
  have hn:=fun st=> den_isName hp hq (st:=st) s
  rw[hs]at hn
  obtain⟨vN,vP,hrow,hN,hP⟩:=h.row
  have hfe:=findE_ents s ns 1
  rw[hf]at hfe
  rw[den_fn (hp.at 9 rfl) rfl rfl,start_raw _ rfl]
  simp[F140,eqV,hn,hrow,lookV,keyOk,h.map,hfe,lookOut,zeroV]
theorem den_Add_new {p m tn tp:Nat}{ns:List Nm}(h:Tbl st p m tn tp ns){s:Nm}(hs:okNm s=true)(hn:s∉ns)(hb:endAt 1 ns+s.length+1≤1099511627776):
    ∃ st' tn' tp',den pr 140 [.ptr p 0,.d (.s s)] st=some (.tup [.d (.i .i64 (endAt 1 ns:Nat)),.d (.i .i64 0)],st')∧Tbl st' p m tn' tp' (ns++ [s])∧Kp st st' (TR p m) (TT tn tp ns)∧(tn'=tn∧tp'=tp∧ns≠ []∨st.tips.length≤tn'∧st.tips.length≤tp'):=by
  obtain⟨st',tn',tp',h1,h2,h3,h4⟩:=den_putS hp hq h hs hn hb
  refine⟨st',tn',tp',?_,h2,h3,h4⟩
  have hk:=fun st=> den_isName hp hq (st:=st) s
  rw[hs]at hk
  obtain⟨vN,vP,hrow,hN,hP⟩:=h.row
  have hfe:=findE_ents s ns 1
  rw[findNm_none.2 hn]at hfe
  rw[den_fn (hp.at 9 rfl) rfl rfl,start_raw _ rfl]
  simp[F140,eqV,hk,hrow,lookV,keyOk,h.map,hfe,lookOut,zeroV,h1]
omit hq in
theorem den_At {p m tn tp:Nat}{ns:List Nm}(h:Tbl st p m tn tp ns)(x:Int)(hb:endAt 1 ns≤1099511627776):
    den pr 144 [.ptr p 0,.d (.i .i64 x)] st=some (.tup [.d (.s (if x=0 then []else(atI x ns).getD [])),.d (.i .i64 (if x=0∨(atI x ns).isSome then 0 else 81))],st):=by
  obtain⟨vN,vP,hrow,hN,hP⟩:=h.row
  rw[den_fn (hp.at 10 rfl) rfl rfl]
  by_cases h0:x=0
  · simp[F144,eqV,start,h0]
  · have hge:=endAt_ge (a:=1) (ns:=ns)
    obtain⟨s1,hs1⟩:∃ s1,s1=({st with floor:=st.heap.length,tfloor:=st.tips.length}:St):=⟨_,rfl⟩
    have hst:start F144 st=s1:=by rw[hs1];rfl
    rw[hst]
    have hrow1:s1.row p=some [vN,vP,.map m,.d (.i .i64 (endAt 1 ns:Nat))]:=by rw[hs1];exact hrow
    obtain⟨i,b,h1,h2,h3,h4⟩:=den_bsearch hp (st:=s1) (v:=vP) (xs:=(plcs 1 ns).map fun(a:Nat)=> (a:Int)) (by
      have:=hP.c
      simpa[List.map_map,Function.comp_def]using this) (by
      rw[List.pairwise_map]
      exact plcs_rise.imp fun h=> by omega) (by simp[plcs_len];omega) x
    have hlt:=row_lt hrow
    cases b with
    | true=>
      have h3:=h3 rfl
      rw[List.getElem?_map,Option.map_eq_some_iff]at h3
      obtain⟨a,ha,hax⟩:=h3
      have hi:i < ns.length:=by
        have:=(List.getElem?_eq_some_iff.1 ha).1
        rwa [plcs_len]at this
      obtain⟨s,hs⟩:∃ s,ns[i]? =some s:=⟨_,List.getElem?_eq_getElem hi⟩
      have ha2:=plcs_get (a:=1) hs
      rw[ha]at ha2
      obtain rfl:=Option.some.inj ha2
      have hat:atI x ns=some s:=by
        unfold atI
        rw[if_neg (by omega),show x.toNat=endAt 1 (ns.take i) by omega]
        exact nmAt_at hs
      obtain⟨g1,g2⟩:=hN.get (i:=i) (x:= .s s) (by simp[hs]) (k:= .i64)
      simp[F144,eqV,h0,hrow1,h1,g1,g2,hat]
    | false=>
      have h4:=h4 rfl
      have hat:atI x ns=none:=by
        unfold atI
        split
        · rfl
        · rename_i hx
          cases hc:nmAt x.toNat 1 ns with
          | none=> rfl
          | some s=>
            exfalso
            obtain⟨i,h5,h6⟩:=nmAt_some hc
            refine h4 (List.mem_map.2 ⟨x.toNat,plcs_mem.2 ⟨i,s,h5,h6⟩,by omega⟩)
      simp[F144,eqV,h0,hrow1,h1,hat]
end
end Go.Sh
namespace Go.Sh
def BV (st:St)(v:V)(L:List UInt8):Prop:=(∃ nz,v=bsl nz L)∨∃ id off cap c,v= .rsl 1 id off L.length cap∧L.length≤cap∧st.row id=some c∧off+L.length≤c.length∧(c.drop off).take L.length=ofDs (byteCells L)
theorem bsl_iaddr {nz:Bool}{L:List UInt8}{i:Nat}{b:UInt8}(h:L[i]? =some b){k:IntKind}:iaddrV 1 (bsl nz L) (.d (.i k (i:Int)))=some (.ep ((byteCells L).drop i))∧∀ s,loadV 1 false s (.ep ((byteCells L).drop i))=some (.d (.i .u8 b.toNat)):=by
  have hlt:=(List.getElem?_eq_some_iff.1 h).1
  have hd:(byteCells L).drop i= .i .u8 b.toNat::(byteCells L).drop (i+1):=by
    rw[List.drop_eq_getElem_cons (by rw[byteCells_len];exact hlt)]
    congr 1
    simp only[byteCells,List.getElem_map]
    rw[(List.getElem?_eq_some_iff.1 h).2]
  refine⟨?_,fun s=> ?_⟩
  · simp[iaddrV,bsl,hlt]
  · rw[hd]
    simp[loadV,mkV,ofDs]
section
variable {st st':St}{v:V}{L:List UInt8}
theorem BV.len (h:BV st v L):lenV v=some L.length:=by
  rcases h with⟨nz,rfl⟩ | ⟨id,off,cap,c,rfl,_⟩ <;> rfl
theorem BV.keep {R T:Nat→Prop}(h:BV st v L)(k:Kp st st' R T)(hR:∀ j,foot v=some j→¬ R j):BV st' v L:=by
  rcases h with h | ⟨id,off,cap,c,rfl,h1,h2,h3⟩
  · exact .inl h
  · exact .inr ⟨id,off,cap,c,rfl,h1,(row_of_heap (k.heap id (row_lt h2) (hR id rfl))).trans h2,h3⟩
theorem BV.lt (h:BV st v L){j:Nat}(hj:foot v=some j):j < st.heap.length:=by
  rcases h with⟨nz,rfl⟩ | ⟨id,off,cap,c,rfl,h1,h2,h3⟩
  · cases hj
  · obtain rfl:=Option.some.inj hj
    exact row_lt h2
theorem BV.get (h:BV st v L){i:Nat}{b:UInt8}(hb:L[i]? =some b){k:IntKind}:∃ p,iaddrV 1 v (.d (.i k (i:Int)))=some p∧loadV 1 false st p=some (.d (.i .u8 b.toNat)):=by
  have hlt:=(List.getElem?_eq_some_iff.1 hb).1
  rcases h with⟨nz,rfl⟩ | ⟨id,off,cap,c,rfl,h1,h2,h3,h4⟩
  · exact⟨_,(bsl_iaddr (nz:=nz) (k:=k) hb).1,(bsl_iaddr (nz:=nz) (k:=k) hb).2 st⟩
  · refine⟨_,iaddr_row hlt,?_⟩
    have hc:c[off+i]? =some (.d (.i .u8 b.toNat)):=by
      have:=congrArg (fun l=> l[i]?) h4
      simp only[List.getElem?_take,if_pos hlt,List.getElem?_drop]at this
      rw[this]
      simp[ofDs,byteCells,hb]
    simp only[Nat.mul_one,loadV_ptr,h2]
    rw[if_pos (by omega),List.drop_eq_getElem_cons (by omega),List.take_succ_cons,List.take_zero]
    simp only[mkV]
    rw[(List.getElem?_eq_some_iff.1 hc).2]
    simp
theorem BV.slc (h:BV st v L){lo hi:Option V}{a b:Nat}(hb:Bd hi L.length b)(ha:Bd lo 0 a)(hab:a≤b)(hbn:b≤L.length):∃ w,slcV 1 v lo hi none=some w∧BV st w ((L.take b).drop a)∧(foot w=foot v):=by
  rcases h with⟨nz,rfl⟩ | ⟨id,off,cap,c,rfl,h1,h2,h3,h4⟩
  · exact⟨_,bsl_slc nz L hb ha hab hbn,.inl ⟨nz,rfl⟩,rfl⟩
  · have hbd:bnds L.length cap lo hi none=some (a,b,cap):=by
      unfold bnds
      rw[show bnd none cap cap=some cap from rfl]
      simp only
      rw[hb.bnd (by omega)]
      simp only
      rw[ha.bnd hab]
    have hlen:((L.take b).drop a).length=b - a:=by simp;omega
    refine⟨.rsl 1 id (off+a) (b - a) (cap - a),by simp[slcV,hbd],.inr ⟨id,off+a,cap - a,c,by rw[hlen],by rw[hlen];omega,h2,by rw[hlen];omega,?_⟩,rfl⟩
    rw[hlen]
    have h5:=congrArg (fun l=> (l.drop a).take (b - a)) h4
    simp only[List.drop_take,List.take_take,List.drop_drop]at h5
    rw[show min (b - a) (L.length - a)=b - a by omega]at h5
    rw[h5]
    simp only[ofDs,byteCells,← List.map_drop,← List.map_take,List.drop_take]
theorem BV.vw (h:BV st v L):vw 1 st v=some (L.length,byteCells L):=by
  rcases h with⟨nz,rfl⟩ | ⟨id,off,cap,c,rfl,h1,h2,h3,h4⟩
  · rfl
  · simp only[Go.Sh.vw,if_true,Nat.mul_one,cellsAt,h2,h3,h4,toDs_of,Option.map_some]
theorem BV.b2s (h:BV st v L):b2sV st v=some (.d (.s L)):=by
  have hv:=h.vw
  have hl:(byteCells L).length=L.length:=by simp[byteCells]
  have key:(match Go.Sh.vw 1 st v with
    | some (n,ds)=> if ds.length=n then(bytesOf ds).map fun l=> V.d (.s l) else none
    | none=> none)=some (.d (.s L)):=by rw[hv];simp only[hl,if_true,bytesOf_cells,Option.map_some]
  rcases h with⟨nz,rfl⟩ | ⟨id,off,cap,c,rfl,_⟩ <;> exact key
theorem BV.idx (h:BV st v L):pIdxB [v,.d (.i .u8 0)] st=some (.d (.i .i64 (Lib.indexByte L 0))):=by
  have hv:=h.vw
  have hl:(byteCells L).length=L.length:=by simp[byteCells]
  have hn:notStr v=true:=by rcases h with⟨nz,rfl⟩ | ⟨id,off,cap,c,rfl,_⟩ <;> rfl
  simp only[pIdxB,hn,if_true,hv,hl,bytesOf_cells,Option.map_some]
  rfl
end
def RdPost (st:St)(L:List UInt8)(v:V)(st':St):Prop:=Kp st st' (fun _=> False) (fun _=> False)∧match readB L with
  | (none,q)=> v= .tup [.d .np,.d (.i .i64 (q:Nat)),.d (.i .i64 80)]
  | (some ns,_)=> ∃ p m tn tp,v= .tup [.ptr p 0,.d (.i .i64 0),.d (.i .i64 0)]∧Tbl st' p m tn tp ns∧st.heap.length≤p∧st.heap.length≤m∧(ns≠ []→st.tips.length≤tn∧st.tips.length≤tp)
theorem readB_none {L:List UInt8}(h:∀ r,L≠0::r):readB L=(none,0):=by
  unfold readB
  cases L with
  | nil=> rfl
  | cons x r=>
    have:x≠0:=fun e=> h r (by rw[e])
    simp[this]
section
variable {pr:Prog}(hp:Sub strsFns pr)(hq:SubP strsPrims pr){st:St}
include hp hq
theorem den_Read {v:V}{L:List UInt8}(hfl:st.floor=0)(htf:st.tfloor=0)(hv:BV st v L)(hL:L.length≤1099511627000):∃ x st',den pr 143 [v] st=some (x,st')∧RdPost st L x st':=by
  have hlen:=hv.len
  obtain⟨Q,hQd⟩:∃ Q:V→St→Prop,∀ x s,Q x s↔RdPost st L x s:=⟨_,fun _ _=> Iff.rfl⟩
  suffices h:Ans Q (den pr 143 [v] st) by
    obtain⟨x,st',h1,h2⟩:=h.ex
    exact⟨x,st',h1,(hQd _ _).1 h2⟩
  rw[den_fn (hp.at 12 rfl) rfl rfl,start_raw _ rfl]
  have hbad:∀ s,Kp st s (fun _=> False) (fun _=> False)→∀ q,readB L=(none,q)→Q (.tup [.d .np,.d (.i .i64 (q:Nat)),.d (.i .i64 80)]) s:=fun s k q hr=> (hQd _ _).2 ⟨k,by rw[hr]⟩
  cases L with
  | nil=>
    have h0:=hbad st (.refl _ _ _) 0 rfl
    simp[F143,hlen]
    exact h0
  | cons x r=>
    obtain⟨a0,g1,g2⟩:=hv.get (i:=0) (b:=x) rfl (k:= .i64)
    have hlp:¬ ((r.length:Int)+1=0):=by omega
    have hlp':¬ (((x::r).length:Nat):Int)=0:=by simp;omega
    by_cases hx:x=0
    rotate_left
    · have h0:=hbad st (.refl _ _ _) 0 (readB_none fun r' e=> hx (by simp at e;exact e.1))
      have hxn:¬ (x.toNat=0):=by
        intro e
        apply hx
        have:x.toNat=(0:UInt8).toNat:=by simpa using e
        exact UInt8.toNat_inj.1 this
      simp[F143,hlen,hlp,hlp']at g1 g2 ⊢
      simp[g1,g2,hxn]
      exact h0
    subst hx
    obtain⟨s0',n1,n2,n3⟩:=den_New hp hfl htf
    have hst0:=hv.keep n3 fun _ _ h=> h
    simp[F143,hlen,hlp,hlp',n1]at g1 g2 ⊢
    simp[g1,g2,n1]
    generalize hLo:cden pr (.loop _ _ _) _ _=o
    have hrd:readB (0::r)=rdNm r.length [] 1 r:=by simp[readB]
    obtain⟨J2,hJ2⟩:∃ J2:Out→Prop,∀ rr,J2 rr↔((∃ e s m tn tp p ns,rr=(.exit 0,e,s)∧e.get 5=some (.ptr p 0)∧Kp st s (fun _=> False) (fun _=> False)∧readB (0::r)=(some ns,0)∧Tbl s p m tn tp ns∧st.heap.length≤p∧st.heap.length≤m∧(ns≠ []→st.tips.length≤tn∧st.tips.length≤tp))∨(∃ e s q,rr=(.ret,e,s)∧e.get 2=some (.d .np)∧e.get 3=some (.d (.i .i64 (q:Nat)))∧e.get 4=some (.d (.i .i64 80))∧Kp st s (fun _=> False) (fun _=> False)∧readB (0::r)=(none,q))):=⟨_,fun _=> Iff.rfl⟩
    have key:∃ rr,o=some rr∧J2 rr:=by
      rw[← hLo]
      obtain⟨J,hJ⟩:∃ J:Nat→Env→St→Prop,∀ n e s,J n e s↔∃ m tn tp ns,n+endAt 1 ns=(0::r).length∧e= [(0,v),(5,.ptr (st.heap.length+1) 0)]∧Kp st s (fun _=> False) (fun _=> False)∧(∀ k,n≤k→readB (0::r)=rdNm k ns (endAt 1 ns) ((0::r).drop (endAt 1 ns)))∧Tbl s (st.heap.length+1) m tn tp ns∧BV s v (0::r)∧st.heap.length≤m∧(ns≠ []→st.tips.length≤tn∧st.tips.length≤tp):=⟨_,fun _ _ _=> Iff.rfl⟩
      refine loop_j J ?_ (n:=r.length)
        ((hJ _ _ _).2 ⟨st.heap.length,0,0,[],by simp[endAt],by simp,n3,fun k hk=> ?_,n2,hst0,Nat.le_refl _,fun h=> absurd rfl h⟩)
      rotate_left
      · rw[hrd]
        show _=rdNm k [] 1 r
        -- the fuel does not matter
        have fuel:∀ (k1 k2:Nat) ns a (t:List UInt8),t.length≤k1→t.length≤k2→rdNm k1 ns a t=rdNm k2 ns a t:=by
          intro k1
          induction k1 with
          | zero=>
            intro k2 ns a t h1 h2
            have:t= []:=List.eq_nil_of_length_eq_zero (by omega)
            subst this
            cases k2 <;> simp[rdNm]
          | succ k1 ih=>
            intro k2 ns a t h1 h2
            cases k2 with
            | zero=>
              have:t= []:=List.eq_nil_of_length_eq_zero (by omega)
              subst this
              simp[rdNm]
            | succ k2=>
              unfold rdNm
              split
              · rfl
              · split
                · rfl
                · rename_i h0 _
                  have:0 < t.length:=List.length_pos_iff.2 h0
                  exact ih k2 _ _ _ (by rw[List.length_drop];omega) (by rw[List.length_drop];omega)
        exact fuel _ _ _ _ _ (Nat.le_refl _) hk
      intro n e s hJn
      obtain⟨m,tn,tp,ns,hn,rfl,hk,hrdk,htb,hbv,hm,htk⟩:=(hJ _ _ _).1 hJn
      clear hJn
      obtain⟨vN,vP,hrow,hN,hP⟩:=htb.row
      have hbl:=hbv.len
      have hge:=endAt_ge (a:=1) (ns:=ns)
      obtain⟨E,hE⟩:∃ E,E=endAt 1 ns:=⟨_,rfl⟩
      have hN1:=hrdk n (Nat.le_refl _)
      rw[← hE]at hrow hn hge hN1
      obtain⟨W,hW⟩:∃ W:List UInt8,W=0::r:=⟨_,rfl⟩
      rw[← hW]at hbl hbv hn hN1 hL
      have hret:∀ e q,e.get 2=some (.d .np)→e.get 3=some (.d (.i .i64 (q:Nat)))→e.get 4=some (.d (.i .i64 80))→readB W=(none,q)→J2 (.ret,e,s):=fun e q e2 e3 e4 hr=> (hJ2 _).2 (.inr ⟨e,s,q,rfl,e2,e3,e4,hk,by rw[← hW];exact hr⟩)
      rcases Nat.lt_or_ge E W.length with hlt | hge2
      rotate_left
      · have hEe:E=W.length:=by omega
        have hnE:¬ ((E:Int) < W.length):=by omega
        simp[F143_b0,hrow,hbl,hnE]
        refine(hJ2 _).2 (.inl ⟨_,_,m,tn,tp,_,ns,rfl,by simp,hk,?_,htb,by omega,hm,htk⟩)
        rw[← hW,hN1,hEe,List.drop_length]
        have:n=0:=by omega
        subst this
        rfl
      have hltE:(E:Int) < W.length:=by omega
      have hnp:0 < n:=by omega
      obtain⟨n',rfl⟩:∃ n',n=n'+1:=⟨n - 1,by omega⟩
      obtain⟨w,w1,w2,w3⟩:=hbv.slc (lo:=some (.d (.i .i64 (E:Nat)))) (hi:=none) (a:=E) (b:=W.length) rfl rfl (by omega) (Nat.le_refl _)
      rw[List.take_length]at w2
      have hidx:=hq.den 2 rfl (args:= [w,.d (.i .u8 0)]) (st:=s) w2.idx
      rw[idx_zero]at hidx
      obtain⟨R,hR⟩:∃ R,R=W.drop E:=⟨_,rfl⟩
      rw[← hR]at hidx w2 hN1
      have hRl:R.length=W.length - E:=by rw[hR,List.length_drop]
      have hRne:R≠ []:=fun e=> by rw[e]at hRl;simp at hRl;omega
      have hzl:=toZero_len R
      unfold rdNm at hN1
      rw[if_neg hRne]at hN1
      -- a fault
      have fault:(toZero R).length=R.length∨(toZero R).length=0∨64 < (toZero R).length∨toZero R∈ns→readB W=(none,E):=fun hc=> by rw[hN1,if_pos hc]
      have dr1:∀ e',opsS pr (den pr) [] [] e' s=some (e',s):=fun _=> rfl
      by_cases hc1:(toZero R).length=R.length
      · have hfa:=fault (.inl hc1)
        rw[if_pos hc1]at hidx
        simp[F143_b0,hrow,hbl,hltE,w1,hidx]
        exact hret _ E (by simp) (by simp) (by simp) hfa
      rw[if_neg hc1]at hidx
      by_cases hc2:(toZero R).length < 1
      · have hfa:=fault (.inr (.inl (by omega)))
        have hc2':((toZero R).length:Int) < 1:=by omega
        simp[F143_b0,hrow,hbl,hltE,w1,hidx,hc2']
        exact hret _ E (by simp) (by simp) (by simp) hfa
      have hc2':¬ ((toZero R).length:Int) < 1:=by omega
      by_cases hc3:64 < (toZero R).length
      · have hfa:=fault (.inr (.inr (.inl hc3)))
        have hc3':(64:Int) < ((toZero R).length:Int):=by omega
        simp[F143_b0,hrow,hbl,hltE,w1,hidx,hc2',hc3']
        exact hret _ E (by simp) (by simp) (by simp) hfa
      have hc3':¬ (64:Int) < ((toZero R).length:Int):=by omega
      have wadd:IntKind.wrap .i64 ((E:Int)+((toZero R).length:Int))=(E:Int)+((toZero R).length:Int):=wrap_i64 (by omega) (by omega)
      obtain⟨u,u1,u2,u3⟩:=hbv.slc (lo:=some (.d (.i .i64 (E:Nat)))) (hi:=some (.d (.i .i64 ((E:Int)+((toZero R).length:Int))))) (a:=E) (b:=E+(toZero R).length) (by simp[Bd,intV]) rfl (by omega) (by omega)
      have hname:(W.take (E+(toZero R).length)).drop E=toZero R:=by
        rw[List.drop_take,Nat.add_sub_cancel_left,← hR,toZero_take]
      rw[hname]at u2
      have ub:=u2.b2s
      have hfe:=findE_ents (toZero R) ns 1
      have hmap:=htb.map
      by_cases hc4:toZero R∈ns
      · have hfa:=fault (.inr (.inr (.inr hc4)))
        obtain⟨q,hqq⟩:∃ q,findNm (toZero R) 1 ns=some q:=by
          cases hf:findNm (toZero R) 1 ns with
          | none=> exact absurd hc4 (findNm_none.1 hf)
          | some q=> exact⟨q,rfl⟩
        rw[hqq]at hfe
        simp[F143_b0,hrow,hbl,hltE,w1,hidx,hc2',hc3',wadd,u1,ub,lookV,keyOk,hmap,hfe,lookOut,zeroV]
        exact hret _ E (by simp) (by simp) (by simp) hfa
      rw[findNm_none.2 hc4]at hfe
      have hok:okNm (toZero R)=true:=by
        unfold okNm
        rw[toZero_no]
        simp
        omega
      have hzr:(toZero R).length < R.length:=by omega
      obtain⟨s5,tn',tp',p1,p2,p3,p4⟩:=den_putS hp hq htb hok hc4 (by omega)
      simp[F143_b0,hrow,hbl,hltE,w1,hidx,hc2',hc3',wadd,u1,ub,lookV,keyOk,hmap,hfe,lookOut,zeroV,p1]
      rw[if_neg (by rintro(h | h | h | h) <;> first | omega | exact hc4 h)]at hN1
      have hne:endAt 1 (ns++ [toZero R])=E+(toZero R).length+1:=by rw[endAt_snoc,← hE]
      have k5:Kp st s5 (fun _=> False) (fun _=> False):=by
        have pp:Kp s s5 (fun i=> st.heap.length≤i) (fun t=> st.tips.length≤t):=p3.mono (fun i _ h=> by rcases h with h | h <;> omega) fun t _ ⟨h0,h⟩=> by
          obtain⟨q1,q2⟩:=htk h0
          rcases h with h | h <;> omega
        exact⟨pp.floor.trans hk.floor,pp.tfloor.trans hk.tfloor,Nat.le_trans hk.hlen pp.hlen,Nat.le_trans hk.tlen pp.tlen,fun i hi _=> (pp.heap i (Nat.lt_of_lt_of_le hi hk.hlen) (by omega)).trans (hk.heap i hi id),fun t ht _=> (pp.tips t (Nat.lt_of_lt_of_le ht hk.tlen) (by omega)).trans (hk.tips t ht id)⟩
      refine⟨n' - (toZero R).length,by omega,(hJ _ _ _).2 ⟨m,tn',tp',ns++ [toZero R],by rw[hne,← hW];omega,rfl,k5,fun k hkk=> ?_,p2,?_,hm,fun _=> ?_⟩⟩
      · -- what is still to be read
        have hsub:=hrdk (k+(toZero R).length+1) (by omega)
        rw[← hE,← hW,← hR]at hsub
        have hstep:rdNm (k+(toZero R).length+1) ns E R=rdNm (k+(toZero R).length) (ns++ [toZero R]) (E+(toZero R).length+1) (R.drop ((toZero R).length+1)):=by
          conv=> lhs;unfold rdNm
          rw[if_neg hRne,if_neg (by rintro(h | h | h | h) <;> first | omega | exact hc4 h)]
        rw[← hW,hsub,hstep,hne]
        have hdd:W.drop (E+(toZero R).length+1)=R.drop ((toZero R).length+1):=by rw[hR,List.drop_drop];congr 1
        rw[hdd]
        have fuel:∀ (k1 k2:Nat) ns a (t:List UInt8),t.length≤k1→t.length≤k2→rdNm k1 ns a t=rdNm k2 ns a t:=by
          intro k1
          induction k1 with
          | zero=>
            intro k2 ns a t h1 h2
            have:t= []:=List.eq_nil_of_length_eq_zero (by omega)
            subst this
            cases k2 <;> simp[rdNm]
          | succ k1 ih=>
            intro k2 ns a t h1 h2
            cases k2 with
            | zero=>
              have:t= []:=List.eq_nil_of_length_eq_zero (by omega)
              subst this
              simp[rdNm]
            | succ k2=>
              unfold rdNm
              split
              · rfl
              · split
                · rfl
                · rename_i h0 _
                  have:0 < t.length:=List.length_pos_iff.2 h0
                  exact ih k2 _ _ _ (by rw[List.length_drop];omega) (by rw[List.length_drop];omega)
        exact fuel _ _ _ _ _ (by rw[List.length_drop];omega) (by rw[List.length_drop];omega)
      · rw[← hW]
        refine hbv.keep (R:=TR (st.heap.length+1) m) (T:=TT tn tp ns) p3 fun j hj h=> ?_
        have hjlt:=hv.lt hj
        rcases h with h | h <;> omega
      · rcases p4 with⟨rfl,rfl,hne0⟩ | ⟨q1,q2⟩
        · exact htk hne0
        · have:=hk.tlen
          omega
    obtain⟨rr,rfl,key⟩:=key
    rcases(hJ2 _).1 key with⟨e,s,m,tn,tp,p,ns,rfl,e5,hk,hr,ht,h1,h2,h3⟩ | ⟨e,s,q,rfl,e2,e3,e4,hk,hr⟩
    · simp[e5]
      refine(hQd _ _).2 ⟨hk,?_⟩
      rw[hr]
      exact⟨p,m,tn,tp,rfl,ht,h1,h2,h3⟩
    · simp[e2,e3,e4]
      exact hbad s hk q hr
end
@[simp] theorem own_cs {s n:Nat}{nz:Bool}{c:List D}{t:Nat}:V.cs (.own s n nz c t)= [.own s n nz c t]:=rfl
@[simp] theorem own_ok1 {s n:Nat}{nz:Bool}{c:List D}{t:Nat}:V.ok1 (.own s n nz c t)=true:=rfl
end Go.Sh
