/- Part of the proof. -/
import Derived.Test.YtpgipjjhapapjaaShLsoM
set_option linter.unusedVariables false
set_option linter.unusedSimpArgs false
set_option linter.unusedSectionVars false
namespace Go.Sh
section
variable {s s':St}{p:Nat}{R:List V}{lab:Nat→Option Nat}{fs:Fs}{pv:List (Nat×V×List D)}
theorem Hq.kr (h:Hq s p R lab fs pv []){A:Nat→Prop}(k:Kr s s' A)(hR:∀ i,i < s.heap.length→A i→Ap' lab pv i):Hq s' p R lab fs pv []:=by
  have hl:∀ a r,lab a=some r→s'.row r=s.row r:=fun a r hr=> k.keep r (h.labs.lt a r hr) fun e=> (hR r (h.labs.lt a r hr) e).1 a hr
  refine⟨k.floor.trans h.fl,(hl 0 p h.p0).trans h.row,h.p0,h.f0,fun a x hx=> (h.lr a x hx).row fun r hr=> hl a r hr,h.labs.mono k.len,fun x hx=> ⟨(h.pv x hx).1.row fun r hr=> ?_,(h.pv x hx).2⟩,fun x hx=> by cases hx⟩
  have hlt:=(h.pv x hx).1.lt hr
  exact k.keep r hlt fun e=> (hR r hlt e).2 x hx hr
theorem S8.kr {b:S8b}(h:S8 s p b lab fs pv []){A:Nat→Prop}(k:Kr s s' A)(hR:∀ i,i < s.heap.length→A i→Ap' lab pv i):S8 s' p b lab fs pv []:={h with hp:=h.hp.kr k hR}
def BRs (p:Nat)(b:Bk)(r:Nat):Prop:=(∃ a,b.lab p a=some r)∨∃ v,(v∈b.kv∨v∈b.wv)∧foot v=some r
theorem BkI.brlt {b:Bk}(h:BkI s p b){r:Nat}(hr:BRs p b r):r < s.heap.length:=by
  rcases hr with⟨a,hr⟩ | ⟨v,hv,hr⟩
  · exact h.lablt a r hr
  · obtain⟨L,hb⟩:=h.vbyt9 hv
    exact hb.lt hr
theorem BkI.kr' {b:Bk}(h:BkI s p b){A:Nat→Prop}(k:Kr s s' A)(hR:∀ r,BRs p b r→¬ A r):BkI s' p b:=h.kr k (fun a r e=> hR r (.inl ⟨a,e⟩)) fun v hv r e=> hR r (.inr ⟨v,hv,e⟩)
theorem OW.brs {b b':Bk}{n:Nat}{j:Option Nat}(h:OW s s' p b b' n j){r:Nat}(hr:BRs p b' r):BRs p b r∨j=some r∨s.heap.length≤r:=by
  rcases hr with⟨a,hr⟩ | ⟨v,hv,hr⟩
  · rcases h.lo a r hr with e | e | e
    · exact .inl (.inl e)
    · exact .inr (.inl e)
    · exact .inr (.inr e)
  · rcases h.vo v hv r hr with(e | e | e) | e
    · obtain⟨v,q1,q2⟩:=e
      exact .inl (.inr ⟨v,q1,q2⟩)
    · exact .inl (.inl e)
    · exact .inr (.inr e)
    · exact .inr (.inl e)
theorem Fr8.ap {lab':Nat→Option Nat}{pv':List (Nat×V×List D)}{a:Nat}{j:Option Nat}(h:Fr8 s s' (upd lab a j) lab' pv pv'){r:Nat}(hA:Ap' lab pv r)(hj:j≠some r)(hr:r < s.heap.length):Ap' lab' pv' r:=by
  have hu:∀ c,upd lab a j c≠some r:=fun c e=> by
    by_cases hc:c=a
    · subst hc;rw[upd_eq]at e;exact hj e
    · rw[upd_ne hc]at e;exact hA.1 c e
  refine⟨fun c e=> ?_,fun y hy e=> ?_⟩
  · rcases h.lb c r e with⟨c',e⟩ | e
    · exact hu c' e
    · omega
  · rcases h.vs y hy r e with⟨x,hx,e⟩ | ⟨c',e⟩ | e
    · exact hA.2 x hx e
    · exact hu c' e
    · omega
theorem Fr8.no {lab':Nat→Option Nat}{pv':List (Nat×V×List D)}{a:Nat}{j:Option Nat}(h:Fr8 s s' (upd lab a j) lab' pv pv'){r:Nat}(hA:Ap' lab pv r)(hj:j≠some r):¬ ∃ c,upd lab a j c=some r:=by
  rintro⟨c,e⟩
  by_cases hc:c=a
  · subst hc;rw[upd_eq]at e;exact hj e
  · rw[upd_ne hc]at e;exact hA.1 c e
end
structure LI8 (s:St)(d p m:Nat)(live:Bool)(pb ps n:Nat)(tn tp:Nat)(ns:List Nm)(b:Bk)(b8:S8b)(lab:Nat→Option Nat)(fs:Fs)(pv:List (Nat×V×List D)):Prop where
  dk:Dsk s d p m tn tp live ns
  sm:endAt 1 ns≤2097153+65 * n
  bk:BkI s pb b
  bf:b.fr.length≤2
  bkv:b.kv.length≤18 * n
  bt:b.total≤2000000000
  s8:S8 s ps b8 lab fs pv []
  sf:b8.fr.length≤2
  skv:b8.kv.length≤12 * n
  stt:b8.tot≤2000000000
  db:∀ r,DR d p m live r→¬ BRs pb b r
  ds:∀ r,DR d p m live r→Ap' lab pv r
  bs:∀ r,BRs pb b r→Ap' lab pv r
def LE8 (s:St)(d p m:Nat)(live:Bool)(pb ps n:Nat):Prop:=∃ tn tp ns b b8 lab fs pv,LI8 s d p m live pb ps n tn tp ns b b8 lab fs pv
section
variable {s s1:St}{d p m:Nat}{live:Bool}{pb ps n tn tp:Nat}{ns:List Nm}{b:Bk}{b8:S8b}{lab:Nat→Option Nat}{fs:Fs}{pv:List (Nat×V×List D)}
theorem LI8.act (h:LI8 s d p m live pb ps n tn tp ns b b8 lab fs pv){x1 x2:V}{L1:List UInt8}{L2:List Nm}{j1 j2:Option Nat}(hA:ActR s s1 d p m tn tp live ns x1 x2 L1 L2 j1 j2):∃ tn' tp' ns',LI8 s1 d p m live pb ps (n+1) tn' tp' ns' b b8 lab fs pv:=by
  obtain⟨⟨tn',tp',ns',h1,h2⟩,kr,_⟩:=hA
  have h3:=h.sm
  have h4:=h.bkv
  have h5:=h.skv
  exact⟨tn',tp',ns',h1,by omega,h.bk.kr' kr fun r hr hd=> h.db r hd hr,h.bf,by omega,h.bt,h.s8.kr kr fun r _ hd=> h.ds r hd,h.sf,by omega,h.stt,h.db,h.ds,h.bs⟩
theorem LI8.e (h:LI8 s d p m live pb ps n tn tp ns b b8 lab fs pv):LE8 s d p m live pb ps n:=⟨tn,tp,ns,b,b8,lab,fs,pv,h⟩
end
section
variable {pr:Prog}(hb:Sub bookFns pr)(ho:Sub so8Fns pr)(hr:Sub ref8Fns pr){s0 s:St}{d p m:Nat}{live:Bool}{pb ps n tn tp tn0 tp0:Nat}{ns ns0:List Nm}{b:Bk}{b8:S8b}{lab:Nat→Option Nat}{fs:Fs}{pv:List (Nat×V×List D)}
include hb ho hr
theorem callW_takeIn (h0:LI8 s0 d p m live pb ps n tn0 tp0 ns0 b b8 lab fs pv){x1 x2:V}{L1:List UInt8}{L2:List Nm}{j1 j2:Option Nat}(hA:ActR s0 s d p m tn0 tp0 live ns0 x1 x2 L1 L2 j1 j2)(h:LI8 s d p m live pb ps (n+1) tn tp ns b b8 lab fs pv)(hn:n≤8000000)(ht:b.total+b8.tot < 3000)(mark:Int){Q:V→St→Prop}
    (hQ:∀ s1,CallW pr 390 [.ptr ps 0,x2] s1 (fun v s2=> v= .tup []∧LE8 s2 d p m live pb ps (n+1))→Q (.tup []) s1):CallW pr 126 [.ptr pb 0,x1,.d (.i .i64 mark)] s Q:=by
  have sm0:=h0.sm
  have l1:=hA.l1
  have l2:=hA.l2
  have hlen:=hA.kr.len
  have kv0:=h0.bkv
  have kv8:=h0.skv
  have bt0:=h0.bk.total
  have st0':=h0.s8.total
  refine callW_Own hb h.bk hA.x1 (fun r hr=> ?_) (by omega) mark h.bf (by omega) (by omega) ?_
  · have hlt:=hA.n1 r hr
    refine⟨fun a e=> ?_,fun v hv e=> ?_⟩
    · have:=h0.bk.brlt (.inl ⟨a,e⟩);omega
    · have:=h0.bk.brlt (.inr ⟨v,hv,e⟩);omega
  intro s1 b' hO
  have hA1:∀ r,r < s0.heap.length→¬ BRs pb b r→¬ ((∃ a,b.lab pb a=some r)∨j1=some r∨s.heap.length≤r):=fun r hr hnb e=> by
    rcases e with e | e | e
    · exact hnb (.inl e)
    · have:=hA.n1 r e;omega
    · omega
  have hD1:∀ r,DR d p m live r→¬ ((∃ a,b.lab pb a=some r)∨j1=some r∨s.heap.length≤r):=fun r hr=> hA1 r (h0.dk.rlt hr) (h0.db r hr)
  have dk1:=h.dk.gr hO.gr hD1
  have hS1:∀ r,(∃ a,b.lab pb a=some r)∨j1=some r∨s.heap.length≤r→Ap' lab pv r:=fun r e=> by
    rcases e with e | e | e
    · exact h0.bs r (.inl e)
    · exact h0.s8.hp.apNew (hA.n1 r e)
    · exact h.s8.hp.apNew e
  have s81:=h.s8.kr hO.gr.kr fun r _ e=> hS1 r e
  have x21:LR s1 1 x2 L2.length (ofDs (flD sC L2)) j2:=hA.x2.row fun z hz=> hO.gr.keep z (hA.x2.lt hz) fun e=> by
    have hz2:=hA.n2 z hz
    have hlt:=hA.x2.lt hz
    rcases e with⟨a,e⟩ | e | e
    · have:=h0.bk.brlt (.inl ⟨a,e⟩);omega
    · exact hA.n12 z e hz
    · omega
  refine hQ s1 ?_
  have ol:=hO.gr.len
  refine callW_Own8 ho hr s81 (by omega) h.sf x21 (fun r hr=> ⟨x21.lt hr,h0.s8.hp.apNew (hA.n2 r hr)⟩) (by omega) ?_
  intro s2 b8' lab' fs' pv' S2 q1 q2 q3 F
  refine⟨rfl,?_⟩
  have hB:∀ r,BRs pb b' r→Ap' lab pv r∧j2≠some r:=fun r hr=> by
    rcases hO.brs hr with e | e | e
    · exact⟨h0.bs r e,fun e2=> by have:=h0.bk.brlt e;have:=hA.n2 r e2;omega⟩
    · exact⟨h0.s8.hp.apNew (hA.n1 r e),hA.n12 r e⟩
    · exact⟨h.s8.hp.apNew e,fun e2=> by have:=hA.x2.lt e2;omega⟩
  have hD:∀ r,DR d p m live r→Ap' lab pv r∧j2≠some r:=fun r hr=> ⟨h0.ds r hr,fun e=> by have:=h0.dk.rlt hr;have:=hA.n2 r e;omega⟩
  have kl:=hO.kl
  have tt:=hO.total
  refine⟨tn,tp,ns,b',b8',lab',fs',pv',dk1.gr F.gr (fun r hr=> F.no (hD r hr).1 (hD r hr).2),h.sm,hO.bk.kr' F.gr.kr (fun r hr=> F.no (hB r hr).1 (hB r hr).2),hO.frl,by omega,by omega,S2,q3,by omega,by omega,fun r hr hbr=> ?_,fun r hr=> F.ap (hD r hr).1 (hD r hr).2 ?_,fun r hr=> F.ap (hB r hr).1 (hB r hr).2 (hO.bk.brlt hr)⟩
  · have hlt:=h0.dk.rlt hr
    rcases hO.brs hbr with e | e | e
    · exact h0.db r hr e
    · have:=hA.n1 r e;omega
    · omega
  · have hlt:=h0.dk.rlt hr
    omega
end
end Go.Sh
