/- Part of the proof. -/
import Derived.Test.YtidigkielipghaaGreatDoorShBd
import Derived.Lib.Bytealg
import Derived.Lib.BytesEntry
import Derived.Sort.KeysCollected
set_option linter.unusedVariables false
set_option linter.unusedSimpArgs false
namespace Go.Sh
open Go.RowKit Go.ChangeShapes
theorem lookup_mem {α:Type}:∀ {l:List (Nat×α)} {k:Nat} {v:α},l.lookup k=some v→(k,v)∈l
  | [],k,v,h=> by simp at h
  | (j,u)::r,k,v,h=> by
    simp only[List.lookup_cons]at h
    split at h
    · rename_i he
      simp only[Option.some.injEq]at h
      subst h
      have:k=j:=by simpa using he
      subst this
      exact List.mem_cons_self
    · exact List.mem_cons_of_mem _ (lookup_mem h)
def PrimOk (P:Program)(Pr:Prog)(L:Link)(f:Nat)(g:List V→St→Option V):Prop:=∀ (κ:K) (st:St) (args:List V) (vals:List Value) (r:V),κ.L=L→Inv Pr κ st→All2 (Rep κ) args vals→g args st=some r→
    Calls P (L.fn f) vals.toArray κ.w fun e w'=> ∃ κ' v,κ'.w=w'∧e= .returned v∧κ.le κ'∧Inv Pr κ' st∧Rep κ' r v
theorem tied_of2 {P:Program}{Pr:Prog}{L:Link}{fns:List (Nat×SFn)}{prims:List (Nat×(List V→St→Option V))}(hp:∀ f,Pr.fn f=fns.lookup f)(hq:∀ f,Pr.prim f=prims.lookup f)(h:∀ x∈fns,∃ fn,P.funcs[L.fn x.1]? =some fn∧okFn P Pr L fn x.2=true)
    (h2:∀ x∈prims,PrimOk P Pr L x.1 x.2):Tied P Pr L:=by
  refine⟨fun f sf hf=> ?_,fun f g _ hg=> ?_⟩
  · rw[hp]at hf
    exact h (f,sf) (lookup_mem hf)
  · rw[hq]at hg
    exact h2 (f,g) (lookup_mem hg)
section
variable {P:Program}{Pr:Prog}{L:Link}{W:World}
theorem walk_trueW (ht:Tie P Pr L)(hg:Globs Pr L W){F:Nat}{xs:List V}{vals:List Value}(ha:All2 (Rep (K.at0 L W)) xs vals)(h:CallW Pr F xs st0 fun r _=> r= .d (.b true)):
    Calls P (L.fn F) vals.toArray W fun e w'=> e= .returned (.bool true)∧Below W.heap.size W w':=by
  refine(h P L ht (K.at0 L W) vals rfl (Inv.at0 hg) ha).mono ?_
  rintro e w' ⟨κ',v,r,st',rfl,rfl,h1,h2,h3,h4,rfl⟩
  have h3:v= .bool true:=rep_b.1 h3
  subst h3
  refine⟨rfl,?_⟩
  have:=h2.below
  rw[h1.w0]at this
  exact this
variable {H:Type}{enc:TypeId×Value→H}{sp:Nat→Bool}{base:Nat}
theorem contractW (hl:laidOutB P=true)(ht:Tie P Pr L)(hg:Globs Pr L W){F:Nat}{fn:Func}{s:ChangeSpec}{tys:List Ty}(hty:tysOk P fn.params.toList tys=true)
    (hr:(fn.params.toList.all fun t=> P.readableRec t && decide (t < P.types.size))=true) {tb:TypeId} (hres:fn.resultTypes.toList= [tb]) (hub:P.underlying tb=some .bool) (hs:SaysTrue s fn.params.toList.length)
    {args:Array Value} {ds gs:List (DataW H)} {before:List MemPlace} (hval:∀ (j:Nat) t v,fn.params[j]? =some t→args[j]? =some v→Value.okWide P W .any base t v)
    (hW:DataW.Whole enc P fn.params.toList s.vars false W args.toList ds gs before) (hw:(DataW.weightsEach P fn.params.toList ds).all (· ≤reachBytes)=true)
    (hden:∀ dss,All2 Has tys dss→bulkL dss.flatten≤bulkWs (ds++gs)→CallW Pr F (argVs tys dss) st0 fun r _=> r= .d (.b true)):
    Calls P (L.fn F) args W fun e W'=> ∃ v,e= .returned v∧s.post enc P fn false true false false W args v W':=by
  have hW':=hW
  obtain⟨p,q,hA,hV,rfl,hfz,hnd⟩:=hW
  obtain⟨hs1,hs2⟩:=hs
  rw[hs1]at hV
  obtain⟨rfl,rfl⟩:=trodVars_none hV
  obtain⟨dss,h1,h2,h3⟩:=args_rep (L:=L) hty (fun j t v ht hv=> hval j t v (by simpa using ht) (by simpa using hv)) hA hw
  rw[List.append_nil]at hden
  have hd:=hden dss h2 h3
  have:=walk_trueW ht hg h1 hd
  rw[show args.toList.toArray=args by simp]at this
  refine this.mono ?_
  rintro e W' ⟨rfl,bel⟩
  obtain⟨hs2,hs3,hs4⟩:=hs2 H ds (trodAll_length hA)
  have hsz:fn.resultTypes.size=1:=by rw[← Array.length_toList,hres];rfl
  refine⟨_,rfl,ds,[],_,[],p,[],hW',?_,?_,?_,bel.frame _,fun h=> by cases h⟩
  · rw[List.append_nil,hs2,hres,hsz]
    exact trodAll_mk1 (shut_bool hub _)
  · rw[List.append_nil,hs3]
    exact trodAll_below hl bel hr hA
  · rw[List.append_nil,hs4,hs1]
    rfl
end
end Go.Sh
namespace Go.Sh
attribute [simp] wants put bind1 pureR stR Opd.ev evs partsV evo Env.get resV resOne resAll initE finish arI toDs
attribute [simp] cden_keep cden_exit cden_ret cden_skip
/-! What follows a part of a run, kept shut until that part has been run. -/
noncomputable def seqK (P:Prog) (b:SCode):Option Out→Option Out
  | some (.normal,e',st')=> cden P b e' st'
  | r=> r
noncomputable def condK (P:Prog) (a b:SCode) (e:Env) (st:St):Option V→Option Out
  | some (.d (.b true))=> cden P a e st
  | some (.d (.b false))=> cden P b e st
  | _=> none
def blockK (i:Nat):Option Out→Option Out
  | some (.exit j,e',st')=> if j=i then some (.normal,e',st') else some (.exit j,e',st')
  | r=> r
def regK:Option (Env×St)→Option Out
  | some (e',st')=> some (.normal,e',st')
  | none=> none
noncomputable def loopK (P:Prog) (live:List Nat) (tr:Bool) (c:SCode):Option Out→Option Out
  | some (.normal,e',st')=> cden P (.loop live tr c) e' st'
  | r=> r
section
variable {P:Prog}{e:Env}{st:St}
@[simp] theorem cden_seqK {a b:SCode}:cden P (.seq a b) e st=seqK P b (cden P a e st):=by rw[cden_seq];rfl
@[simp] theorem seqK_normal {b:SCode}:seqK P b (some (.normal,e,st))=cden P b e st:=rfl
@[simp] theorem seqK_exit {b:SCode}{i:Nat}:seqK P b (some (.exit i,e,st))=some (.exit i,e,st):=rfl
@[simp] theorem seqK_ret {b:SCode}:seqK P b (some (.ret,e,st))=some (.ret,e,st):=rfl
@[simp] theorem seqK_none {b:SCode}:seqK P b none=none:=rfl
@[simp] theorem cden_condK {c:Opd}{a b:SCode}:cden P (.cond c a b) e st=condK P a b e st (c.ev P e):=by
  rw[cden_cond]
  rfl
@[simp] theorem condK_true {a b:SCode}:condK P a b e st (some (.d (.b true)))=cden P a e st:=rfl
@[simp] theorem condK_false {a b:SCode}:condK P a b e st (some (.d (.b false)))=cden P b e st:=rfl
@[simp] theorem cden_blockK {i:Nat}{c:SCode}:cden P (.block i c) e st=blockK i (cden P c e st):=by rw[cden_block];rfl
@[simp] theorem blockK_normal {i:Nat}:blockK i (some (.normal,e,st))=some (.normal,e,st):=rfl
@[simp] theorem blockK_exit {i j:Nat}:blockK i (some (.exit j,e,st))=if j=i then some (.normal,e,st) else some (.exit j,e,st):=rfl
@[simp] theorem blockK_ret {i:Nat}:blockK i (some (.ret,e,st))=some (.ret,e,st):=rfl
@[simp] theorem blockK_none {i:Nat}:blockK i none=none:=rfl
@[simp] theorem cden_regK {ops:List SOper}{d:Bool}{B:List Nat}:cden P (.region ops d B) e st=regK (opsS P (den P) ops ops e st):=by rw[cden_region];rfl
@[simp] theorem regK_some:regK (some (e,st))=some (.normal,e,st):=rfl
@[simp] theorem regK_none:regK none=none:=rfl
@[simp] theorem loopK_normal {live:List Nat}{tr:Bool}{c:SCode}:loopK P live tr c (some (.normal,e,st))=cden P (.loop live tr c) e st:=rfl
@[simp] theorem loopK_exit {live:List Nat}{tr:Bool}{c:SCode}{i:Nat}:loopK P live tr c (some (.exit i,e,st))=some (.exit i,e,st):=rfl
@[simp] theorem loopK_ret {live:List Nat}{tr:Bool}{c:SCode}:loopK P live tr c (some (.ret,e,st))=some (.ret,e,st):=rfl
end
section
variable {P:Prog}{call:CallF}{e:Env}{st:St}
@[simp] theorem opS_mov {x:Opd}:opS P call e st (.mov x)=pureR st (x.ev P e):=rfl
@[simp] theorem opS_tok {size:Nat}{x:Opd}:opS P call e st (.tok size x)=bind1 (x.ev P e) fun v=> match v with
    | .d (.sl 0 false [])=> some (.own size 0 false [] st.tips.length,{st with tips:=st.tips++ [0]})
    | _=> none:=rfl
@[simp] theorem opS_pick {c:Opd}{a:Opd}{b:Opd}:opS P call e st (.pick c a b)=bind1 (c.ev P e) fun c=> match c with
    | .d (.b c)=> bind1 (a.ev P e) fun a=> bind1 (b.ev P e) fun b=> some (if c then a else b,st)
    | _=> none:=rfl
@[simp] theorem opS_bin {op:BinOp}{x:Opd}{y:Opd}:opS P call e st (.bin op x y)=bind1 (x.ev P e) fun x=> bind1 (y.ev P e) fun y=> pureR st (binV op x y):=rfl
@[simp] theorem opS_eqv {neg:Bool}{ks:List Nat}{x:Opd}{y:Opd}:opS P call e st (.eqv neg ks x y)=bind1 (x.ev P e) fun x=> bind1 (y.ev P e) fun y=> pureR st ((eqV ks x y).map fun b=> .d (.b (if neg then !b else b))):=rfl
@[simp] theorem opS_un {op:UnOp}{x:Opd}:opS P call e st (.un op x)=bind1 (x.ev P e) fun x=> pureR st (unV op x):=rfl
@[simp] theorem opS_conv {k:IntKind}{x:Opd}:opS P call e st (.conv k x)=bind1 (x.ev P e) fun x=> pureR st (convV k x):=rfl
@[simp] theorem opS_s2b {x:Opd}:opS P call e st (.s2b x)=bind1 (x.ev P e) fun x=> match x with
    | .d (.s l)=> some (.d (.sl l.length true (byteCells l)),st)
    | _=> none:=rfl
@[simp] theorem opS_b2s {x:Opd}:opS P call e st (.b2s x)=bind1 (x.ev P e) fun x=> pureR st (b2sV st x):=rfl
@[simp] theorem opS_build {z:List D}{ps:List (Nat×Nat×Opd)}:opS P call e st (.build z ps)=match partsV P e ps with
    | some vs=> pureR st ((fillV (ofDs z) vs).map .agg)
    | none=> none:=rfl
@[simp] theorem opS_lits {n:Nat}{z:List D}{ps:List (Nat×Nat×Opd)}:opS P call e st (.lits n z ps)=match partsV P e ps with
    | some vs=> pureR st (match fillV (ofDs (reps n z)) vs with
      | some cs=> (toDs cs).map fun ds=> .d (.sl n true ds)
      | none=> none)
    | none=> none:=rfl
@[simp] theorem opS_litsO {n:Nat}{z:List D}{ps:List (Nat×Nat×Opd)}:opS P call e st (.litsO n z ps)=match partsV P e ps with
    | some vs=> match fillV (ofDs (reps n z)) vs with
      | some cs=> match toDs cs with
        | some ds=> some (.own z.length n true ds st.tips.length,{st with tips:=st.tips++ [n]})
        | none=> none
      | none=> none
    | none=> none:=rfl
@[simp] theorem opS_litsR {n:Nat}{z:List D}{ps:List (Nat×Nat×Opd)}:opS P call e st (.litsR n z ps)=match partsV P e ps with
    | some vs=> match fillV (ofDs (reps n z)) vs with
      | some cs=> some (.rsl z.length st.heap.length 0 n n,st.push (.row cs))
      | none=> none
    | none=> none:=rfl
@[simp] theorem opS_box {x:Opd}:opS P call e st (.box x)=bind1 (x.ev P e) fun v=> if v.ok1 then some (.ptr st.heap.length 0,st.push (.row v.cs)) else none:=rfl
@[simp] theorem opS_boxI {x:Opd}:opS P call e st (.boxI x)=bind1 (x.ev P e) fun v=> if v.ok1 then pureR st ((toDs v.cs).map .ep) else none:=rfl
@[simp] theorem opS_alloc {z:List D}:opS P call e st (.alloc z)=some (.ptr st.heap.length 0,st.push (.row (ofDs z))):=rfl
@[simp] theorem opS_load {size:Nat}{agg:Bool}{p:Opd}:opS P call e st (.load size agg p)=bind1 (p.ev P e) fun p=> pureR st (loadV size agg st p):=rfl
attribute [simp] apartE apartV
@[simp] theorem opS_storeX {size:Nat}{p:Opd}{x:Opd}{qs:List Nat}:opS P call e st (.storeX size p x qs)=bind1 (p.ev P e) fun p=> bind1 (x.ev P e) fun x=> if apartE e p qs=true then stR (storeV size st p x) else none:=rfl
@[simp] theorem opS_store {size:Nat}{p:Opd}{x:Opd}:opS P call e st (.store size p x)=bind1 (p.ev P e) fun p=> bind1 (x.ev P e) fun x=> stR (storeV size st p x):=rfl
@[simp] theorem opS_faddr {off:Nat}{p:Opd}:opS P call e st (.faddr off p)=bind1 (p.ev P e) fun p=> pureR st (faddrV off p):=rfl
@[simp] theorem opS_field {off:Nat}{size:Nat}{agg:Bool}{x:Opd}:opS P call e st (.field off size agg x)=bind1 (x.ev P e) fun x=> pureR st (fieldV off size agg x):=rfl
@[simp] theorem opS_iaddr {size:Nat}{x:Opd}{i:Opd}:opS P call e st (.iaddr size x i)=bind1 (x.ev P e) fun x=> bind1 (i.ev P e) fun i=> pureR st (iaddrV size x i):=rfl
@[simp] theorem opS_iaddrA {len:Nat}{size:Nat}{p:Opd}{i:Opd}:opS P call e st (.iaddrA len size p i)=bind1 (p.ev P e) fun p=> bind1 (i.ev P e) fun i=> pureR st (iaddrAV len size p i):=rfl
@[simp] theorem opS_idx {len:Nat}{size:Nat}{agg:Bool}{x:Opd}{i:Opd}:opS P call e st (.idx len size agg x i)=bind1 (x.ev P e) fun x=> bind1 (i.ev P e) fun i=> pureR st (idxV len size agg x i):=rfl
@[simp] theorem opS_idxS {x:Opd}{i:Opd}:opS P call e st (.idxS x i)=bind1 (x.ev P e) fun x=> bind1 (i.ev P e) fun i=> pureR st (idxSV x i):=rfl
@[simp] theorem opS_slc {size:Nat}{x:Opd}{lo:Option Opd}{hi:Option Opd}{mx:Option Opd}:opS P call e st (.slc size x lo hi mx)=bind1 (x.ev P e) fun x=> match evo P e lo,evo P e hi,evo P e mx with
    | some lo,some hi,some mx=> pureR st (slcV size x lo hi mx)
    | _,_,_=> none:=rfl
@[simp] theorem opS_slcS {x:Opd}{lo:Option Opd}{hi:Option Opd}:opS P call e st (.slcS x lo hi)=bind1 (x.ev P e) fun x=> match evo P e lo,evo P e hi with
    | some lo,some hi=> pureR st (slcSV x lo hi)
    | _,_=> none:=rfl
@[simp] theorem opS_slcA {len:Nat}{size:Nat}{x:Opd}{lo:Option Opd}{hi:Option Opd}{mx:Option Opd}:opS P call e st (.slcA len size x lo hi mx)=bind1 (x.ev P e) fun x=> match evo P e lo,evo P e hi,evo P e mx with
    | some lo,some hi,some mx=> pureR st (slcAV len size x lo hi mx)
    | _,_,_=> none:=rfl
@[simp] theorem opS_mkR {bytes:Nat}{z:List D}{l:Opd}{c:Opd}:opS P call e st (.mkR bytes z l c)=bind1 (l.ev P e) fun l=> bind1 (c.ev P e) fun c=> match room bytes l,room bytes c with
    | some n,some m=> if n≤m then some (.rsl z.length st.heap.length 0 n m,st.push (.row (ofDs (reps m z)))) else none
    | _,_=> none:=rfl
@[simp] theorem opS_mkD {bytes:Nat}{z:List D}{l:Opd}{c:Opd}:opS P call e st (.mkD bytes z l c)=bind1 (l.ev P e) fun l=> bind1 (c.ev P e) fun c=> match room bytes l,room bytes c with
    | some n,some m=> if n≤m then some (.d (.sl n true (reps n z)),st) else none
    | _,_=> none:=rfl
@[simp] theorem opS_mkO {bytes:Nat}{size:Nat}{z:List D}{l:Opd}{c:Opd}:opS P call e st (.mkO bytes size z l c)=bind1 (l.ev P e) fun l=> bind1 (c.ev P e) fun c=> match room bytes l,room bytes c with
    | some n,some m=> if n≤m∧z.length=size then some (.own size n true (reps n z) st.tips.length,{st with tips:=st.tips++ [n]}) else none
    | _,_=> none:=rfl
@[simp] theorem opS_len {str:Bool}{x:Opd}:opS P call e st (.len str x)=bind1 (x.ev P e) fun x=> pureR st ((if str then lenS x else lenV x).map fun(n:Nat)=> V.d (.i .i64 (n:Int))):=rfl
@[simp] theorem opS_lenA {n:Nat}:opS P call e st (.lenA n)=some (.d (.i .i64 n),st):=rfl
@[simp] theorem opS_app {size:Nat}{bytes:Nat}{s:Opd}{x:Opd}:opS P call e st (.app size bytes s x)=bind1 (s.ev P e) fun s=> bind1 (x.ev P e) fun x=> appV size bytes st s x:=rfl
@[simp] theorem opS_clr {sz:Nat}{z:List D}{x:Opd}:opS P call e st (.clr sz z x)=bind1 (x.ev P e) fun x=> clrV sz z st x:=rfl
@[simp] theorem opS_appZ {sz b:Nat}{z:List D}{s x:Opd}:opS P call e st (.appZ sz b z s x)=bind1 (s.ev P e) fun s=> bind1 (x.ev P e) fun x=> appZV sz b z st s x:=rfl
@[simp] theorem opS_appR {sz b:Nat}{z:List D}{s x:Opd}:opS P call e st (.appR sz b z s x)=none:=rfl
@[simp] theorem opS_cpy {size:Nat}{a:Opd}{b:Opd}:opS P call e st (.cpy size a b)=bind1 (a.ev P e) fun a=> bind1 (b.ev P e) fun b=> cpyV size st a b:=rfl
@[simp] theorem opS_mkMap {r:Option Opd}:opS P call e st (.mkMap r)=match evo P e r with
    | some none=> some (.map st.heap.length,st.push (.map []))
    | some (some v)=> match intV v with
      | some _=> some (.map st.heap.length,st.push (.map []))
      | none=> none
    | none=> none:=rfl
@[simp] theorem opS_lenM {m:Opd}:opS P call e st (.lenM m)=bind1 (m.ev P e) fun m=> match m with
    | .d .nm=> some (.d (.i .i64 0),st)
    | .map id=> match st.mapOf id with
      | some es=> some (.d (.i .i64 es.length),st)
      | none=> none
    | _=> none:=rfl
@[simp] theorem opS_look {str:Bool}{ok:Bool}{z:List D}{za:Bool}{m:Opd}{k:Opd}:opS P call e st (.look str ok z za m k)=bind1 (m.ev P e) fun m=> bind1 (k.ev P e) fun k=> pureR st (lookV str ok (zeroV z za) st m k):=rfl
@[simp] theorem opS_mapSet {str:Bool}{m:Opd}{k:Opd}{x:Opd}:opS P call e st (.mapSet str m k x)=bind1 (m.ev P e) fun m=> bind1 (k.ev P e) fun k=> bind1 (x.ev P e) fun x=> if x.ok1 then stR (mapSetV str st m k x) else none:=rfl
@[simp] theorem opS_mkI {tag:Nat}{agg:Bool}{x:Opd}:opS P call e st (.mkI tag agg x)=bind1 (x.ev P e) fun x=> pureR st (mkIV tag agg x):=rfl
@[simp] theorem opS_assertT {tag:Nat}{others:List Nat}{ok:Bool}{z:List D}{za:Bool}{x:Opd}:opS P call e st (.assertT tag others ok z za x)=bind1 (x.ev P e) fun x=> pureR st (assertV tag others ok (zeroV z za) x):=rfl
@[simp] theorem opS_extract {i:Nat}{x:Opd}:opS P call e st (.extract i x)=bind1 (x.ev P e) fun x=> match x with
    | .tup vs=> pureR st (vs[i]?)
    | _=> none:=rfl
@[simp] theorem opS_nilChk {x:Opd}:opS P call e st (.nilChk x)=bind1 (x.ev P e) fun x=> match x with
    | .ptr id off=> some (.ptr id off,st)
    | .ep cs=> some (.ep cs,st)
    | .d (.ifc t a c)=> some (.d (.ifc t a c),st)
    | _=> none:=rfl
@[simp] theorem opS_call {f:Nat}{args:List Opd}:opS P call e st (.call f args)=match evs P e args with
    | some vs=> call f vs st
    | none=> none:=rfl
def mkFnK (st:St)(f:Nat):Option (List V)→Option (V×St)
  | some vs=> pureR st ((capsV vs).map fun cs=> .fn f cs)
  | none=> none
@[simp] theorem opS_mkFn {f:Nat}{caps:List Opd}:opS P call e st (.mkFn f caps)=mkFnK st f (evs P e caps):=by
  cases h:evs P e caps <;> simp only[opS,h,mkFnK]
@[simp] theorem mkFnK_some {st:St}{f:Nat}{vs:List V}:mkFnK st f (some vs)=pureR st ((capsV vs).map fun cs=> .fn f cs):=rfl
@[simp] theorem capsV_nil:capsV []=some []:=rfl
def calK (call:CallF)(st:St)(fs:List Nat)(vs:Option (List V)):Option V→Option (V×St)
  | some (.fn f caps)=> if fs.contains f then match vs with
    | some vs=> call f (vs++capPs caps) st
    | none=> none
    else none
  | _=> none
@[simp] theorem opS_callC {fs:List Nat}{x:Opd}{args:List Opd}:opS P call e st (.callC fs x args)=calK call st fs (evs P e args) (x.ev P e):=by
  cases h:x.ev P e with
  | none=> simp only[opS,h,bind1,calK]
  | some v=> cases v <;> simp only[opS,h,bind1,calK] <;> rfl
@[simp] theorem calK_some {fs:List Nat}{f:Nat}{caps:List (Nat×Nat)}{vs:List V}:calK call st fs (some vs) (some (.fn f caps))=if fs.contains f then call f (vs++capPs caps) st else none:=rfl
@[simp] theorem capPs_nil:capPs []= []:=rfl
@[simp] theorem capPs_cons {p:Nat×Nat}{r:List (Nat×Nat)}:capPs (p::r)= .ptr p.1 p.2::capPs r:=rfl
def invK (P:Prog)(call:CallF)(e:Env)(st:St)(table:List (Nat×Nat))(args:List Opd):Option V→Option (V×St)
  | some (.d (.ifc tag agg ds))=> match table.lookup tag,mkV agg (ofDs ds),evs P e args with
    | some f,some v,some vs=> call f (v::vs) st
    | _,_,_=> none
  | _=> none
@[simp] theorem invK_ifc {table:List (Nat×Nat)}{args:List Opd}{tag:Nat}{agg:Bool}{ds:List D}:invK P call e st table args (some (.d (.ifc tag agg ds)))=match table.lookup tag,mkV agg (ofDs ds),evs P e args with
    | some f,some v,some vs=> call f (v::vs) st
    | _,_,_=> none:=rfl
@[simp] theorem opS_mx {x:Opd}{y:Opd}:opS P call e st (.mx x y)=bind1 (x.ev P e) fun x=> bind1 (y.ev P e) fun y=> pureR st (minV (fun b a=> decide (a < b)) x y):=rfl
@[simp] theorem opS_mn {x:Opd}{y:Opd}:opS P call e st (.mn x y)=bind1 (x.ev P e) fun x=> bind1 (y.ev P e) fun y=> pureR st (minV (fun b a=> decide (b < a)) x y):=rfl
end
def opsK2 (P:Prog)(call:CallF)(all r:List SOper)(dst:Option Nat)(e:Env):Option (V×St)→Option (Env×St)
  | some (v,st')=> opsS P call all r (put e dst v) st'
  | none=> none
def opsK1 (P:Prog)(call:CallF)(all r:List SOper)(dst:Option Nat)(op:SOp)(e:Env)(st:St):Option Bool→Option (Env×St)
  | some true=> opsK2 P call all r dst e (opS P call e st op)
  | some false=> opsS P call all r (put e dst .un) st
  | none=> none
section
variable {P:Prog}{call:CallF}{all r:List SOper}{dst:Option Nat}{op:SOp}{e:Env}{st:St}
@[simp] theorem opsK2_some {v:V}:opsK2 P call all r dst e (some (v,st))=opsS P call all r (put e dst v) st:=rfl
@[simp] theorem opsK2_none:opsK2 P call all r dst e none=none:=rfl
@[simp] theorem opsK1_true:opsK1 P call all r dst op e st (some true)=opsK2 P call all r dst e (opS P call e st op):=rfl
@[simp] theorem opsK1_false:opsK1 P call all r dst op e st (some false)=opsS P call all r (put e dst .un) st:=rfl
@[simp] theorem opsK1_none:opsK1 P call all r dst op e st none=none:=rfl
end
attribute [simp] escs esc1s
@[simp] theorem opsS_nil {P:Prog}{call:CallF}{all:List SOper}{e:Env}{st:St}:opsS P call all [] e st=some (e,st):=rfl
@[simp] theorem opsS_cons {P:Prog}{call:CallF}{all r:List SOper}{o:SOper}{e:Env}{st:St}:opsS P call all (o::r) e st=opsK1 P call all r o.dst o.op e st (wants all e o.guard):=by
  rw[opsS]
  cases wants all e o.guard with
  | none=> rfl
  | some b=> cases b <;> rfl
@[simp] theorem int_beq (a b:Int):(a==b)=decide (a=b):=by by_cases h:a=b <;> simp[h]
@[simp] theorem int_bne (a b:Int):(a !=b)= !decide (a=b):=by by_cases h:a=b <;> simp[h]
@[simp] theorem lenV_sl {n:Nat}{nz:Bool}{cs:List D}:lenV (.d (.sl n nz cs))=some n:=rfl
@[simp] theorem lenV_own {s n:Nat}{nz:Bool}{cs:List D}{t:Nat}:lenV (.own s n nz cs t)=some n:=rfl
@[simp] theorem lenV_rsl {s i o n c:Nat}:lenV (.rsl s i o n c)=some n:=rfl
@[simp] theorem lenS_s {l:List UInt8}:lenS (.d (.s l))=some l.length:=rfl
@[simp] theorem intV_i {k:IntKind}{n:Int}:intV (.d (.i k n))=some n:=rfl
@[simp] theorem binV_i {op:BinOp}{k k':IntKind}{a b:Int}:binV op (.d (.i k a)) (.d (.i k' b))=match op with
    | .shl | .shr=> (shI op k a b).map .d
    | _=> if k=k' then(arI op k a b).map .d else none:=rfl
@[simp] theorem binV_s {op:BinOp}{a b:List UInt8}:binV op (.d (.s a)) (.d (.s b))=(binS op a b).map .d:=rfl
@[simp] theorem unV_i {op:UnOp}{k:IntKind}{n:Int}:unV op (.d (.i k n))=match op with
    | .neg=> some (.d (.i k (k.wrap (0 - n))))
    | .xor=> (bitI .xor k (if k.signed then -1 else k.max) n).map .d
    | _=> none:=rfl
@[simp] theorem unV_b {op:UnOp}{b:Bool}:unV op (.d (.b b))=match op with
    | .not=> some (.d (.b (!b)))
    | _=> none:=rfl
@[simp] theorem convV_i {k k':IntKind}{n:Int}:convV k (.d (.i k' n))=some (.d (.i k (k.wrap n))):=rfl
@[simp] theorem eqV_b {a b:Bool}:eqV [1] (.d (.b a)) (.d (.b b))=some (a==b):=rfl
@[simp] theorem ok1_d {x:D}:V.ok1 (.d x)=true:=rfl
@[simp] theorem ok1_agg {x:List V}:V.ok1 (.agg x)=true:=rfl
@[simp] theorem ok1_ptr {i o:Nat}:V.ok1 (.ptr i o)=true:=rfl
@[simp] theorem ok1_rsl {s i o n c:Nat}:V.ok1 (.rsl s i o n c)=true:=rfl
@[simp] theorem ok1_own {s n:Nat}{nz:Bool}{cs:List D}{t:Nat}:V.ok1 (.own s n nz cs t)=true:=rfl
@[simp] theorem cs_agg {x:List V}:V.cs (.agg x)=x:=rfl
@[simp] theorem cs_d {x:D}:V.cs (.d x)= [.d x]:=rfl
@[simp] theorem toD_d {x:D}:toD (.d x)=some x:=rfl
@[simp] theorem toD_own {s n:Nat}{nz:Bool}{cs:List D}{t:Nat}:toD (.own s n nz cs t)=some (.sl n nz cs):=rfl
@[simp] theorem mkV_t {cs:List V}:mkV true cs=some (.agg cs):=rfl
@[simp] theorem mkV_f {c:V}:mkV false [c]=some c:=rfl
section
variable {st:St}{h t:Nat}
@[simp] theorem escC_d {x:D}:escC st h t (.d x)=some (.d x):=rfl
@[simp] theorem escC_ep {x:List D}:escC st h t (.ep x)=some (.ep x):=rfl
@[simp] theorem escC_ptr {i o:Nat}:escC st h t (.ptr i o)=if i < h then some (.ptr i o) else none:=rfl
@[simp] theorem escC_map {i:Nat}:escC st h t (.map i)=if i < h then some (.map i) else none:=rfl
@[simp] theorem escC_own {s n:Nat}{nz:Bool}{cs:List D}{k:Nat}:escC st h t (.own s n nz cs k)=if k < t then some (.own s n nz cs k) else some (.d (.sl n nz cs)):=rfl
@[simp] theorem escC_rsl {s i o n c:Nat}:escC st h t (.rsl s i o n c)=if i < h then some (.rsl s i o n c) else(cellsAt st i o (n * s)).map fun ds=> .d (.sl n true ds):=rfl
@[simp] theorem esc1_d {x:D}:esc1 st h t (.d x)=some (.d x):=rfl
@[simp] theorem esc1_ep {x:List D}:esc1 st h t (.ep x)=some (.ep x):=rfl
@[simp] theorem esc1_un:esc1 st h t .un=none:=rfl
@[simp] theorem esc1_ptr {i o:Nat}:esc1 st h t (.ptr i o)=if i < h then some (.ptr i o) else none:=rfl
@[simp] theorem esc1_map {i:Nat}:esc1 st h t (.map i)=if i < h then some (.map i) else none:=rfl
@[simp] theorem esc1_own {s n:Nat}{nz:Bool}{cs:List D}{k:Nat}:esc1 st h t (.own s n nz cs k)=if k < t then some (.own s n nz cs k) else some (.d (.sl n nz cs)):=rfl
@[simp] theorem esc1_rsl {s i o n c:Nat}:esc1 st h t (.rsl s i o n c)=if i < h then some (.rsl s i o n c) else(cellsAt st i o (n * s)).map fun ds=> .d (.sl n true ds):=rfl
@[simp] theorem esc1_agg {cs:List V}:esc1 st h t (.agg cs)=(escs st h t cs).map .agg:=rfl
@[simp] theorem esc1_tup' {vs:List V}:esc1 st h t (.tup vs)=none:=rfl
@[simp] theorem esc_d {x:D}:esc st h t (.d x)=some (.d x):=rfl
@[simp] theorem esc_ep {x:List D}:esc st h t (.ep x)=some (.ep x):=rfl
@[simp] theorem esc_ptr {i o:Nat}:esc st h t (.ptr i o)=if i < h then some (.ptr i o) else none:=rfl
@[simp] theorem esc_own {s n:Nat}{nz:Bool}{cs:List D}{k:Nat}:esc st h t (.own s n nz cs k)=if k < t then some (.own s n nz cs k) else some (.d (.sl n nz cs)):=rfl
@[simp] theorem esc_rsl {s i o n c:Nat}:esc st h t (.rsl s i o n c)=if i < h then some (.rsl s i o n c) else(cellsAt st i o (n * s)).map fun ds=> .d (.sl n true ds):=rfl
@[simp] theorem esc_agg {cs:List V}:esc st h t (.agg cs)=(escs st h t cs).map .agg:=rfl
@[simp] theorem esc_tup {vs:List V}:esc st h t (.tup vs)=(esc1s st h t vs).map .tup:=rfl
end
@[simp] theorem loadV_ptr {sz:Nat}{agg:Bool}{st:St}{id off:Nat}:loadV sz agg st (.ptr id off)=match st.row id with
    | some cs=> if off+sz≤cs.length then mkV agg ((cs.drop off).take sz) else none
    | none=> none:=rfl
@[simp] theorem loadV_ep {sz:Nat}{agg:Bool}{st:St}{cs:List D}:loadV sz agg st (.ep cs)=if 0 < sz∧sz≤cs.length then mkV agg (ofDs (cs.take sz)) else none:=rfl
@[simp] theorem storeV_ptr {sz:Nat}{st:St}{id off:Nat}{x:V}:storeV sz st (.ptr id off) x=match st.row id with
    | some cs=> if x.ok1=true∧x.cs.length=sz∧off+sz≤cs.length then st.setBlk id (.row (lay cs off x.cs)) else none
    | none=> none:=rfl
@[simp] theorem faddrV_ptr {off id o:Nat}:faddrV off (.ptr id o)=some (.ptr id (o+off)):=rfl
@[simp] theorem faddrV_ep {off:Nat}{cs:List D}:faddrV off (.ep cs)=some (.ep (cs.drop off)):=rfl
@[simp] theorem fieldV_agg {off sz:Nat}{agg:Bool}{cs:List V}:fieldV off sz agg (.agg cs)=if off+sz≤cs.length then mkV agg ((cs.drop off).take sz) else none:=rfl
@[simp] theorem row_push_new {st:St}{cs:List V}{id:Nat}(h:id=st.heap.length):(st.push (.row cs)).row id=some cs:=by
  subst h
  rw[row_push,if_pos rfl]
@[simp] theorem row_push_old {st:St}{b:Blk}{id:Nat}(h:id < st.heap.length):(st.push b).row id=st.row id:=by
  rw[row_push,if_neg (by omega)]
@[simp] theorem setBlk_push {st:St}{b b':Blk}{id:Nat}(h:id=st.heap.length)(hf:st.floor≤st.heap.length):(st.push b).setBlk id b'=some (st.push b'):=by
  subst h
  simp[St.setBlk,St.push,hf]
@[simp] theorem push_len {st:St}{b:Blk}:(st.push b).heap.length=st.heap.length+1:=by simp[St.push]
@[simp] theorem push_tips {st:St}{b:Blk}:(st.push b).tips=st.tips:=rfl
@[simp] theorem push_floor {st:St}{b:Blk}:(st.push b).floor=st.floor:=rfl
@[simp] theorem push_tfloor {st:St}{b:Blk}:(st.push b).tfloor=st.tfloor:=rfl
@[simp] theorem mask_nil {e:Env}:mask [] e= []:=rfl
@[simp] theorem mask_cons {i:Nat}{r:List Nat}{e:Env}:mask (i::r) e=match e.get i with
    | some v=> (i,v)::mask r e
    | none=> mask r e:=by
  unfold mask
  rw[List.filterMap_cons]
  cases e.get i <;> rfl
@[simp] theorem escEnv_at {st:St}{h t:Nat}{e:Env}{i:Nat}:(escEnv st h t e).get i=match e.get i with
    | some u=> esc1 st h t u
    | none=> none:=by
  induction e with
  | nil=> rfl
  | cons p r ih=>
    obtain⟨j,u⟩:=p
    simp only[escEnv,Env.get]
    cases hu:esc1 st h t u with
    | none=>
      simp only[del_get,ih]
      by_cases hj:j=i
      · subst hj
        simp[hu]
      · rw[if_neg hj,if_neg (fun e=> hj e.symm)]
    | some x=>
      simp only[Env.get,ih]
      by_cases hj:j=i
      · subst hj
        simp[hu]
      · rw[if_neg hj,if_neg hj]
@[simp] theorem enter_false (st:St):enterR st false=st:=rfl
theorem start_raw (fn:SFn)(h:fn.pure=false)(st:St):start fn st=st:=by simp[start,h]
section
variable {P:Prog}
theorem loop_run {live:List Nat}{tr:Bool}{c:SCode}{Q:Out→Prop}(J:Nat→Env→St→Prop)
    (hJ:∀ n e st,J n e st→∃ r,(cden P c e (enterR st tr)).map (cutR st tr)=some r∧Round (fun m e' st'=> J m (mask live e') st') n Q r):∀ {n:Nat} {e:Env} {st:St},J n (mask live e) st→∃ r,cden P (.loop live tr c) e st=some r∧Q r:=by
  intro n
  induction n using Nat.strongRecOn with
  | ind n ih=>
    intro e st h
    obtain⟨r,h1,h2⟩:=hJ n _ st h
    rw[cden_loop]
    have h1:round live tr (cden P c) e st=some r:=h1
    rw[h1]
    obtain⟨x,e1,s1⟩:=r
    cases x with
    | normal=>
      obtain⟨m,hm,hJm⟩:=h2
      exact ih m hm hJm
    | exit i=> exact⟨_,rfl,h2⟩
    | ret=> exact⟨_,rfl,h2⟩
end
theorem wrap_i64 {n:Int}(h: -9223372036854775808≤n)(h':n≤9223372036854775807):IntKind.wrap .i64 n=n:=by
  simp only[IntKind.wrap,IntKind.signed,IntKind.bits,Bool.true_and,decide_eq_true_eq,show(2:Int) ^ (64 - 1)=9223372036854775808 from rfl,show(2:Int) ^ 64=18446744073709551616 from rfl]
  split <;> omega
end Go.Sh
namespace Go.Sh
theorem flatten_len {α:Type}{sz:Nat}:∀ {els:List (List α)},(∀ x∈els,x.length=sz)→els.flatten.length=els.length * sz
  | [],_=> by simp
  | x::els,h=> by
    rw[List.flatten_cons,List.length_append,flatten_len (fun y hy=> h y (List.mem_cons_of_mem _ hy)),h x List.mem_cons_self,List.length_cons,Nat.succ_mul]
    omega
theorem flatten_drop {α:Type}{sz:Nat}:∀ {els:List (List α)},(∀ x∈els,x.length=sz)→∀ i,els.flatten.drop (i * sz)=(els.drop i).flatten
  | [],_,i=> by simp
  | x::els,h,0=> by simp
  | x::els,h,i+1=> by
    have hx:=h x List.mem_cons_self
    rw[List.flatten_cons,Nat.succ_mul,List.drop_succ_cons,← flatten_drop (fun y hy=> h y (List.mem_cons_of_mem _ hy)) i,Nat.add_comm,← List.drop_drop,List.drop_append,List.drop_eq_nil_of_le (as:=x) (by omega)]
    simp[hx]
end Go.Sh
namespace Go.Sh
theorem ofDs_len {l:List D}:(ofDs l).length=l.length:=by simp[ofDs]
end Go.Sh
namespace Go.Sh
open Go.RowKit
mutual
def D.same:D→D→Bool
  | .i k n,.i k' m=> decide (k=k') && decide (n=m)
  | .b p,.b q=> p==q
  | .s p,.s q=> p==q
  | .np,.np=> true
  | .nm,.nm=> true
  | .ni,.ni=> true
  | .nf,.nf=> true
  | .sl n z cs,.sl m y ds=> n==m && (z==y && D.sames cs ds)
  | .ifc t p cs,.ifc u q ds=> t==u && (p==q && D.sames cs ds)
  | _,_=> false
def D.sames:List D→List D→Bool
  | [],[]=> true
  | x::xs,y::ys=> D.same x y && D.sames xs ys
  | _,_=> false
end
mutual
theorem D.same_eq:∀ {x y:D},D.same x y=true→x=y
  | .i k n,y,h=> by cases y <;> simp[D.same]at h ⊢;exact h
  | .b p,y,h=> by cases y <;> simp[D.same]at h ⊢;exact h
  | .s p,y,h=> by cases y <;> simp[D.same]at h ⊢;exact h
  | .np,y,h=> by cases y <;> simp[D.same]at h ⊢
  | .nm,y,h=> by cases y <;> simp[D.same]at h ⊢
  | .ni,y,h=> by cases y <;> simp[D.same]at h ⊢
  | .nf,y,h=> by cases y <;> simp[D.same]at h ⊢
  | .sl n z cs,y,h=> by
    cases y <;> simp[D.same]at h ⊢
    exact⟨h.1,h.2.1,D.sames_eq h.2.2⟩
  | .ifc t p cs,y,h=> by
    cases y <;> simp[D.same]at h ⊢
    exact⟨h.1,h.2.1,D.sames_eq h.2.2⟩
theorem D.sames_eq:∀ {xs ys:List D},D.sames xs ys=true→xs=ys
  | [],ys,h=> by cases ys <;> simp[D.sames]at h ⊢
  | x::xs,ys,h=> by
    cases ys with
    | nil=> simp[D.sames]at h
    | cons y ys=>
      simp only[D.sames,Bool.and_eq_true]at h
      rw[D.same_eq h.1,D.sames_eq h.2]
end
def V.isD (v:V)(x:D):Bool:=match v with
  | .d y=> D.same y x
  | _=> false
theorem V.isD_eq {v:V}{x:D}(h:v.isD x=true):v= .d x:=by
  unfold V.isD at h
  split at h
  · rw[D.same_eq h]
  · cases h
end Go.Sh
namespace Go.Sh
def S (H:List (Option Blk))(T:List Nat)(bs:List Blk)(ts:List Nat)(fl tf:Nat):St:=⟨H++bs.map some,T++ts,fl,tf⟩
section
variable {H:List (Option Blk)}{T:List Nat}{bs:List Blk}{ts:List Nat}{fl tf:Nat}
@[simp] theorem S_floor:(S H T bs ts fl tf).floor=fl:=rfl
@[simp] theorem S_tfloor:(S H T bs ts fl tf).tfloor=tf:=rfl
def rowOf:Option Blk→Option (List V)
  | some (.row cs)=> some cs
  | _=> none
@[simp] theorem rowOf_row {cs:List V}:rowOf (some (.row cs))=some cs:=rfl
def mapOfB:Option Blk→Option (List (D×V))
  | some (.map cs)=> some cs
  | _=> none
@[simp] theorem mapOfB_map {cs:List (D×V)}:mapOfB (some (.map cs))=some cs:=rfl
end
@[simp] theorem cutR_false {st:St}{r:Out}:cutR st false r=r:=by simp[cutR]
theorem ofDs_tk {l:List D}{n:Nat}:(ofDs l).take n=ofDs (l.take n):=by simp[ofDs]
theorem ofDs_dr {l:List D}{n:Nat}:(ofDs l).drop n=ofDs (l.drop n):=by simp[ofDs]
def Bd (x:Option V)(dflt a:Nat):Prop:=match x with
  | none=> a=dflt
  | some v=> intV v=some (a:Int)
theorem Bd.bnd {x:Option V}{d a y:Nat}(h:Bd x d a)(hy:a≤y):bnd x d y=some a:=by
  unfold Bd at h
  cases x with
  | none=> simp only at h;subst h;rfl
  | some v=> simp only at h;simp[Go.Sh.bnd,h,hy]
/-! ### Slices of any mode, held by what was there -/
def Sl (sz:Nat)(v:V)(H:List (Option Blk))(T:List Nat)(els:List (List D)):Prop:=(∀ x∈els,x.length=sz)∧match v with
  | .d (.sl n _ cs)=> n=els.length∧cs=els.flatten
  | .own s n _ cs t=> s=sz∧n=els.length∧cs=els.flatten∧t < T.length
  | .rsl s id off n cap=> s=sz∧n=els.length∧n≤cap∧∃ cs,H[id]? =some (some (.row cs))∧off+n * sz≤cs.length∧(cs.drop off).take (n * sz)=ofDs els.flatten
  | _=> False
def elP (sz:Nat)(v:V)(i off:Nat):V:=match v with
  | .d (.sl _ _ cs)=> .ep ((cs.drop (i * sz)).drop off)
  | .own _ _ _ cs _=> .ep ((cs.drop (i * sz)).drop off)
  | .rsl _ id o _ _=> .ptr id (o+i * sz+off)
  | _=> .un
section
variable {H:List (Option Blk)}{T:List Nat}{bs:List Blk}{ts:List Nat}{fl tf:Nat}{sz:Nat}{v:V}{els:List (List D)}
theorem Sl.iaddr (h:Sl sz v H T els){i:Int}{k:IntKind}(h0:0≤i)(hi:i < els.length):iaddrV sz v (.d (.i k i))=some (elP sz v i.toNat 0):=by
  obtain⟨_,h⟩:=h
  split at h
  · obtain⟨rfl,rfl⟩:=h
    simp[iaddrV,elP,hi,h0]
  · obtain⟨rfl,rfl,rfl,_⟩:=h
    simp[iaddrV,elP,hi,h0]
  · obtain⟨rfl,rfl,_⟩:=h
    simp[iaddrV,elP,hi,h0]
  · exact h.elim
theorem Sl.faddr (h:Sl sz v H T els){i o off:Nat}:faddrV off (elP sz v i o)=some (elP sz v i (o+off)):=by
  obtain⟨_,h⟩:=h
  split at h
  · simp[elP,List.drop_drop,Nat.add_assoc]
  · simp[elP,List.drop_drop,Nat.add_assoc]
  · simp[elP,Nat.add_assoc]
  · exact h.elim
theorem flat_at (h:∀ x∈els,x.length=sz){i:Nat}{el:List D}(he:els[i]? =some el):els.flatten.drop (i * sz)=el++(els.drop (i+1)).flatten:=by
  rw[flatten_drop h]
  have:=(List.getElem?_eq_some_iff.1 he)
  obtain⟨hlt,hel⟩:=this
  rw[List.drop_eq_getElem_cons hlt,hel,List.flatten_cons]
theorem Sl.load (h:Sl sz v H T els){i o n:Nat}{agg:Bool}{el:List D}(he:els[i]? =some el)(hn:0 < n)(ho:o+n≤sz):loadV n agg (S H T bs ts fl tf) (elP sz v i o)=mkV agg (ofDs ((el.drop o).take n)):=by
  obtain⟨h1,h⟩:=h
  have hel:el.length=sz:=h1 el (List.mem_of_getElem? he)
  have hval:∀ cs:List D,cs=els.flatten→loadV n agg (S H T bs ts fl tf) (.ep ((cs.drop (i * sz)).drop o))=mkV agg (ofDs ((el.drop o).take n)):=by
    rintro cs rfl
    rw[flat_at h1 he]
    simp only[loadV_ep]
    rw[if_pos]
    · rw[List.drop_append_of_le_length (by omega),List.take_append_of_le_length (by simp;omega)]
    · simp;omega
  split at h
  · exact hval _ h.2
  · exact hval _ h.2.2.1
  · rename_i s id off m cap
    obtain⟨rfl,rfl,hcap,cs,hr,hb,hc⟩:=h
    have hlt:=(List.getElem?_eq_some_iff.1 hr).1
    have hrow:(S H T bs ts fl tf).row id=some cs:=by
      unfold St.row S
      simp only
      rw[List.getElem?_append_left hlt,hr]
    have hi:=(List.getElem?_eq_some_iff.1 he).1
    have hle:i * s+s≤els.length * s:=by
      rw[← Nat.succ_mul]
      exact Nat.mul_le_mul_right _ hi
    simp only[elP,loadV_ptr,hrow]
    rw[if_pos (by omega)]
    congr 1
    have h2:=congrArg (fun l=> (l.drop (i * s+o)).take n) hc
    simp only[ofDs_dr,ofDs_tk]at h2
    rw[List.drop_take,List.take_take,List.drop_drop]at h2
    rw[show min n (els.length * s - (i * s+o))=n by omega]at h2
    rw[show off+i * s+o=off+(i * s+o) by omega,h2]
    congr 1
    rw[← List.drop_drop,flat_at h1 he,List.drop_append_of_le_length (by omega),List.take_append_of_le_length (by simp;omega)]
  · exact h.elim
end
/-! ### Loops that count -/
theorem loop_to {P:Prog}{live:List Nat}{tr:Bool}{c:SCode}{Q:Out→Prop}(N:Nat)(E:Nat→Env)(Z:Nat→St)
    (h:∀ i,i≤N→∃ r,(cden P c (E i) (enterR (Z i) tr)).map (cutR (Z i) tr)=some r∧match r with
     | (.normal,e',s')=> i < N∧mask live e'=E (i+1)∧s'=Z (i+1)
     | r=> Q r) {e:Env} {st:St} (he:mask live e=E 0) (hst:st=Z 0):∃ r,cden P (.loop live tr c) e st=some r∧Q r:=by
  refine loop_run (fun m e s=> ∃ i,i≤N∧m=N - i∧e=E i∧s=Z i) ?_ (n:=N) ⟨0,by omega,rfl,he,hst⟩
  rintro m e s ⟨i,hi,rfl,rfl,rfl⟩
  obtain⟨r,hr,hq⟩:=h i hi
  refine⟨r,hr,?_⟩
  obtain⟨x,e1,s1⟩:=r
  cases x with
  | normal=>
    obtain⟨h1,h2,h3⟩:=hq
    exact⟨N - (i+1),by omega,i+1,by omega,rfl,h2,h3⟩
  | exit j=> exact hq
  | ret=> exact hq
def Sub (l:List (Nat×SFn))(pr:Prog):Prop:=∀ x∈l,pr.fn x.1=some x.2
end Go.Sh
namespace Go.Sh
theorem Sub.at {l:List (Nat×SFn)}{pr:Prog}(h:Sub l pr)(i:Nat){f:Nat}{fn:SFn}(hx:l[i]? =some (f,fn)):pr.fn f=some fn:=h _ (List.mem_of_getElem? hx)
def s0 (bs:List Blk)(ts:List Nat)(fl tf:Nat):St:=⟨bs.map some,ts,fl,tf⟩
section
variable {bs:List Blk}{ts:List Nat}{fl tf:Nat}
@[simp] theorem start_st0 (fn:SFn):start fn st0=s0 [] [] 0 0:=by unfold start;split <;> rfl
@[simp] theorem st0_hlen:st0.heap.length=0:=rfl
@[simp] theorem st0_tlen:st0.tips.length=0:=rfl
@[simp] theorem s0_hlen:(s0 bs ts fl tf).heap.length=bs.length:=by simp[s0]
@[simp] theorem s0_tips:(s0 bs ts fl tf).tips=ts:=rfl
@[simp] theorem s0_floor:(s0 bs ts fl tf).floor=fl:=rfl
@[simp] theorem s0_tfloor:(s0 bs ts fl tf).tfloor=tf:=rfl
@[simp] theorem s0_push {b:Blk}:(s0 bs ts fl tf).push b=s0 (bs++ [b]) ts fl tf:=by simp[s0,St.push]
@[simp] theorem s0_row {k:Nat}:(s0 bs ts fl tf).row k=rowOf bs[k]? :=by
  unfold St.row s0
  simp only[List.getElem?_map]
  cases bs[k]? with
  | none=> rfl
  | some b=> cases b <;> rfl
@[simp] theorem s0_mapOf {k:Nat}:(s0 bs ts fl tf).mapOf k=mapOfB bs[k]? :=by
  unfold St.mapOf s0
  simp only[List.getElem?_map]
  cases bs[k]? with
  | none=> rfl
  | some b=> cases b <;> rfl
@[simp] theorem s0_setBlk {k:Nat}{b:Blk}(hf:fl≤k):(s0 bs ts fl tf).setBlk k b=some (s0 (bs.set k b) ts fl tf):=by
  unfold St.setBlk
  rw[s0_floor,if_pos hf]
  simp[s0]
@[simp] theorem s0_mk {ts':List Nat}{fl' tf':Nat}:({heap:=(s0 bs ts fl tf).heap,tips:=ts',floor:=fl',tfloor:=tf'}:St)=s0 bs ts' fl' tf':=rfl
@[simp] theorem s0_enter:enterR (s0 bs ts fl tf) true=s0 bs ts bs.length tf:=by simp[enterR,s0]
@[simp] theorem cutR_s0 {bs':List Blk}{ts':List Nat}{fl' tf':Nat}{x:Ex}{e:Env}:
    cutR (s0 bs ts fl tf) true (x,e,s0 bs' ts' fl' tf')=(x,escEnv (s0 bs' ts' fl' tf') bs.length ts.length e,s0 bs (ts'.take ts.length) fl tf):=by
  simp only[cutR,if_true,s0_hlen,s0_tips,Prod.mk.injEq,true_and,s0,List.length_map]
end
/-! ### Slices as data -/
def SlD (sz:Nat)(v:V)(els:List (List D)):Prop:=(∀ x∈els,x.length=sz)∧∃ nz,v= .d (.sl els.length nz els.flatten)
def SlC (sz:Nat)(w:V)(els:List (List D)):Prop:=∃ v,closeC w=some v∧SlD sz v els
theorem SlC.of_sl {sz n:Nat}{nz:Bool}{cs:List D}{els:List (List D)}(h:∀ x∈els,x.length=sz)(hn:n=els.length)(hc:cs=els.flatten):SlC sz (.d (.sl n nz cs)) els:=⟨_,rfl,h,nz,by rw[hn,hc]⟩
theorem SlC.close {sz:Nat}{w:V}{els:List (List D)}(h:SlC sz w els):∃ v,close1 w=some v∧SlD sz v els:=by
  obtain⟨v,hv,hd⟩:=h
  refine⟨v,?_,hd⟩
  cases w <;> first | exact hv | simp[closeC]at hv
theorem SlD.c {sz:Nat}{v:V}{els:List (List D)}(h:SlD sz v els):SlC sz v els:=by
  obtain⟨h1,nz,rfl⟩:=h
  exact⟨_,rfl,h1,nz,rfl⟩
attribute [simp] closeA closeCs
@[simp] theorem lookup_if {α:Type}{k a:Nat}{b:α}{r:List (Nat×α)}:List.lookup k ((a,b)::r)=if k=a then some b else List.lookup k r:=by
  rw[List.lookup_cons]
  by_cases h:k=a
  · simp[h]
  · have:(k==a)=false:=by simpa using h
    simp[h,this]
@[simp] theorem close1_d {x:D}:close1 (.d x)=some (.d x):=rfl
@[simp] theorem close1_own {s n:Nat}{nz:Bool}{cs:List D}{t:Nat}:close1 (.own s n nz cs t)=some (.d (.sl n nz cs)):=rfl
@[simp] theorem close1_ep {cs:List D}:close1 (.ep cs)=some (.ep cs):=rfl
@[simp] theorem close1_agg {cs:List V}:close1 (.agg cs)=(closeCs cs).map .agg:=rfl
@[simp] theorem closeC_d {x:D}:closeC (.d x)=some (.d x):=rfl
@[simp] theorem closeC_own {s n:Nat}{nz:Bool}{cs:List D}{t:Nat}:closeC (.own s n nz cs t)=some (.d (.sl n nz cs)):=rfl
@[simp] theorem closeCs_ofDs:∀ {ds:List D},closeCs (ofDs ds)=some (ofDs ds)
  | []=> rfl
  | d::r=> by
    have:closeCs (ofDs r)=some (ofDs r):=closeCs_ofDs
    simp only[ofDs,List.map_cons]at this ⊢
    simp[this]
section
variable {sz:Nat}{v:V}{els:List (List D)}{st:St}
theorem SlD.len (h:SlD sz v els):lenV v=some els.length:=by
  obtain⟨_,nz,rfl⟩:=h
  rfl
theorem SlD.esc (h:SlD sz v els)(st:St)(a b:Nat):esc1 st a b v=some v:=by
  obtain⟨_,nz,rfl⟩:=h
  rfl
theorem SlD.sl (h:SlD sz v els):Sl sz v [] [] els:=by
  obtain⟨h,nz,rfl⟩:=h
  exact⟨h,rfl,rfl⟩
theorem SlD.iaddr (h:SlD sz v els){i:Int}{k:IntKind}(h0:0≤i)(hi:i < els.length):iaddrV sz v (.d (.i k i))=some (elP sz v i.toNat 0):=h.sl.iaddr h0 hi
theorem SlD.faddr (h:SlD sz v els){i o off:Nat}:faddrV off (elP sz v i o)=some (elP sz v i (o+off)):=h.sl.faddr
theorem SlD.load (h:SlD sz v els){i o n:Nat}{agg:Bool}{el:List D}(he:els[i]? =some el)(hn:0 < n)(ho:o+n≤sz):loadV n agg st (elP sz v i o)=mkV agg (ofDs ((el.drop o).take n)):=by
  have:=h.sl.load (bs:= []) (ts:= []) (fl:=0) (tf:=0) (agg:=agg) he hn ho
  obtain⟨_,nz,rfl⟩:=h
  exact this
end
/-! ### Bytes -/
/-! ### Loops -/
def LStep (live:List Nat)(N i:Nat)(E:Nat→Env)(Z:Nat→St)(Q:Out→Prop):Option Out→Prop
  | some (.normal,e',s')=> i < N∧mask live e'=E (i+1)∧s'=Z (i+1)
  | some r=> Q r
  | none=> False
section
variable {live:List Nat}{N i:Nat}{E:Nat→Env}{Z:Nat→St}{Q:Out→Prop}{e:Env}{s:St}
@[simp] theorem LStep_normal:LStep live N i E Z Q (some (.normal,e,s))=(i < N∧mask live e=E (i+1)∧s=Z (i+1)):=rfl
@[simp] theorem LStep_exit {j:Nat}:LStep live N i E Z Q (some (.exit j,e,s))=Q (.exit j,e,s):=rfl
@[simp] theorem LStep_ret:LStep live N i E Z Q (some (.ret,e,s))=Q (.ret,e,s):=rfl
end
theorem loop_n {P:Prog}{live:List Nat}{tr:Bool}{c:SCode}{Q:Out→Prop}(N:Nat)(E:Nat→Env)(Z:Nat→St)
    (h:∀ i,i≤N→LStep live N i E Z Q ((cden P c (E i) (enterR (Z i) tr)).map (cutR (Z i) tr))) {e:Env} {st:St} (he:mask live e=E 0) (hst:st=Z 0):∃ r,cden P (.loop live tr c) e st=some r∧Q r:=by
  refine loop_to N E Z (fun i hi=> ?_) he hst
  have:=h i hi
  generalize (cden P c (E i) (enterR (Z i) tr)).map (cutR (Z i) tr)=o at this ⊢
  cases o with
  | none=> exact this.elim
  | some r=>
    refine⟨r,rfl,?_⟩
    obtain⟨x,e1,s1⟩:=r
    cases x <;> exact this
def JStep (live:List Nat)(n:Nat)(J:Nat→Env→St→Prop)(Q:Out→Prop):Option Out→Prop
  | some (.normal,e',s')=> ∃ m,m < n∧J m (mask live e') s'
  | some r=> Q r
  | none=> False
section
variable {live:List Nat}{n:Nat}{J:Nat→Env→St→Prop}{Q:Out→Prop}{e:Env}{s:St}
@[simp] theorem JStep_normal:JStep live n J Q (some (.normal,e,s))=∃ m,m < n∧J m (mask live e) s:=rfl
@[simp] theorem JStep_exit {j:Nat}:JStep live n J Q (some (.exit j,e,s))=Q (.exit j,e,s):=rfl
@[simp] theorem JStep_ret:JStep live n J Q (some (.ret,e,s))=Q (.ret,e,s):=rfl
end
theorem loop_j {P:Prog}{live:List Nat}{tr:Bool}{c:SCode}{Q:Out→Prop}(J:Nat→Env→St→Prop)
    (h:∀ n e st,J n e st→JStep live n J Q ((cden P c e (enterR st tr)).map (cutR st tr))) {n:Nat} {e:Env} {st:St} (hJ:J n (mask live e) st):∃ r,cden P (.loop live tr c) e st=some r∧Q r:=by
  refine loop_run J (fun n e st hJ=> ?_) hJ
  have:=h n e st hJ
  generalize (cden P c e (enterR st tr)).map (cutR st tr)=o at this ⊢
  cases o with
  | none=> exact this.elim
  | some r=>
    refine⟨r,rfl,?_⟩
    obtain⟨x,e1,s1⟩:=r
    cases x <;> exact this
end Go.Sh
namespace Go.Sh
theorem bit_and (k:IntKind)(x y:Int):bitI .and k x y=some (.i k (k.wrap ((BitVec.ofInt k.bits x &&& BitVec.ofInt k.bits y).toNat))):=rfl
theorem ofInt_nat (w n:Nat):BitVec.ofInt w (n:Int)=BitVec.ofNat w n:=by
  apply BitVec.eq_of_toInt_eq
  simp
theorem and_nat (k:IntKind)(n m:Nat)(hn:n < 2 ^ k.bits)(hm:m < 2 ^ k.bits):bitI .and k n m=some (.i k (k.wrap ((n &&& m:Nat):Int))):=by
  rw[bit_and,ofInt_nat,ofInt_nat,BitVec.toNat_and,BitVec.toNat_ofNat,BitVec.toNat_ofNat,Nat.mod_eq_of_lt hn,Nat.mod_eq_of_lt hm]
end Go.Sh
namespace Go.Sh
attribute [simp] binS
def bsl (nz:Bool)(L:List UInt8):V:= .d (.sl L.length nz (byteCells L))
@[simp] theorem bsl_len (nz:Bool)(L:List UInt8):lenV (bsl nz L)=some L.length:=rfl
@[simp] theorem bsl_ok1 (nz:Bool)(L:List UInt8):V.ok1 (bsl nz L)=true:=rfl
@[simp] theorem bsl_close1 (nz:Bool)(L:List UInt8):close1 (bsl nz L)=some (bsl nz L):=rfl
@[simp] theorem bsl_closeC (nz:Bool)(L:List UInt8):closeC (bsl nz L)=some (bsl nz L):=rfl
@[simp] theorem bsl_esc (nz:Bool)(L:List UInt8)(st:St)(a b:Nat):esc1 st a b (bsl nz L)=some (bsl nz L):=rfl
@[simp] theorem bsl_esc' (nz:Bool)(L:List UInt8)(st:St)(a b:Nat):esc st a b (bsl nz L)=some (bsl nz L):=rfl
@[simp] theorem bsl_vw (nz:Bool)(L:List UInt8)(st:St):vw 1 st (bsl nz L)=some (L.length,byteCells L):=rfl
theorem map_flat_len {α:Type}{c:α→List D}{sz:Nat}(h:∀ x,(c x).length=sz)(l:List α):(l.map c).flatten.length=l.length * sz:=by
  rw[flatten_len (sz:=sz) (fun y hy=> by simp only[List.mem_map]at hy;obtain⟨z,_,rfl⟩:=hy;exact h z),List.length_map]
theorem map_sz {α:Type}{c:α→List D}{sz:Nat}(h:∀ x,(c x).length=sz)(l:List α):∀ x∈l.map c,x.length=sz:=by
  intro y hy
  simp only[List.mem_map]at hy
  obtain⟨z,_,rfl⟩:=hy
  exact h z
def dsl {α:Type}(c:α→List D)(nz:Bool)(l:List α):V:= .d (.sl l.length nz (l.map c).flatten)
theorem dsl_c {α:Type}{c:α→List D}{sz:Nat}(h:∀ x,(c x).length=sz)(nz:Bool)(l:List α):SlC sz (dsl c nz l) (l.map c):=SlC.of_sl (map_sz h l) (by simp) rfl
theorem dsl_d {α:Type}{c:α→List D}{sz:Nat}(h:∀ x,(c x).length=sz)(nz:Bool)(l:List α):SlD sz (dsl c nz l) (l.map c):=⟨map_sz h l,nz,by simp[dsl]⟩
@[simp] theorem dsl_len {α:Type}(c:α→List D)(nz:Bool)(l:List α):lenV (dsl c nz l)=some l.length:=rfl
@[simp] theorem dsl_ok1 {α:Type}(c:α→List D)(nz:Bool)(l:List α):V.ok1 (dsl c nz l)=true:=rfl
@[simp] theorem dsl_close1 {α:Type}(c:α→List D)(nz:Bool)(l:List α):close1 (dsl c nz l)=some (dsl c nz l):=rfl
@[simp] theorem dsl_esc {α:Type}(c:α→List D)(nz:Bool)(l:List α)(st:St)(a b:Nat):esc1 st a b (dsl c nz l)=some (dsl c nz l):=rfl
theorem dsl_vw {α:Type}(c:α→List D)(nz:Bool)(l:List α)(sz:Nat)(st:St):vw sz st (dsl c nz l)=some (l.length,(l.map c).flatten):=rfl
theorem flat_take {sz:Nat}:∀ {l:List (List D)},(∀ x∈l,x.length=sz)→∀ n,l.flatten.take (n * sz)=(l.take n).flatten
  | [],_,n=> by simp
  | x::r,h,0=> by simp
  | x::r,h,n+1=> by
    rw[Nat.succ_mul,List.flatten_cons,List.take_succ_cons,List.flatten_cons,← flat_take (fun y hy=> h y (List.mem_cons_of_mem _ hy)) n,List.take_append,List.take_of_length_le (by rw[h x List.mem_cons_self];omega),h x List.mem_cons_self]
    simp
theorem dsl_slc {α:Type}{c:α→List D}{sz:Nat}(h:∀ x,(c x).length=sz)(nz:Bool)(l:List α){lo hi:Option V}{a b:Nat}(hb:Bd hi l.length b)(ha:Bd lo 0 a)(hab:a≤b)(hbn:b≤l.length):
    slcV sz (dsl c nz l) lo hi none=some (dsl c nz ((l.take b).drop a)):=by
  have:bnds l.length l.length lo hi none=some (a,b,l.length):=by
    unfold bnds
    rw[show bnd none l.length l.length=some l.length from rfl]
    simp only
    rw[hb.bnd hbn]
    simp only
    rw[ha.bnd hab]
  simp only[slcV,dsl,Option.isSome_none,Bool.false_eq_true,if_false,this,Option.map_some,Option.some.injEq,V.d.injEq,D.sl.injEq,true_and]
  refine⟨by simp;omega,?_⟩
  rw[flatten_drop (map_sz h l),flat_take (fun x hx=> map_sz h l x (List.mem_of_mem_drop hx)),← List.map_drop,← List.map_take,List.drop_take]
theorem appV_copy {α:Type}{c:α→List D}{sz:Nat}(h:∀ x,(c x).length=sz){nz:Bool}{l:List α}{bytes:Nat}{ts:List Nat}{bs:List Blk}{fl tf:Nat}{t:Nat}(ht:ts[t]? =some 0)(htf:tf≤t)(hb:l.length * bytes≤140737488355328)(hl:l.length≤140737488355328):
    appV sz bytes (s0 bs ts fl tf) (.own sz 0 true [] t) (dsl c nz l)=some (.own sz l.length true (l.map c).flatten t,s0 bs (ts.set t l.length) fl tf):=by
  unfold appV
  rw[dsl_vw]
  simp only[map_flat_len h l,Nat.zero_add,List.nil_append,Bool.true_or]
  rw[if_pos ⟨trivial,htf,ht,by simp,hb,hl,trivial⟩]
  rfl
def runD (Pr:Prog)(k f:Nat)(xs:List D)(x:D):Bool:=isShut Pr f && match runF Pr k f (ofDs xs) st0 with
  | some (r,_)=> r.isD x
  | none=> false
theorem den_of_run {pr:Prog}{k f:Nat}{xs:List D}{x:D}(h:runD pr k f xs x=true)(st:St):den pr f (ofDs xs) st=some (.d x,st):=by
  unfold runD at h
  simp only[Bool.and_eq_true]at h
  obtain⟨hs,h⟩:=h
  split at h
  · rename_i v s' hr
    rw[den_iff]
    rw[V.isD_eq h]at hr
    exact⟨k,runF_shut k _ _ _ _ _ _ hs hr⟩
  · cases h
def V.sameC:V→V→Bool
  | .d x,.d y=> x.same y
  | _,_=> false
def V.sameCs:List V→List V→Bool
  | [],[]=> true
  | x::xs,y::ys=> x.sameC y && V.sameCs xs ys
  | _,_=> false
def V.same1:V→V→Bool
  | .agg xs,.agg ys=> V.sameCs xs ys
  | x,y=> x.sameC y
def V.same1s:List V→List V→Bool
  | [],[]=> true
  | x::xs,y::ys=> x.same1 y && V.same1s xs ys
  | _,_=> false
def V.same:V→V→Bool
  | .tup xs,.tup ys=> V.same1s xs ys
  | x,y=> x.same1 y
theorem V.sameC_eq {x y:V}(h:x.sameC y=true):x=y:=by
  unfold V.sameC at h
  split at h
  · rw[D.same_eq h]
  · cases h
theorem V.sameCs_eq:∀ {xs ys:List V},V.sameCs xs ys=true→xs=ys
  | [],[],_=> rfl
  | x::xs,y::ys,h=> by
    simp only[V.sameCs,Bool.and_eq_true]at h
    rw[V.sameC_eq h.1,V.sameCs_eq h.2]
  | [],_::_,h=> by simp[V.sameCs]at h
  | _::_,[],h=> by simp[V.sameCs]at h
theorem V.same1_eq {x y:V}(h:x.same1 y=true):x=y:=by
  unfold V.same1 at h
  split at h
  · rw[V.sameCs_eq h]
  · exact V.sameC_eq h
theorem V.same1s_eq:∀ {xs ys:List V},V.same1s xs ys=true→xs=ys
  | [],[],_=> rfl
  | x::xs,y::ys,h=> by
    simp only[V.same1s,Bool.and_eq_true]at h
    rw[V.same1_eq h.1,V.same1s_eq h.2]
  | [],_::_,h=> by simp[V.same1s]at h
  | _::_,[],h=> by simp[V.same1s]at h
theorem V.same_eq {x y:V}(h:x.same y=true):x=y:=by
  unfold V.same at h
  split at h
  · rw[V.same1s_eq h]
  · exact V.same1_eq h
def runV (Pr:Prog)(k f:Nat)(xs:List D)(x:V):Bool:=isShut Pr f && match runF Pr k f (ofDs xs) st0 with
  | some (r,_)=> r.same x
  | none=> false
theorem den_of_runV {pr:Prog}{k f:Nat}{xs:List D}{x:V}(h:runV pr k f xs x=true)(st:St):den pr f (ofDs xs) st=some (x,st):=by
  unfold runV at h
  simp only[Bool.and_eq_true]at h
  obtain⟨hs,h⟩:=h
  split at h
  · rename_i v s' hr
    rw[den_iff]
    rw[V.same_eq h]at hr
    exact⟨k,runF_shut k _ _ _ _ _ _ hs hr⟩
  · cases h
end Go.Sh
namespace Go.Sh
structure Ext (P P':Prog):Prop where
  fn:∀ f fn,P.fn f=some fn→P'.fn f=some fn
  glob:∀ g c,P.glob g=some c→P'.glob g=some c
  prim:∀ f g,P.fn f=none→P.prim f=some g→P'.fn f=none∧P'.prim f=some g
section
variable {P P':Prog}(hE:Ext P P'){call call':CallF}(hc:call.le call')
include hE
theorem ev_ext {e:Env}{x:Opd}{v:V}(h:x.ev P e=some v):x.ev P' e=some v:=by
  cases x <;> simp only[Opd.ev]at h ⊢
  · exact h
  · exact h
  · simp only[Option.map_eq_some_iff]at h ⊢
    obtain⟨c,h1,h2⟩:=h
    exact⟨c,hE.glob _ _ h1,h2⟩
  · exact h
theorem evs_ext {e:Env}:∀ {l:List Opd} {vs:List V},evs P e l=some vs→evs P' e l=some vs
  | [],_,h=> h
  | x::l,vs,h=> by
    simp only[evs]at h ⊢
    split at h
    · rename_i v hv
      rw[ev_ext hE hv]
      split at h
      · rename_i us hus
        simp only[evs_ext hus]
        exact h
      · cases h
    · cases h
theorem parts_ext {e:Env}:∀ {l:List (Nat×Nat×Opd)} {vs:List (Nat×Nat×V)},partsV P e l=some vs→partsV P' e l=some vs
  | [],_,h=> h
  | (o,s,x)::l,vs,h=> by
    simp only[partsV]at h ⊢
    split at h
    · rename_i v hv
      rw[ev_ext hE hv]
      split at h
      · rename_i us hus
        simp only[parts_ext hus]
        exact h
      · cases h
    · cases h
theorem evo_ext {e:Env}{x:Option Opd}{v:Option V}(h:evo P e x=some v):evo P' e x=some v:=by
  cases x with
  | none=> exact h
  | some x=>
    simp only[evo,Option.map_eq_some_iff]at h ⊢
    obtain⟨u,h1,h2⟩:=h
    exact⟨u,ev_ext hE h1,h2⟩
theorem bind1_ext {e:Env}{x:Opd}{f g:V→Option (V×St)}{r:V×St}(h:bind1 (x.ev P e) f=some r)(hg:∀ v,f v=some r→g v=some r):bind1 (x.ev P' e) g=some r:=by
  obtain⟨v,hv,h⟩:=bind1_some h
  rw[ev_ext hE hv]
  exact hg v h
include hc
theorem opS_ext {e:Env}{st:St}{s:SOp}{r:V×St}(h:opS P call e st s=some r):opS P' call' e st s=some r:=by
  cases s <;> simp only[opS]at h ⊢
  case mov x=>
    cases hx:x.ev P e with
    | none=> rw[hx]at h;cases h
    | some v=> rw[hx]at h;rw[ev_ext hE hx];exact h
  case pick=>
    refine bind1_ext hE h fun v h=> ?_
    split at h
    · exact bind1_ext hE h fun v h=> bind1_ext hE h fun v h=> h
    · cases h
  case build=>
    split at h
    · rename_i vs hvs;rw[parts_ext hE hvs];exact h
    · cases h
  case lits=>
    split at h
    · rename_i vs hvs;rw[parts_ext hE hvs];exact h
    · cases h
  case litsO=>
    split at h
    · rename_i vs hvs;rw[parts_ext hE hvs];exact h
    · cases h
  case litsR=>
    split at h
    · rename_i vs hvs;rw[parts_ext hE hvs];exact h
    · cases h
  case alloc=> exact h
  case slc=>
    refine bind1_ext hE h fun v h=> ?_
    split at h
    · rename_i e1 e2 e3
      rw[evo_ext hE e1,evo_ext hE e2,evo_ext hE e3]
      exact h
    · cases h
  case slcS=>
    refine bind1_ext hE h fun v h=> ?_
    split at h
    · rename_i e1 e2
      rw[evo_ext hE e1,evo_ext hE e2]
      exact h
    · cases h
  case slcA=>
    refine bind1_ext hE h fun v h=> ?_
    split at h
    · rename_i e1 e2 e3
      rw[evo_ext hE e1,evo_ext hE e2,evo_ext hE e3]
      exact h
    · cases h
  case lenA=> exact h
  case appR=> cases h
  case mkMap=>
    split at h
    · rename_i e1;rw[evo_ext hE e1];exact h
    · rename_i e1;rw[evo_ext hE e1];exact h
    · cases h
  case call=>
    split at h
    · rename_i vs hvs
      rw[evs_ext hE hvs]
      exact hc _ _ _ _ h
    · cases h
  case invoke=>
    refine bind1_ext hE h fun v h=> ?_
    split at h
    · split at h
      · rename_i e1 e2 e3
        rw[e1,e2,evs_ext hE e3]
        exact hc _ _ _ _ h
      · cases h
    · cases h
  case mkFn=>
    split at h
    · rename_i vs hvs
      rw[evs_ext hE hvs]
      exact h
    · cases h
  case callC=>
    refine bind1_ext hE h fun v h=> ?_
    split at h
    · split at h
      · rename_i hf
        rw[if_pos hf]
        split at h
        · rename_i e3
          rw[evs_ext hE e3]
          exact hc _ _ _ _ h
        · cases h
      · cases h
    · cases h
  all_goals first
    | exact bind1_ext hE h fun v h=> h
    | exact bind1_ext hE h fun v h=> bind1_ext hE h fun v h=> h
    | exact bind1_ext hE h fun v h=> bind1_ext hE h fun v h=> bind1_ext hE h fun v h=> h
theorem ops_ext {all:List SOper}:∀ {l:List SOper} {e:Env} {st:St} {r:Env×St},opsS P call all l e st=some r→opsS P' call' all l e st=some r
  | [],e,st,r,h=> h
  | o::l,e,st,r,h=> by
    simp only[opsS]at h ⊢
    split at h
    · split at h
      · rename_i ho
        rw[opS_ext hE hc ho]
        exact ops_ext h
      · cases h
    · exact ops_ext h
    · cases h
theorem code_ext {k:Nat}:∀ (c:SCode) {e:Env} {st:St} {r:Out},codeS P call k c e st=some r→codeS P' call' k c e st=some r
  | .skip,e,st,r,h=> h
  | .region ops d _,e,st,r,h=> by
    simp only[codeS]at h ⊢
    split at h
    · rename_i h1
      rw[ops_ext hE hc h1]
      exact h
    · cases h
  | .seq a b,e,st,r,h=> by
    simp only[codeS]at h ⊢
    split at h
    · rename_i h1
      rw[code_ext a h1]
      exact code_ext b h
    · rename_i hno
      rw[code_ext a h]
      obtain⟨x,e1,s1⟩:=r
      cases x with
      | normal=> exact(hno _ _ h).elim
      | exit i=> rfl
      | ret=> rfl
  | .cond c a b,e,st,r,h=> by
    simp only[codeS]at h ⊢
    split at h
    · rename_i h1
      rw[ev_ext hE h1]
      exact code_ext a h
    · rename_i h1
      rw[ev_ext hE h1]
      exact code_ext b h
    · cases h
  | .block i c,e,st,r,h=> by
    simp only[codeS]at h ⊢
    split at h
    · rename_i h1
      rw[code_ext c h1]
      exact h
    · rename_i hno
      rw[code_ext c h]
      obtain⟨x,e1,s1⟩:=r
      cases x with
      | normal=> rfl
      | exit i=> exact(hno _ _ _ h).elim
      | ret=> rfl
  | .loop live tr c,e,st,r,h=> by
    simp only[codeS]at h ⊢
    exact iter_mono (fun e st r h1=> round_mono (fun e st r h2=> code_ext c h2) h1) (Nat.le_refl _) h
  | .exit i,e,st,r,h=> h
  | .ret,e,st,r,h=> h
  | .keep live c,e,st,r,h=> by
    simp only[codeS]at h ⊢
    exact code_ext c h
end
theorem runF_ext {P P':Prog}(hE:Ext P P'):∀ k,(runF P k).le (runF P' k)
  | 0=> fun f args st r h=> by simp[runF]at h
  | k+1=> fun f args st r h=> by
    rw[runF]at h ⊢
    split at h
    · rename_i fn hfn
      rw[hE.fn _ _ hfn]
      simp only
      split at h
      · rename_i hl
        rw[if_pos hl]
        exact enterF_mono (fun e st r hr=> code_ext hE (runF_ext hE k) _ hr) h
      · cases h
    · rename_i hfn
      split at h
      · rename_i g hg
        obtain⟨h1,h2⟩:=hE.prim f g hfn hg
        rw[h1,h2]
        exact h
      · cases h
theorem isShut_ext {P P':Prog}(hE:Ext P P'){f:Nat}(h:isShut P f=true):isShut P' f=true:=by
  unfold isShut at h ⊢
  split at h
  · rename_i fn hfn
    rw[hE.fn _ _ hfn]
    exact h
  · cases h
theorem runD_ext {P P':Prog}(hE:Ext P P'){k f:Nat}{xs:List D}{x:D}(h:runD P k f xs x=true):runD P' k f xs x=true:=by
  unfold runD at h ⊢
  simp only[Bool.and_eq_true]at h ⊢
  obtain⟨hs,h⟩:=h
  refine⟨isShut_ext hE hs,?_⟩
  split at h
  · rename_i r s hr
    rw[runF_ext hE k _ _ _ _ hr]
    exact h
  · cases h
theorem runV_ext {P P':Prog}(hE:Ext P P'){k f:Nat}{xs:List D}{x:V}(h:runV P k f xs x=true):runV P' k f xs x=true:=by
  unfold runV at h ⊢
  simp only[Bool.and_eq_true]at h ⊢
  obtain⟨hs,h⟩:=h
  refine⟨isShut_ext hE hs,?_⟩
  split at h
  · rename_i r s hr
    rw[runF_ext hE k _ _ _ _ hr]
    exact h
  · cases h
def progOf (l:List (Nat×SFn))(g:Nat→Option (List D)):Prog:=⟨fun f=> l.lookup f,g,fun _=> none⟩
theorem ext_of {l:List (Nat×SFn)}{g:Nat→Option (List D)}{P:Prog}(h:Sub l P)(hg:∀ n c,g n=some c→P.glob n=some c):Ext (progOf l g) P:=by
  refine⟨fun f fn hf=> ?_,hg,fun f g _ h=> by cases h⟩
  have:∀ {l:List (Nat×SFn)},(progOf l g).fn f=some fn→(f,fn)∈l:=by
    intro l
    induction l with
    | nil=> intro h;simp[progOf]at h
    | cons p r ih=>
      intro h
      obtain⟨a,b⟩:=p
      simp only[progOf,lookup_if]at h
      split at h
      · rename_i hfa
        simp only[Option.some.injEq]at h
        subst hfa h
        exact List.mem_cons_self
      · exact List.mem_cons_of_mem _ (ih h)
  exact h _ (this hf)
end Go.Sh
namespace Go.Sh
theorem all2_one {α β:Type}{R:α→β→Prop}{x:α}{ys:List β}(h:All2 R [x] ys):∃ y,ys= [y]∧R x y:=by
  cases h with
  | cons h1 h2=> cases h2;exact⟨_,rfl,h1⟩
theorem bulkD_pos (d:D):1≤bulkD d:=by cases d <;> simp only[bulkD] <;> omega
theorem len_bulk:∀ l:List D,l.length≤bulkL l
  | []=> by simp[bulkL]
  | d::r=> by
    have:=bulkD_pos d
    have:=len_bulk r
    simp only[bulkL,List.length_cons]
    omega
theorem bulk_els {n:Nat}{nz:Bool}{α:Type}{c:α→List D}{sz:Nat}(hc:∀ x,(c x).length=sz)(hs:1≤sz){l:List α}{r:List D}{B:Nat}(h:bulkL (.sl n nz (l.map c).flatten::r)≤B):l.length≤B:=by
  simp only[bulkL,bulkD]at h
  have:=len_bulk (l.map c).flatten
  rw[map_flat_len hc]at this
  have:=Nat.le_mul_of_pos_right l.length (show 0 < sz by omega)
  omega
end Go.Sh
namespace Go.Sh
def opC (Pr:Prog)(fw:Nat→Bool)(e:Env)(st:St)(o:SOp)(Q:V→St→Prop):Prop:=match o with
  | .appR size bytes z s x=> match s.ev Pr e,x.ev Pr e with
    | some vs,some vx=> appW size bytes z st vs vx Q
    | _,_=> False
  | .call f args=> match evs Pr e args with
    | some vs=> if fw f=true then CallW Pr f vs st Q else match den Pr f vs st with
      | some (v,st')=> Q v st'
      | none=> False
    | none=> False
  | o=> match opS Pr (den Pr) e st o with
    | some (v,st')=> Q v st'
    | none=> False
theorem opC_W {Pr:Prog}{fw:Nat→Bool}{e:Env}{st:St}{o:SOp}{Q:V→St→Prop}(h:opC Pr fw e st o Q):OpW Pr e st o Q:=by
  cases o <;> simp only[opC,OpW]at h ⊢ <;> try exact h
  case call f args=>
    split at h
    · rename_i vs hvs
      rw[hvs]
      split at h
      · exact h
      · split at h
        · rename_i v st' hd
          exact CallW.of_den hd h
        · exact h.elim
    · exact h.elim
  case invoke t r args=>
    split at h
    · rename_i v st' hd
      simp only[opS]at hd
      obtain⟨w,hw,hd⟩:=bind1_some hd
      split at hd
      case h_2=> cases hd
      split at hd
      case h_2=> cases hd
      rename_i f v0 vs h1 h2 h3
      simp only[opArgs,hw,h1,h2,h3]
      exact CallW.of_den hd h
    · exact h.elim
theorem appW_mono {size bytes:Nat}{z:List D}{st:St}{s x:V}{Q Q':V→St→Prop}(h:appW size bytes z st s x Q)(hq:∀ v st',Q v st'→Q' v st'):appW size bytes z st s x Q':=by
  unfold appW at h ⊢
  split at h
  · obtain⟨h1,cs,m,ds,h2,h3,h4,h5,h6,h7,h8,h9,h10⟩:=h
    refine⟨h1,cs,m,ds,h2,h3,h4,h5,h6,h7,fun a b=> hq _ _ (h8 a b),fun a b=> ?_,fun a k=> hq _ _ (h10 a k)⟩
    obtain⟨st',q1,q2⟩:=h9 a b
    exact⟨st',q1,hq _ _ q2⟩
  · obtain⟨m,ds,h2,h3,h4,h5,h6,h7⟩:=h
    exact⟨m,ds,h2,h3,h4,h5,fun a=> hq _ _ (h6 a),fun a k=> hq _ _ (h7 a k)⟩
  · exact h.elim
def opsC (Pr:Prog)(fw:Nat→Bool)(all:List SOper):List SOper→Env→St→(Env→St→Prop)→Prop
  | [],e,st,Q=> Q e st
  | o::r,e,st,Q=> match wants all e o.guard with
    | some true=> opC Pr fw e st o.op fun v st'=> opsC Pr fw all r (put e o.dst v) st' Q
    | some false=> opsC Pr fw all r (put e o.dst .un) st Q
    | none=> False
theorem OpW.mono {Pr:Prog}{e:Env}{st:St}{o:SOp}{Q Q':V→St→Prop}(h:OpW Pr e st o Q)(hq:∀ v st',Q v st'→Q' v st'):OpW Pr e st o Q':=by
  cases o <;> simp only[OpW]at h ⊢
  case appR size bytes z s x=>
    split at h
    · rename_i vs vx h1 h2
      exact appW_mono h hq
    · exact h.elim
  case call f args=>
    split at h
    · exact CallW.mono h hq
    · exact h.elim
  case invoke t r args=>
    split at h
    · exact CallW.mono h hq
    · exact h.elim
  all_goals
    split at h
    · exact hq _ _ h
    · exact h.elim
theorem opsC_W {Pr:Prog}{fw:Nat→Bool}{all:List SOper}:∀ {l:List SOper} {e:Env} {st:St} {Q:Env→St→Prop},opsC Pr fw all l e st Q→OpsW Pr all l e st Q
  | [],e,st,Q,h=> h
  | o::r,e,st,Q,h=> by
    simp only[opsC,OpsW]at h ⊢
    split at h
    · rename_i hw
      rw[hw]
      exact OpW.mono (opC_W h) fun v st' h=> opsC_W h
    · rename_i hw
      rw[hw]
      exact opsC_W h
    · exact h.elim
@[simp] def isDem (fw:Nat→Bool):SOp→Bool
  | .appR .. => true
  | .call f _=> fw f
  | _=> false
def regW (fw:Nat→Bool):List SOper→Bool
  | []=> false
  | o::r=> isDem fw o.op || regW fw r
@[simp] theorem regW_nil {fw:Nat→Bool}:regW fw []=false:=rfl
@[simp] theorem regW_cons {fw:Nat→Bool}{o:SOper}{r:List SOper}:regW fw (o::r)=(isDem fw o.op || regW fw r):=rfl
def codeC (Pr:Prog)(fw:Nat→Bool):SCode→Env→St→(Out→Prop)→Prop
  | .skip,e,st,Q=> Q (.normal,e,st)
  | .region ops d B,e,st,Q=> if d=true then(if regW fw ops=true then CodeW Pr (.region ops true B) e st Q else match opsS Pr (den Pr) ops ops e st with
      | some (e',st')=> Q (.normal,e',st')
      | none=> False) else opsC Pr fw ops ops e st fun e' st'=> Q (.normal,e',st')
  | .seq a b,e,st,Q=> codeC Pr fw a e st fun r=> match r with
    | (.normal,e',st')=> codeC Pr fw b e' st' Q
    | r=> Q r
  | .cond c a b,e,st,Q=> match c.ev Pr e with
    | some (.d (.b t))=> if t=true then codeC Pr fw a e st Q else codeC Pr fw b e st Q
    | _=> False
  | .block i c,e,st,Q=> codeC Pr fw c e st (InBlock i Q)
  | .loop live tr c,e,st,Q=> CodeW Pr (.loop live tr c) e st Q
  | .exit i,e,st,Q=> Q (.exit i,e,st)
  | .ret,e,st,Q=> Q (.ret,e,st)
  | .keep live c,e,st,Q=> codeC Pr fw c (mask live e) st Q
theorem codeC_W {Pr:Prog}{fw:Nat→Bool}:∀ {c:SCode} {e:Env} {st:St} {Q:Out→Prop},codeC Pr fw c e st Q→CodeW Pr c e st Q
  | .skip,e,st,Q,h=> .skip h
  | .region ops d B,e,st,Q,h=> by
    simp only[codeC]at h
    split at h
    · rename_i hd
      subst hd
      split at h
      · exact h
      · split at h
        · rename_i h1
          exact .drawn h1 h
        · exact h.elim
    · rename_i hd
      obtain rfl:d=false:=by simpa using hd
      exact .region (opsC_W h)
  | .seq a b,e,st,Q,h=> by
    refine .seq ((codeC_W (c:=a) h).mono ?_)
    rintro⟨x,e',st'⟩ h
    cases x with
    | normal=> exact codeC_W (c:=b) h
    | exit i=> exact h
    | ret=> exact h
  | .cond c a b,e,st,Q,h=> by
    simp only[codeC]at h
    split at h
    · rename_i t ht
      refine .cond ⟨t,ht,fun h1=> ?_,fun h1=> ?_⟩
      · rw[if_pos h1]at h
        exact codeC_W (c:=a) h
      · rw[if_neg (by simp[h1])]at h
        exact codeC_W (c:=b) h
    · exact h.elim
  | .block i c,e,st,Q,h=> .block (codeC_W (c:=c) h)
  | .loop live tr c,e,st,Q,h=> h
  | .exit i,e,st,Q,h=> .exit h
  | .ret,e,st,Q,h=> .ret h
  | .keep live c,e,st,Q,h=> .keep (codeC_W (c:=c) h)
theorem opC_mono {Pr:Prog}{fw:Nat→Bool}{e:Env}{st:St}{o:SOp}{Q Q':V→St→Prop}(h:opC Pr fw e st o Q)(hq:∀ v st',Q v st'→Q' v st'):opC Pr fw e st o Q':=by
  cases o <;> simp only[opC]at h ⊢
  case appR size bytes z s x=>
    split at h
    · exact appW_mono h hq
    · exact h.elim
  case call f args=>
    split at h
    · split at h
      · rename_i hf
        rw[if_pos hf]
        exact CallW.mono h hq
      · rename_i hf
        rw[if_neg hf]
        split at h
        · exact hq _ _ h
        · exact h.elim
    · exact h.elim
  all_goals
    split at h
    · exact hq _ _ h
    · exact h.elim
theorem opsC_mono {Pr:Prog}{fw:Nat→Bool}{all:List SOper}:∀ {l:List SOper} {e:Env} {st:St} {Q Q':Env→St→Prop},opsC Pr fw all l e st Q→(∀ e s,Q e s→Q' e s)→opsC Pr fw all l e st Q'
  | [],e,st,Q,Q',h,hq=> hq _ _ h
  | o::r,e,st,Q,Q',h,hq=> by
    simp only[opsC]at h ⊢
    split at h
    · exact opC_mono h fun v st' h=> opsC_mono h hq
    · exact opsC_mono h hq
    · exact h.elim
theorem codeC_mono {Pr:Prog}{fw:Nat→Bool}:∀ {c:SCode} {e:Env} {st:St} {Q Q':Out→Prop},codeC Pr fw c e st Q→(∀ r,Q r→Q' r)→codeC Pr fw c e st Q'
  | .skip,e,st,Q,Q',h,hq=> hq _ h
  | .region ops d B,e,st,Q,Q',h,hq=> by
    simp only[codeC]at h ⊢
    split at h
    · rename_i hd
      rw[if_pos hd]
      split at h
      · rename_i hr
        rw[if_pos hr]
        exact CodeW.mono h hq
      · rename_i hr
        rw[if_neg hr]
        split at h
        · exact hq _ h
        · exact h.elim
    · rename_i hd
      rw[if_neg hd]
      exact opsC_mono h fun _ _ h=> hq _ h
  | .seq a b,e,st,Q,Q',h,hq=> by
    refine codeC_mono (c:=a) h ?_
    rintro⟨x,e',st'⟩ h
    cases x with
    | normal=> exact codeC_mono (c:=b) h hq
    | exit i=> exact hq _ h
    | ret=> exact hq _ h
  | .cond c a b,e,st,Q,Q',h,hq=> by
    simp only[codeC]at h ⊢
    split at h
    · split at h
      · rename_i h1
        rw[if_pos h1]
        exact codeC_mono (c:=a) h hq
      · rename_i h1
        rw[if_neg h1]
        exact codeC_mono (c:=b) h hq
    · exact h.elim
  | .block i c,e,st,Q,Q',h,hq=> codeC_mono (c:=c) h fun r h=> by
    obtain⟨x,e',st'⟩:=r
    cases x with
    | exit j=>
      unfold InBlock at h ⊢
      simp only at h ⊢
      split at h
      · rename_i hj
        rw[if_pos hj]
        exact hq _ h
      · rename_i hj
        rw[if_neg hj]
        exact hq _ h
    | normal=> exact hq _ h
    | ret=> exact hq _ h
  | .loop live tr c,e,st,Q,Q',h,hq=> CodeW.mono h hq
  | .exit i,e,st,Q,Q',h,hq=> hq _ h
  | .ret,e,st,Q,Q',h,hq=> hq _ h
  | .keep live c,e,st,Q,Q',h,hq=> codeC_mono (c:=c) h hq
theorem CallW.run {Pr:Prog}(fw:Nat→Bool){f:Nat}{fn:SFn}{args:List V}{st:St}{Q:V→St→Prop}(hf:Pr.fn f=some fn)(hn:args.length=fn.nparams)(h:codeC Pr fw fn.body (initE 0 args) (start fn st) (FinW fn st Q)):CallW Pr f args st Q:= .of_body hf hn (codeC_W h)
theorem CallW.shut {Pr:Prog}{f:Nat}{args as:List V}{st:St}{Q:V→Prop}(hc:closeA args=some as)(h:CallW Pr f as st0 fun v s=> s=st0∧Q v):CallW Pr f args st fun v s=> s=st∧Q v:=by
  intro P L ht κ vals hL hi ha
  have hb:=closeA_rep (κ:=κ) (κ':=κ.bare) rfl (fun _ _ _ h=> h) hc ha
  refine(h P L ht κ.bare vals hL hi.bare hb).mono ?_
  rintro e w' ⟨κ',v,r,st',rfl,rfl,h1,h2,h3,h4,rfl,hQ⟩
  have hρ:κ'.ρ= []:=List.eq_nil_of_length_eq_zero h2.len
  have htk:κ'.tk= []:=by
    have:=h2.tips
    exact List.map_eq_nil_iff.1 this.symm
  obtain⟨κ2,q1,q2,q3,q4⟩:=Inv.back hi h1 h2 hρ htk h3
  exact⟨κ2,v,r,st,q1,rfl,q2,q3,q4,Fl.refl _,rfl,hQ⟩
theorem CallW.run0 {Pr:Prog}(fw:Nat→Bool){f:Nat}{fn:SFn}{args as:List V}{st:St}{Q:V→Prop}(hf:Pr.fn f=some fn)(hc:closeA args=some as)(hn:as.length=fn.nparams)(hp:fn.pure=true)
    (h:codeC Pr fw fn.body (initE 0 as) (s0 [] [] 0 0) fun r=> match r with
     | (.exit _,_,_)=> False
     | (_,e,st')=> ∃ v,resV e st' fn.results=some v∧∃ z,esc st' 0 0 v=some z∧Q z):CallW Pr f args st fun v s=> s=st∧Q v:=by
  refine .shut hc (.run fw hf hn ?_)
  rw[start_st0]
  refine codeC_mono h ?_
  rintro⟨x,e,s⟩ hr
  cases x with
  | exit i=> exact hr
  | normal=>
    obtain⟨v,h1,z,h2,h3⟩:=hr
    exact⟨v,h1,by rw[if_pos hp];exact⟨z,h2,rfl,h3⟩⟩
  | ret=>
    obtain⟨v,h1,z,h2,h3⟩:=hr
    exact⟨v,h1,by rw[if_pos hp];exact⟨z,h2,rfl,h3⟩⟩
/-! ### Continuations as data -/
theorem nrfl {α:Sort _}{a b:α}(h:a=b):a=b:=h
inductive Fr where
  | seq (c:SCode)
  | blk (i:Nat)
def Ks (Pr:Prog)(fw:Nat→Bool):List Fr→(Out→Prop)→Out→Prop
  | [],Q,r=> Q r
  | .seq b::K,Q,r=> match r with
    | (.normal,e,st)=> codeC Pr fw b e st (Ks Pr fw K Q)
    | r=> Ks Pr fw K Q r
  | .blk i::K,Q,r=> InBlock i (Ks Pr fw K Q) r
def wC (Pr:Prog)(fw:Nat→Bool)(c:SCode)(e:Env)(st:St)(K:List Fr)(Q:Out→Prop):Prop:=codeC Pr fw c e st (Ks Pr fw K Q)
def kC (Pr:Prog)(fw:Nat→Bool)(K:List Fr)(Q:Out→Prop)(r:Out):Prop:=Ks Pr fw K Q r
section
variable {Pr:Prog}{fw:Nat→Bool}{e:Env}{st:St}{K:List Fr}{Q:Out→Prop}
@[simp] theorem wC_skip:wC Pr fw .skip e st K Q=kC Pr fw K Q (.normal,e,st):=nrfl rfl
@[simp] theorem wC_ret:wC Pr fw .ret e st K Q=kC Pr fw K Q (.ret,e,st):=nrfl rfl
@[simp] theorem wC_exit {i:Nat}:wC Pr fw (.exit i) e st K Q=kC Pr fw K Q (.exit i,e,st):=nrfl rfl
@[simp] theorem wC_keep {live:List Nat}{c:SCode}:wC Pr fw (.keep live c) e st K Q=wC Pr fw c (mask live e) st K Q:=nrfl rfl
@[simp] theorem wC_seq {a b:SCode}:wC Pr fw (.seq a b) e st K Q=wC Pr fw a e st (.seq b::K) Q:=nrfl rfl
@[simp] theorem wC_block {i:Nat}{c:SCode}:wC Pr fw (.block i c) e st K Q=wC Pr fw c e st (.blk i::K) Q:=nrfl rfl
@[simp] theorem wC_loop {live:List Nat}{tr:Bool}{c:SCode}:wC Pr fw (.loop live tr c) e st K Q=CodeW Pr (.loop live tr c) e st (kC Pr fw K Q):=nrfl rfl
def drawK (Pr:Prog)(fw:Nat→Bool)(K:List Fr)(Q:Out→Prop):Option (Env×St)→Prop
  | some (e',st')=> kC Pr fw K Q (.normal,e',st')
  | none=> False
@[simp] theorem drawK_some:drawK Pr fw K Q (some (e,st))=kC Pr fw K Q (.normal,e,st):=nrfl rfl
@[simp] theorem wC_drawn {ops:List SOper}{B:List Nat}:wC Pr fw (.region ops true B) e st K Q=if regW fw ops=true then CodeW Pr (.region ops true B) e st (kC Pr fw K Q) else drawK Pr fw K Q (opsS Pr (den Pr) ops ops e st):=by
  unfold wC
  simp only[codeC,if_true]
  rfl
def condC (Pr:Prog)(fw:Nat→Bool)(a b:SCode)(e:Env)(st:St)(K:List Fr)(Q:Out→Prop):Option V→Prop
  | some (.d (.b t))=> if t=true then wC Pr fw a e st K Q else wC Pr fw b e st K Q
  | _=> False
@[simp] theorem condC_t {a b:SCode}:condC Pr fw a b e st K Q (some (.d (.b true)))=wC Pr fw a e st K Q:=nrfl rfl
@[simp] theorem condC_f {a b:SCode}:condC Pr fw a b e st K Q (some (.d (.b false)))=wC Pr fw b e st K Q:=nrfl rfl
@[simp] theorem wC_cond {c:Opd}{a b:SCode}:wC Pr fw (.cond c a b) e st K Q=condC Pr fw a b e st K Q (c.ev Pr e):=by
  unfold wC
  simp only[codeC]
  unfold condC
  rfl
@[simp] theorem kC_nil {r:Out}:kC Pr fw [] Q r=Q r:=nrfl rfl
@[simp] theorem kC_seq {b:SCode}:kC Pr fw (.seq b::K) Q (.normal,e,st)=wC Pr fw b e st K Q:=nrfl rfl
@[simp] theorem kC_seq_exit {b:SCode}{i:Nat}:kC Pr fw (.seq b::K) Q (.exit i,e,st)=kC Pr fw K Q (.exit i,e,st):=nrfl rfl
@[simp] theorem kC_blk {i:Nat}:kC Pr fw (.blk i::K) Q (.normal,e,st)=kC Pr fw K Q (.normal,e,st):=nrfl rfl
@[simp] theorem kC_blk_exit {i j:Nat}:kC Pr fw (.blk i::K) Q (.exit j,e,st)=if j=i then kC Pr fw K Q (.normal,e,st) else kC Pr fw K Q (.exit j,e,st):=nrfl rfl
end
theorem codeC_of {Pr:Prog}{fw:Nat→Bool}{c:SCode}{e:Env}{st:St}{Q:Out→Prop}(h:wC Pr fw c e st [] Q):codeC Pr fw c e st Q:=h
/-! ### Operations, what follows as data -/
def opsD (Pr:Prog)(fw:Nat→Bool)(all l:List SOper)(e:Env)(st:St)(K:List Fr)(Q:Out→Prop):Prop:=opsC Pr fw all l e st fun e' st'=> kC Pr fw K Q (.normal,e',st')
def afterD (Pr:Prog)(fw:Nat→Bool)(all r:List SOper)(dst:Option Nat)(e:Env)(K:List Fr)(Q:Out→Prop)(v:V)(st:St):Prop:=opsD Pr fw all r (put e dst v) st K Q
def guardD (Pr:Prog)(fw:Nat→Bool)(all:List SOper)(o:SOper)(r:List SOper)(e:Env)(st:St)(K:List Fr)(Q:Out→Prop):Option Bool→Prop
  | some true=> opC Pr fw e st o.op (afterD Pr fw all r o.dst e K Q)
  | some false=> opsD Pr fw all r (put e o.dst .un) st K Q
  | none=> False
def resD (A:V→St→Prop):Option (V×St)→Prop
  | some (v,st)=> A v st
  | none=> False
def callD (Pr:Prog)(fw:Nat→Bool)(f:Nat)(st:St)(A:V→St→Prop):Option (List V)→Prop
  | some vs=> if fw f=true then CallW Pr f vs st A else resD A (den Pr f vs st)
  | none=> False
def appD (size bytes:Nat)(z:List D)(st:St)(A:V→St→Prop):Option V→Option V→Prop
  | some vs,some vx=> appW size bytes z st vs vx A
  | _,_=> False
section
variable {Pr:Prog}{fw:Nat→Bool}{all r:List SOper}{e:Env}{st:St}{K:List Fr}{Q:Out→Prop}{A:V→St→Prop}
@[simp] theorem opsD_nil:opsD Pr fw all [] e st K Q=kC Pr fw K Q (.normal,e,st):=nrfl rfl
@[simp] theorem opsD_cons {o:SOper}:opsD Pr fw all (o::r) e st K Q=guardD Pr fw all o r e st K Q (wants all e o.guard):=nrfl rfl
@[simp] theorem guardD_t {o:SOper}:guardD Pr fw all o r e st K Q (some true)=opC Pr fw e st o.op (afterD Pr fw all r o.dst e K Q):=nrfl rfl
@[simp] theorem afterD_eq {dst:Option Nat}{v:V}:afterD Pr fw all r dst e K Q v st=opsD Pr fw all r (put e dst v) st K Q:=nrfl rfl
@[simp] theorem resD_some {v:V}:resD A (some (v,st))=A v st:=nrfl rfl
@[simp] theorem callD_some {f:Nat}{vs:List V}:callD Pr fw f st A (some vs)=if fw f=true then CallW Pr f vs st A else resD A (den Pr f vs st):=nrfl rfl
@[simp] theorem appD_some {size bytes:Nat}{z:List D}{vs vx:V}:appD size bytes z st A (some vs) (some vx)=appW size bytes z st vs vx A:=nrfl rfl
@[simp] theorem wC_regionD {ops:List SOper}{B:List Nat}:wC Pr fw (.region ops false B) e st K Q=opsD Pr fw ops ops e st K Q:=nrfl rfl
theorem opC_callD {f:Nat}{args:List Opd}:opC Pr fw e st (.call f args) A=callD Pr fw f st A (evs Pr e args):=nrfl rfl
theorem opC_appD {size bytes:Nat}{z:List D}{s x:Opd}:opC Pr fw e st (.appR size bytes z s x) A=appD size bytes z st A (s.ev Pr e) (x.ev Pr e):=nrfl rfl
theorem opC_mov {x:Opd}:opC Pr fw e st (.mov x) A=resD A (opS Pr (den Pr) e st (.mov x)):=nrfl rfl
theorem opC_tok {size:Nat}{x:Opd}:opC Pr fw e st (.tok size x) A=resD A (opS Pr (den Pr) e st (.tok size x)):=nrfl rfl
theorem opC_pick {c a b:Opd}:opC Pr fw e st (.pick c a b) A=resD A (opS Pr (den Pr) e st (.pick c a b)):=nrfl rfl
theorem opC_bin {op:BinOp}{x y:Opd}:opC Pr fw e st (.bin op x y) A=resD A (opS Pr (den Pr) e st (.bin op x y)):=nrfl rfl
theorem opC_eqv {neg:Bool}{ks:List Nat}{x y:Opd}:opC Pr fw e st (.eqv neg ks x y) A=resD A (opS Pr (den Pr) e st (.eqv neg ks x y)):=nrfl rfl
theorem opC_un {op:UnOp}{x:Opd}:opC Pr fw e st (.un op x) A=resD A (opS Pr (den Pr) e st (.un op x)):=nrfl rfl
theorem opC_conv {k:IntKind}{x:Opd}:opC Pr fw e st (.conv k x) A=resD A (opS Pr (den Pr) e st (.conv k x)):=nrfl rfl
theorem opC_s2b {x:Opd}:opC Pr fw e st (.s2b x) A=resD A (opS Pr (den Pr) e st (.s2b x)):=nrfl rfl
theorem opC_b2s {x:Opd}:opC Pr fw e st (.b2s x) A=resD A (opS Pr (den Pr) e st (.b2s x)):=nrfl rfl
theorem opC_build {zero:List D}{parts:List (Nat×Nat×Opd)}:opC Pr fw e st (.build zero parts) A=resD A (opS Pr (den Pr) e st (.build zero parts)):=nrfl rfl
theorem opC_lits {n:Nat}{zero:List D}{parts:List (Nat×Nat×Opd)}:opC Pr fw e st (.lits n zero parts) A=resD A (opS Pr (den Pr) e st (.lits n zero parts)):=nrfl rfl
theorem opC_litsR {n:Nat}{zero:List D}{parts:List (Nat×Nat×Opd)}:opC Pr fw e st (.litsR n zero parts) A=resD A (opS Pr (den Pr) e st (.litsR n zero parts)):=nrfl rfl
theorem opC_litsO {n:Nat}{zero:List D}{parts:List (Nat×Nat×Opd)}:opC Pr fw e st (.litsO n zero parts) A=resD A (opS Pr (den Pr) e st (.litsO n zero parts)):=nrfl rfl
theorem opC_box {x:Opd}:opC Pr fw e st (.box x) A=resD A (opS Pr (den Pr) e st (.box x)):=nrfl rfl
theorem opC_boxI {x:Opd}:opC Pr fw e st (.boxI x) A=resD A (opS Pr (den Pr) e st (.boxI x)):=nrfl rfl
theorem opC_alloc {zero:List D}:opC Pr fw e st (.alloc zero) A=resD A (opS Pr (den Pr) e st (.alloc zero)):=nrfl rfl
theorem opC_load {size:Nat}{agg:Bool}{p:Opd}:opC Pr fw e st (.load size agg p) A=resD A (opS Pr (den Pr) e st (.load size agg p)):=nrfl rfl
theorem opC_storeX {size:Nat}{p x:Opd}{qs:List Nat}:opC Pr fw e st (.storeX size p x qs) A=resD A (opS Pr (den Pr) e st (.storeX size p x qs)):=nrfl rfl
theorem opC_store {size:Nat}{p x:Opd}:opC Pr fw e st (.store size p x) A=resD A (opS Pr (den Pr) e st (.store size p x)):=nrfl rfl
theorem opC_faddr {off:Nat}{p:Opd}:opC Pr fw e st (.faddr off p) A=resD A (opS Pr (den Pr) e st (.faddr off p)):=nrfl rfl
theorem opC_field {off size:Nat}{agg:Bool}{x:Opd}:opC Pr fw e st (.field off size agg x) A=resD A (opS Pr (den Pr) e st (.field off size agg x)):=nrfl rfl
theorem opC_iaddr {size:Nat}{x i:Opd}:opC Pr fw e st (.iaddr size x i) A=resD A (opS Pr (den Pr) e st (.iaddr size x i)):=nrfl rfl
theorem opC_iaddrA {len size:Nat}{p i:Opd}:opC Pr fw e st (.iaddrA len size p i) A=resD A (opS Pr (den Pr) e st (.iaddrA len size p i)):=nrfl rfl
theorem opC_idx {len size:Nat}{agg:Bool}{x i:Opd}:opC Pr fw e st (.idx len size agg x i) A=resD A (opS Pr (den Pr) e st (.idx len size agg x i)):=nrfl rfl
theorem opC_idxS {x i:Opd}:opC Pr fw e st (.idxS x i) A=resD A (opS Pr (den Pr) e st (.idxS x i)):=nrfl rfl
theorem opC_slc {size:Nat}{x:Opd}{lo hi mx:Option Opd}:opC Pr fw e st (.slc size x lo hi mx) A=resD A (opS Pr (den Pr) e st (.slc size x lo hi mx)):=nrfl rfl
theorem opC_slcS {x:Opd}{lo hi:Option Opd}:opC Pr fw e st (.slcS x lo hi) A=resD A (opS Pr (den Pr) e st (.slcS x lo hi)):=nrfl rfl
theorem opC_slcA {len size:Nat}{p:Opd}{lo hi mx:Option Opd}:opC Pr fw e st (.slcA len size p lo hi mx) A=resD A (opS Pr (den Pr) e st (.slcA len size p lo hi mx)):=nrfl rfl
theorem opC_mkR {bytes:Nat}{zero:List D}{len cap:Opd}:opC Pr fw e st (.mkR bytes zero len cap) A=resD A (opS Pr (den Pr) e st (.mkR bytes zero len cap)):=nrfl rfl
theorem opC_mkD {bytes:Nat}{zero:List D}{len cap:Opd}:opC Pr fw e st (.mkD bytes zero len cap) A=resD A (opS Pr (den Pr) e st (.mkD bytes zero len cap)):=nrfl rfl
theorem opC_mkO {bytes size:Nat}{zero:List D}{len cap:Opd}:opC Pr fw e st (.mkO bytes size zero len cap) A=resD A (opS Pr (den Pr) e st (.mkO bytes size zero len cap)):=nrfl rfl
theorem opC_len {str:Bool}{x:Opd}:opC Pr fw e st (.len str x) A=resD A (opS Pr (den Pr) e st (.len str x)):=nrfl rfl
theorem opC_lenA {n:Nat}:opC Pr fw e st (.lenA n) A=resD A (opS Pr (den Pr) e st (.lenA n)):=nrfl rfl
theorem opC_app {size bytes:Nat}{s x:Opd}:opC Pr fw e st (.app size bytes s x) A=resD A (opS Pr (den Pr) e st (.app size bytes s x)):=nrfl rfl
theorem opC_appZ {size bytes:Nat}{zero:List D}{s x:Opd}:opC Pr fw e st (.appZ size bytes zero s x) A=resD A (opS Pr (den Pr) e st (.appZ size bytes zero s x)):=nrfl rfl
theorem opC_cpy {size:Nat}{dst src:Opd}:opC Pr fw e st (.cpy size dst src) A=resD A (opS Pr (den Pr) e st (.cpy size dst src)):=nrfl rfl
theorem opC_clr {size:Nat}{zero:List D}{x:Opd}:opC Pr fw e st (.clr size zero x) A=resD A (opS Pr (den Pr) e st (.clr size zero x)):=nrfl rfl
theorem opC_mkMap {r:Option Opd}:opC Pr fw e st (.mkMap r) A=resD A (opS Pr (den Pr) e st (.mkMap r)):=nrfl rfl
theorem opC_lenM {m:Opd}:opC Pr fw e st (.lenM m) A=resD A (opS Pr (den Pr) e st (.lenM m)):=nrfl rfl
theorem opC_look {str ok:Bool}{zero:List D}{zagg:Bool}{m k:Opd}:opC Pr fw e st (.look str ok zero zagg m k) A=resD A (opS Pr (den Pr) e st (.look str ok zero zagg m k)):=nrfl rfl
theorem opC_mapSet {str:Bool}{m k x:Opd}:opC Pr fw e st (.mapSet str m k x) A=resD A (opS Pr (den Pr) e st (.mapSet str m k x)):=nrfl rfl
theorem opC_mkI {tag:Nat}{agg:Bool}{x:Opd}:opC Pr fw e st (.mkI tag agg x) A=resD A (opS Pr (den Pr) e st (.mkI tag agg x)):=nrfl rfl
theorem opC_assertT {tag:Nat}{others:List Nat}{ok:Bool}{zero:List D}{zagg:Bool}{x:Opd}:opC Pr fw e st (.assertT tag others ok zero zagg x) A=resD A (opS Pr (den Pr) e st (.assertT tag others ok zero zagg x)):=nrfl rfl
theorem opC_extract {i:Nat}{x:Opd}:opC Pr fw e st (.extract i x) A=resD A (opS Pr (den Pr) e st (.extract i x)):=nrfl rfl
theorem opC_nilChk {x:Opd}:opC Pr fw e st (.nilChk x) A=resD A (opS Pr (den Pr) e st (.nilChk x)):=nrfl rfl
theorem opC_invoke {table:List (Nat×Nat)}{recv:Opd}{args:List Opd}:opC Pr fw e st (.invoke table recv args) A=resD A (opS Pr (den Pr) e st (.invoke table recv args)):=nrfl rfl
theorem opC_mx {x y:Opd}:opC Pr fw e st (.mx x y) A=resD A (opS Pr (den Pr) e st (.mx x y)):=nrfl rfl
theorem opC_mn {x y:Opd}:opC Pr fw e st (.mn x y) A=resD A (opS Pr (den Pr) e st (.mn x y)):=nrfl rfl
theorem opC_mkFn {f:Nat}{caps:List Opd}:opC Pr fw e st (.mkFn f caps) A=resD A (opS Pr (den Pr) e st (.mkFn f caps)):=nrfl rfl
theorem opC_callC {fs:List Nat}{x:Opd}{args:List Opd}:opC Pr fw e st (.callC fs x args) A=resD A (opS Pr (den Pr) e st (.callC fs x args)):=nrfl rfl
attribute [simp] opC_mkFn opC_callC opC_callD opC_appD opC_mov opC_tok opC_pick opC_bin opC_eqv opC_un opC_conv opC_s2b opC_b2s opC_build opC_lits opC_litsR opC_litsO opC_box opC_boxI opC_alloc opC_load opC_store opC_storeX opC_faddr opC_field opC_iaddr opC_iaddrA opC_idx opC_idxS opC_slc opC_slcS opC_slcA opC_mkR opC_mkD opC_mkO opC_len opC_lenA opC_app opC_appZ opC_cpy opC_clr opC_mkMap opC_lenM opC_look opC_mapSet opC_mkI opC_assertT opC_extract opC_nilChk opC_invoke opC_mx opC_mn
end
/-! ### Regions whose order is drawn -/
def callE (Pr:Prog)(f:Nat)(st:St)(A:V→St→Prop):Option (List V)→Prop
  | some vs=> CallW Pr f vs st A
  | none=> False
def detG (Pr:Prog)(all:List SOper)(o:SOper)(r:List SOper)(e:Env)(st:St)(Q:Env→Prop):Option Bool→Prop
  | some true=> ∃ v,OpW Pr e st o.op (fun v' s'=> v'=v∧s'=st)∧DetW Pr all r (put e o.dst v) st Q
  | some false=> DetW Pr all r (put e o.dst .un) st Q
  | none=> False
section
variable {Pr:Prog}{fw:Nat→Bool}{all r:List SOper}{e:Env}{st:St}{K:List Fr}{Q:Out→Prop}{A:V→St→Prop}{R:Env→Prop}
@[simp] theorem callE_some {f:Nat}{vs:List V}:callE Pr f st A (some vs)=CallW Pr f vs st A:=nrfl rfl
@[simp] theorem OpW_callE {f:Nat}{args:List Opd}:OpW Pr e st (.call f args) A=callE Pr f st A (evs Pr e args):=nrfl rfl
@[simp] theorem detG_t {o:SOper}:detG Pr all o r e st R (some true)=∃ v,OpW Pr e st o.op (fun v' s'=> v'=v∧s'=st)∧DetW Pr all r (put e o.dst v) st R:=nrfl rfl
@[simp] theorem DetW_nil:DetW Pr all [] e st R=R e:=nrfl rfl
@[simp] theorem DetW_cons {o:SOper}:DetW Pr all (o::r) e st R=detG Pr all o r e st R (wants all e o.guard):=nrfl rfl
@[simp] theorem OpW_mov {x:Opd}:OpW Pr e st (.mov x) A=resD A (opS Pr (den Pr) e st (.mov x)):=nrfl rfl
@[simp] theorem OpW_litsR {n:Nat}{zero:List D}{parts:List (Nat×Nat×Opd)}:OpW Pr e st (.litsR n zero parts) A=resD A (opS Pr (den Pr) e st (.litsR n zero parts)):=nrfl rfl
@[simp] theorem OpW_load {size:Nat}{agg:Bool}{p:Opd}:OpW Pr e st (.load size agg p) A=resD A (opS Pr (den Pr) e st (.load size agg p)):=nrfl rfl
@[simp] theorem OpW_faddr {off:Nat}{p:Opd}:OpW Pr e st (.faddr off p) A=resD A (opS Pr (den Pr) e st (.faddr off p)):=nrfl rfl
@[simp] theorem OpW_iaddr {size:Nat}{x i:Opd}:OpW Pr e st (.iaddr size x i) A=resD A (opS Pr (den Pr) e st (.iaddr size x i)):=nrfl rfl
@[simp] theorem OpW_nilChk {x:Opd}:OpW Pr e st (.nilChk x) A=resD A (opS Pr (den Pr) e st (.nilChk x)):=nrfl rfl
theorem drawn2 {ops:List SOper}{B:List Nat}(M:Nat)(lz:List Nat)(hs:sufOk ops B M lz=true)(hM:M≤ops.length)(h:DetW Pr ops (ops.take M) e st fun e'=> opsD Pr fw ops (ops.drop M) e' st K Q):CodeW Pr (.region ops true B) e st (kC Pr fw K Q):=by
  refine .drawn2 M lz hs hM ?_
  have key:∀ (l:List SOper) (e:Env),DetW Pr ops l e st (fun e'=> opsD Pr fw ops (ops.drop M) e' st K Q)→DetW Pr ops l e st fun e'=> OpsW Pr ops (ops.drop M) e' st fun e'' st''=> kC Pr fw K Q (.normal,e'',st''):=by
    intro l
    induction l with
    | nil=> intro e h;exact opsC_W h
    | cons o l ih=>
      intro e h
      simp only[DetW]at h ⊢
      split at h
      · obtain⟨v,h1,h2⟩:=h
        exact⟨v,h1,ih _ h2⟩
      · exact ih _ h
      · exact h.elim
  exact key _ _ h
end
/-! ### Loops -/
theorem loopW_j {Pr:Prog}(fw:Nat→Bool){live:List Nat}{tr:Bool}{c:SCode}{Q:Out→Prop}(J:Nat→Env→St→Prop)
    (h:∀ n e st,J n e st→wC Pr fw c e (enterR st tr) [] fun r=> JStep live n J Q (some (cutR st tr r))) {n:Nat} {e:Env} {st:St} (hJ:J n (mask live e) st):CodeW Pr (.loop live tr c) e st Q:=by
  refine .loop (fun n e st=> J n (mask live e) st) (fun n e st hJ=> codeC_W (fw:=fw) (codeC_mono (h n (mask live e) st hJ) fun r hr=> ?_)) hJ
  have hr:JStep live n J Q (some (cutR st tr r)):=hr
  generalize cutR st tr r=r' at hr
  obtain⟨x,e',s'⟩:=r'
  cases x <;> exact hr
end Go.Sh
namespace Go.Sh
open Go.RowKit
def D.flat:D→Bool
  | .i _ _ | .b _ | .s _ | .np | .nm | .ni | .nf | .any=> true
  | .sl n nz cs=> decide (n=0) && !nz && cs.isEmpty
  | _=> false
theorem D.flat_rep {L:Link}{I J:Imm}{d:D}{v:Value}(hd:d.flat=true)(h:RepD L I d v):RepD L J d v:=by
  cases d <;> simp only[RepD]at h ⊢ <;> first | exact h | skip
  · simp only[D.flat,Bool.and_eq_true,List.isEmpty_iff]at hd
    obtain⟨_,rfl⟩:=hd
    obtain⟨A,cap,h1,h2,h3,h4,h5⟩:=h
    exact⟨A,cap,h1,h2,h3,h4,.inl rfl⟩
  · simp[D.flat]at hd
def pushO (st:St):Option Blk→St
  | none=> st
  | some b=> st.push b
def FreshV (s:St)(h:Nat):V→(V→Option Blk→Prop)→Prop
  | .own sz n true cs t,Q=> s.tips[t]? =some n∧cs.all D.flat=true∧cs.length=n * sz∧(Q (.d (.sl n true cs)) none∨∀ k,Q (.rsl sz h 0 n (n+k)) (some (.row (ofDs cs++List.replicate (k * sz) (.d .any)))))
  | .own sz n false cs t,Q=> n=0∧cs= []∧Q (.d (.sl 0 false [])) none
  | .d d,Q=> d.flat=true∧Q (.d d) none
  | _,_=> False
def V.flat:V→Bool
  | .d x=> D.flat x
  | _=> false
def FreshL (s:St)(h:Nat):List V→(List V→Option Blk→Prop)→Prop
  | [],Q=> Q [] none
  | x::xs,Q=> FreshV s h x fun y b=> match b with
    | some b=> xs.all V.flat=true∧Q (y::xs) (some b)
    | none=> FreshL s h xs fun ys b=> (b.isSome=true→y.flat=true)∧Q (y::ys) b
def FreshR (s st:St):V→(V→St→Prop)→Prop
  | .tup xs,Q=> FreshL s st.heap.length xs fun ys b=> Q (.tup ys) (pushO st b)
  | x,Q=> FreshV s st.heap.length x fun y b=> Q y (pushO st b)
section
variable {Pr:Prog}{κ κ':K}{st s:St}
theorem Inv.adopt (hi:Inv Pr κ st)(hL:κ'.L=κ.L)(hw0:κ'.w0=κ.w)(hi':Inv Pr κ' s){g:Nat}{arr:Array Value}{e:TypeId}(hg:κ.w.heap.size≤g)(hc:κ'.w.heap[g]? =some (.cells arr e (0,0))){cs:List V}(ha:∀ κ2:K,κ2.L=κ.L→All2 (RepC κ2) cs arr.toList):
    ∃ κ2:K,κ2.w=κ'.w∧κ.le κ2∧Inv Pr κ2 (st.push (.row cs))∧κ2.ρ[st.heap.length]? =some g:=by
  have hb:Below κ.w.heap.size κ.w κ'.w:=by
    have:=hi'.below
    rw[hw0]at this
    exact this
  have hgr:κ.w.grownBy κ'.w none:=⟨hb.os,hb.tape,hb.output,hb.size,fun k hk _=> hb.block k hk⟩
  have hold:∀ k,k < κ.w.heap.size→κ'.w.heap[k]? =κ.w.heap[k]? :=fun k h=> hb.block k h
  have hglt:g < κ'.w.heap.size:=(Array.getElem?_eq_some_iff.1 hc).1
  let κ2:K:={κ with w:=κ'.w,wr:=fun b o=> κ.wr b o∨b=g,ρ:=κ.ρ++ [g]}
  have hle:κ.le κ2:=by
    refine⟨rfl,rfl,fun b o x h=> ?_,fun i b h=> ?_,fun _ tok h=> ⟨tok,h,rfl,Nat.le_refl _,fun _=> rfl⟩,fun _ _ _ h=> .inl h⟩
    · have hlt:=lt_of_cell h.1
      exact⟨(cell_block (hold b hlt)).trans h.1,fun hw=> hw.elim h.2 (fun e=> by omega)⟩
    · show(κ.ρ++ [_])[i]? =_
      rw[List.getElem?_append_left (List.getElem?_eq_some_iff.1 h).1]
      exact h
  have get2:∀ {i b:Nat},κ2.ρ[i]? =some b→(i < κ.ρ.length∧κ.ρ[i]? =some b)∨(i=κ.ρ.length∧b=g):=by
    intro i b h
    have h:(κ.ρ++ [g])[i]? =some b:=h
    rw[List.getElem?_append]at h
    split at h
    · exact .inl ⟨by assumption,h⟩
    · rename_i hge
      have:=(List.getElem?_eq_some_iff.1 h).1
      simp at this
      have he:i=κ.ρ.length:=by omega
      subst he
      simp at h
      exact .inr ⟨rfl,h.symm⟩
  have hlast:κ2.ρ[st.heap.length]? =some g:=by
    show(κ.ρ++ [g])[_]? =_
    rw[← hi.len]
    simp
  refine⟨κ2,rfl,hle,⟨hi.below.grown hgr hi.below.size (by simp),?_,hi.tips,?_,?_,?_,?_,?_,hi.tdis,?_,fun n c h=> RepL.mono hle.imm _ _ _ (hi.globs n c h),hi.wok⟩,hlast⟩
  · show(κ.ρ++ [_]).length=(st.heap++ [_]).length
    simp[hi.len]
  · intro i j c h1 h2
    rcases get2 h1 with⟨_,h1⟩ | ⟨h1,h1'⟩ <;> rcases get2 h2 with⟨_,h2⟩ | ⟨h2,h2'⟩
    · exact hi.nd i j c h1 h2
    · have:=(hi.ρb _ _ h1).2;omega
    · have:=(hi.ρb _ _ h2).2;omega
    · omega
  · intro i c h
    show _≤_∧_ < κ'.w.heap.size
    have h0:=hi.below.size
    rcases get2 h with⟨_,h⟩ | ⟨_,h⟩
    · have:=hi.ρb _ _ h;exact⟨this.1,Nat.lt_of_lt_of_le this.2 hb.size⟩
    · subst h;exact⟨Nat.le_trans h0 hg,hglt⟩
  · intro id cs' h
    rw[row_push]at h
    split at h
    · rename_i he
      simp only[Option.some.injEq]at h
      subst h
      refine⟨g,arr,e,?_,hc,ha κ2 rfl,fun _=> .inr rfl⟩
      rw[he]
      exact hlast
    · obtain⟨c,arr',e',h1,h2,h3,h4⟩:=hi.rows id cs' h
      exact⟨c,arr',e',hle.ρ _ _ h1,(hold c (hi.ρb _ _ h1).2).trans h2,h3.mono fun _ _=> RepC.mono hle,fun o=> .inl (h4 o)⟩
  · intro id es h
    rw[mapOf_push]at h
    split at h
    · cases h
    · obtain⟨c,arr',clk,h1,h2,h3,hst⟩:=hi.maps id es h
      exact⟨c,arr',clk,hle.ρ _ _ h1,(hold c (hi.ρb _ _ h1).2).trans h2,h3.mono fun _ _=> RepE.mono hle,hst⟩
  · intro t tok h
    obtain⟨⟨xs,h1⟩,h2⟩:=hi.toks t tok h
    refine⟨⟨xs,h1.kept hgr (by cases tok.v.ownBlock <;> simp)⟩,fun g' hg'=> ⟨fun i hh=> ?_,fun o' ho=> .inl ((h2 g' hg').2 o' ho)⟩⟩
    rcases get2 hh with⟨_,hh⟩ | ⟨_,hh⟩
    · exact(h2 g' hg').1 i hh
    · have:=(own_lt' h1.1 hg').2;omega
  · intro c o' h
    show c < κ'.w.heap.size
    rcases h with h | h
    · exact Nat.lt_of_lt_of_le (hi.muts c o' h) hb.size
    · omega
theorem flats_rep:∀ {cs:List D} {l:List Value} {κ κ2:K},κ2.L=κ.L→cs.all D.flat=true→All2 (RepD κ.L κ.imm) cs l→All2 (RepC κ2) (ofDs cs) l
  | [],_,_,_,_,_,h=> by cases h;exact .nil
  | c::cs,_,κ,κ2,hL,hf,h=> by
    cases h with
    | cons h1 h2=>
      simp only[List.all_cons,Bool.and_eq_true]at hf
      refine .cons ?_ (flats_rep hL hf.2 h2)
      show RepD κ2.L κ2.imm c _
      rw[hL]
      exact D.flat_rep hf.1 h1
theorem one_any {κ:K}:∀ {l:List Value},(∀ x∈l,x.oneCell'=true)→All2 (RepC κ) (List.replicate l.length (.d .any)) l
  | [],_=> .nil
  | x::l,h=> by
    rw[List.length_cons,List.replicate_succ]
    refine .cons ?_ (one_any fun y hy=> h y (List.mem_cons_of_mem _ hy))
    have:=h x List.mem_cons_self
    show RepD κ.L κ.imm .any x
    simp only[RepD]
    exact⟨by cases x <;> first | rfl | simp[Value.oneCell']at this,this⟩
theorem vflat_rep {κ κ2:K}(hL:κ2.L=κ.L){x:V}{v:Value}(hx:x.flat=true)(h:Rep1 κ x v):Rep1 κ2 x v:=by
  cases x with
  | d d=>
    have h:RepD κ.L κ.imm d v:=h
    show RepD κ2.L κ2.imm d v
    rw[hL]
    exact D.flat_rep hx h
  | _=> simp[V.flat]at hx
theorem vflats_rep {κ κ2:K}(hL:κ2.L=κ.L):∀ {xs:List V} {l:List Value},xs.all V.flat=true→All2 (Rep1 κ) xs l→All2 (Rep1 κ2) xs l
  | [],_,_,h=> by cases h;exact .nil
  | x::xs,_,hf,h=> by
    cases h with
    | cons h1 h2=>
      simp only[List.all_cons,Bool.and_eq_true]at hf
      exact .cons (vflat_rep hL hf.1 h1) (vflats_rep hL hf.2 h2)
theorem freshV_sound (hi:Inv Pr κ st)(hL:κ'.L=κ.L)(hw0:κ'.w0=κ.w)(hi':Inv Pr κ' s){x:V}{v:Value}{Q:V→Option Blk→Prop}(hr:Rep1 κ' x v)(h:FreshV s st.heap.length x Q):
    ∃ y b,Q y b∧((b=none∧∀ κ2:K,κ2.L=κ.L→κ2.w=κ'.w→(∀ b o,κ2.wr b o→b < κ.w.heap.size)→RepC κ2 y v)∨∃ b',b=some b'∧∃ κ2:K,κ2.w=κ'.w∧κ.le κ2∧Inv Pr κ2 (st.push b')∧RepC κ2 y v):=by
  cases x with
  | d d=>
    have hr:RepD κ'.L κ'.imm d v:=hr
    refine⟨_,_,h.2,.inl ⟨rfl,fun κ2 h2 _ _=> ?_⟩⟩
    show RepD κ2.L κ2.imm d v
    rw[h2,← hL]
    exact D.flat_rep h.1 hr
  | own sz n nz cs t=>
    have hr:RepC κ' (.own sz n nz cs t) v:=hr
    obtain⟨hd,tok,htok,hsz,hn,hcur⟩:=hr
    cases nz with
    | false=>
      obtain⟨rfl,rfl,hQ⟩:=h
      refine⟨_,_,hQ,.inl ⟨rfl,fun κ2 h2 _ _=> ?_⟩⟩
      show RepD κ2.L κ2.imm _ v
      rw[h2,← hL]
      exact D.flat_rep rfl hd
    | true=>
      obtain⟨htip,hfl,hcl,hQ⟩:=h
      have htn:tok.n=n:=by
        rw[hi'.tips,List.getElem?_map,htok]at htip
        simpa using htip
      subst htn
      obtain rfl:=hcur rfl
      subst hsz
      obtain⟨⟨xs,hown,hone⟩,htk⟩:=hi'.toks t tok htok
      have hd':=hd
      simp only[RepD]at hd'
      obtain⟨A,cap0,hv,hcap0,hA,_,hcs⟩:=hd'
      rcases hown.2 with⟨hnil,_⟩ | ⟨g,cap,cur,hv2,hbase,hg,hnc,hcm,hcsz,htake⟩
      · rw[hnil]at hv
        simp only[Value.slice.injEq]at hv
        rw[← hv.1]at hA
        simp at hA
      · rw[hw0]at hbase
        have hob:tok.v.ownBlock=some g:=by rw[hv2];rfl
        have hones:=hone g cur tok.e (0,0) hob hg
        -- the cells that are known
        have hknown:All2 (RepD κ'.L κ'.imm) cs (cur.toList.take (tok.n * tok.size)):=by
          rcases hcs with rfl | ⟨b,o,hAe,hl⟩
          · simp only[List.length_nil]at hcl
            rw[← hcl,List.take_zero]
            exact .nil
          · rw[hv2]at hv
            simp only[Value.slice.injEq]at hv
            rw[hAe]at hv
            simp only[Option.some.injEq,Addr.mk.injEq]at hv
            obtain⟨⟨rfl,rfl,_⟩,_⟩:=hv
            have hlen:cs.length≤cur.size:=by
              have:tok.n * tok.size≤cap * tok.size:=Nat.mul_le_mul_right _ hnc
              omega
            refine All2.of_get (by simp;omega) fun j c y' hj hy'=> ?_
            obtain⟨y,hy,hyr⟩:=hl.get hj
            have hjl:=(List.getElem?_eq_some_iff.1 hj).1
            rw[List.getElem?_take,if_pos (by omega),Array.getElem?_toList]at hy'
            have:=hy.1
            rw[cell_of_row κ'.w g (0+j) cur tok.e (0,0) hg,Nat.zero_add,hy']at this
            rw[Option.some.inj this]
            exact hyr
        rcases hQ with hQ | hQ
        · -- as data
          refine⟨_,_,hQ,.inl ⟨rfl,fun κ2 h2 h3 h4=> ?_⟩⟩
          show RepD κ2.L κ2.imm _ _
          simp only[RepD]
          refine⟨_,cap,hv2,hnc,rfl,by simp,.inr ⟨g,0,rfl,RepL.of fun j c hj=> ?_⟩⟩
          obtain⟨y,hy,hyr⟩:=hknown.get hj
          have hjl:=(List.getElem?_eq_some_iff.1 hj).1
          rw[List.getElem?_take,if_pos (by omega),Array.getElem?_toList]at hy
          refine⟨y,⟨?_,fun hw=> by have:=h4 _ _ hw;omega⟩,?_⟩
          · rw[h3,cell_of_row κ'.w g (0+j) cur tok.e (0,0) hg,Nat.zero_add]
            exact hy
          · rw[h2,← hL]
            exact D.flat_rep (List.all_eq_true.1 hfl _ (List.mem_of_getElem? hj)) hyr
        obtain⟨k,hk⟩:∃ k,cap=tok.n+k:=⟨cap - tok.n,by omega⟩
        subst hk
        have hdrop:(cur.toList.drop (tok.n * tok.size)).length=k * tok.size:=by
          rw[List.length_drop,Array.length_toList,hcsz,Nat.add_mul]
          omega
        have hrow:∀ κ2:K,κ2.L=κ.L→All2 (RepC κ2) (ofDs cs++List.replicate (k * tok.size) (.d .any)) cur.toList:=fun κ2 h2=> by
          have q1:=flats_rep (κ:=κ') (κ2:=κ2) (h2.trans hL.symm) hfl hknown
          have q2:=one_any (κ:=κ2) (l:=cur.toList.drop (tok.n * tok.size)) fun x hx=> hones x (List.mem_of_mem_drop hx)
          rw[hdrop]at q2
          have:=q1.append q2
          rwa [List.take_append_drop]at this
        obtain⟨κ2,a1,a2,a3,a4⟩:=hi.adopt hL hw0 hi' (g:=g) hbase hg hrow
        refine⟨_,_,hQ k,.inr ⟨_,rfl,κ2,a1,a2,a3,g,0,a4,hv2,by omega,.inr rfl⟩⟩
  | _=> exact h.elim
theorem freshL_sound (hi:Inv Pr κ st)(hL:κ'.L=κ.L)(hw0:κ'.w0=κ.w)(hi':Inv Pr κ' s):∀ {xs:List V} {l:List Value} {Q:List V→Option Blk→Prop},All2 (Rep1 κ') xs l→FreshL s st.heap.length xs Q→
    ∃ κ2 ys b,κ2.w=κ'.w∧κ.le κ2∧Inv Pr κ2 (pushO st b)∧All2 (Rep1 κ2) ys l∧(b=none→∀ b o,κ2.wr b o→b < κ.w.heap.size)∧Q ys b
  | [],_,Q,hr,h=> by
    cases hr
    have hb:Below κ.w.heap.size κ.w κ'.w:=by
      have:=hi'.below
      rw[hw0]at this
      exact this
    obtain⟨g1,g2⟩:=hi.grow (w':=κ'.w) ⟨hb.os,hb.tape,hb.output,hb.size,fun k hk _=> hb.block k hk⟩
    exact⟨κ.to κ'.w,[],none,rfl,g1,g2,.nil,fun _ b o h=> hi.muts b o h,h⟩
  | x::xs,_,Q,hr,h=> by
    cases hr with
    | cons h1 h2=>
      obtain⟨y,b,hq,⟨rfl,hy⟩ | ⟨b',rfl,κ2,a1,a2,a3,a4⟩⟩:=freshV_sound hi hL hw0 hi' h1 h
      · obtain⟨κ2,ys,b,c1,c2,c3,c4,c6,c7,c5⟩:=freshL_sound hi hL hw0 hi' h2 hq
        refine⟨κ2,_,b,c1,c2,c3,.cons ?_ c4,c6,c5⟩
        cases b with
        | none=> exact Rep1.ofC (hy κ2 c2.L c1 (c6 rfl))
        | some b=> exact vflat_rep (κ:=κ.to κ'.w) c2.L (c7 rfl) (Rep1.ofC (hy (κ.to κ'.w) rfl rfl fun b o h=> hi.muts b o h))
      · obtain⟨hfl,hq⟩:=hq
        exact⟨κ2,_,some b',a1,a2,a3,.cons (Rep1.ofC a4) (vflats_rep (a2.L.trans hL.symm) hfl h2),(by simp),hq⟩
theorem freshR_sound (hi:Inv Pr κ st)(hL:κ'.L=κ.L)(hw0:κ'.w0=κ.w)(hi':Inv Pr κ' s){x:V}{v:Value}{Q:V→St→Prop}(hr:Rep κ' x v)(h:FreshR s st x Q):
    ∃ κ2 y st2,κ2.w=κ'.w∧κ.le κ2∧Inv Pr κ2 st2∧Rep κ2 y v∧Fl st st2∧Q y st2:=by
  have hfl:∀ b,Fl st (pushO st b):=fun b=> by
    cases b with
    | none=> exact Fl.refl _
    | some b=> exact Fl.push _ _
  have one:∀ {x:V},Rep1 κ' x v→(FreshV s st.heap.length x fun y b=> Q y (pushO st b))→∃ κ2 y st2,κ2.w=κ'.w∧κ.le κ2∧Inv Pr κ2 st2∧Rep κ2 y v∧Fl st st2∧Q y st2:=by
    intro x hr h
    obtain⟨κ2,ys,b,c1,c2,c3,c4,_,c5⟩:=freshL_sound hi hL hw0 hi' (xs:= [x]) (l:= [v]) (Q:=fun ys b=> ∃ y,ys= [y]∧Q y (pushO st b)) (.cons hr .nil) (by
      unfold FreshL
      refine(?_:FreshV _ _ _ _)
      revert h
      cases x with
      | own sz n nz cs t=>
        cases nz with
        | true=> exact fun⟨a,b,c,d⟩=> ⟨a,b,c,d.imp (fun c=> ⟨by simp,_,rfl,c⟩) fun d k=> ⟨rfl,_,rfl,d k⟩⟩
        | false=> exact fun⟨a,b,c⟩=> ⟨a,b,by simp,_,rfl,c⟩
      | d d=> exact fun⟨a,b⟩=> ⟨a,by simp,_,rfl,b⟩
      | _=> exact fun h=> h.elim)
    obtain⟨y,rfl,hq⟩:=c5
    cases c4 with
    | cons c4 _=> exact⟨κ2,y,_,c1,c2,c3,Rep.of1 c4,hfl b,hq⟩
  cases x with
  | tup xs=>
    obtain⟨l,rfl,hl⟩:=hr
    obtain⟨κ2,ys,b,c1,c2,c3,c4,_,c5⟩:=freshL_sound hi hL hw0 hi' hl h
    exact⟨κ2,.tup ys,_,c1,c2,c3,⟨l,rfl,c4⟩,hfl b,c5⟩
  | d d=> exact one (Rep.to1 hr (by simp)) h
  | own sz n nz cs t=> exact one (Rep.to1 hr (by simp)) h
  | _=> exact h.elim
end
def RawW (fn:SFn)(R:V→St→Prop)(r:Out):Prop:=match r with
  | (.exit _,_,_)=> False
  | (_,e,s)=> ∃ v,resV e s fn.results=some v∧R v s
theorem CallW.raw {Pr:Prog}{f:Nat}{fn:SFn}{as:List V}{R:V→St→Prop}(hf:Pr.fn f=some fn)(hn:as.length=fn.nparams)(h:CodeW Pr fn.body (initE 0 as) (s0 [] [] 0 0) (RawW fn R)):CallW Pr f as st0 R:=by
  intro P L ht κ vals hL hi ha
  obtain⟨gf,h1,h2⟩:=ht.t.fn f fn hf
  unfold okFn at h2
  split at h2
  case h_2=> cases h2
  rename_i c hc
  simp only[Bool.and_eq_true,decide_eq_true_eq]at h2
  obtain⟨⟨b1,b2⟩,b3⟩:=h2
  refine calls_of_wp h1 hc ?_
  have hlen:=ha.length
  refine h P L ht gf.ntmps c b1 κ _ _ hL hi ?_ ?_ ?_
  · intro i v hv
    obtain⟨_,hv⟩:=initE_get hv
    simp only[Nat.sub_zero]at hv
    obtain⟨y,hy,hrep⟩:=ha.get hv
    have hlt:=(List.getElem?_eq_some_iff.1 hy).1
    refine⟨by simp;omega,?_⟩
    rw[Array.getD_eq_getD_getElem?,Array.getElem?_append_left (by simpa using hlt)]
    simpa[hy]using hrep
  · simp;omega
  · rintro⟨x,e1,s1⟩ κ' a' hq hfl' k1 k2 k3 k4 k5
    have main:∀ v,resV e1 s1 fn.results=some v→R v s1→∃ u,(results gf a'.tmps).run P κ'.w= .ok u κ'.w∧Ends Pr κ st0 R (.returned u) κ'.w:=by
      intro v hv hres
      obtain⟨u,g1,g2⟩:=results_sound k2 k3 b2 hv
      exact⟨u,g1,κ',u,v,s1,rfl,rfl,k1,k2,g2,hfl',hres⟩
    cases x with
    | exit i=> exact hq.elim
    | normal=>
      obtain⟨v,hv,hq⟩:=hq
      obtain⟨u,m1,m2⟩:=main v hv hq
      exact⟨k5,u,m1,m2⟩
    | ret=>
      obtain⟨v,hv,hq⟩:=hq
      obtain⟨u,m1,m2⟩:=main v hv hq
      exact⟨k5,u,m1,m2⟩
/-! ### Arguments that lie in rows, seen as data -/
def seeL (f:V→Option D):List V→Option (List D)
  | []=> some []
  | x::xs=> match f x,seeL f xs with
    | some d,some ds=> some (d::ds)
    | _,_=> none
def seeD (st:St):Nat→V→Option D
  | _,.d x=> some x
  | _,.own _ n nz cs _=> some (.sl n nz cs)
  | k+1,.rsl sz id off n _=> match st.row id with
    | some cs=> if off+n * sz≤cs.length then(seeL (seeD st k) ((cs.drop off).take (n * sz))).map fun ds=> .sl n true ds else none
    | none=> none
  | _,_=> none
def see1 (st:St)(k:Nat):V→Option V
  | .ep cs=> some (.ep cs)
  | .agg cs=> (seeL (seeD st k) cs).map fun ds=> .agg (ofDs ds)
  | x=> (seeD st k x).map .d
def seeA (st:St)(k:Nat):List V→Option (List V)
  | []=> some []
  | x::xs=> match see1 st k x,seeA st k xs with
    | some y,some ys=> some (y::ys)
    | _,_=> none
def K.seen (κ:K):K:={L:=κ.L,w0:=κ.w,w:=κ.w,wr:=fun _ _=> False,ρ:= [],tk:= []}
section
variable {Pr:Prog}{κ:K}{st:St}
theorem K.seen_imm {b o:Nat}{x:Value}(h:κ.imm b o x):κ.seen.imm b o x:=⟨h.1,fun h=> h⟩
theorem Inv.seen (hi:Inv Pr κ st):Inv Pr κ.seen st0:=
  ⟨Below.refl _ _,rfl,rfl,fun i j b h=> by simp[K.seen]at h,fun i b h=> by simp[K.seen]at h,fun id cs h=> by simp[St.row,st0]at h,fun id cs h=> by simp[St.mapOf,st0]at h,fun t tok h=> by simp[K.seen]at h,
    fun t t' tok tok' g h=> by simp[K.seen]at h,fun b o h=> h.elim,fun n c h=> RepL.mono (fun _ _ _=> K.seen_imm) _ _ _ (hi.globs n c h),hi.wok'⟩
theorem seeL_rep {f:V→Option D}(hf:∀ x d v,f x=some d→RepC κ x v→RepD κ.L κ.seen.imm d v):∀ {xs:List V} {ds:List D} {l:List Value},seeL f xs=some ds→All2 (RepC κ) xs l→All2 (RepD κ.L κ.seen.imm) ds l
  | [],ds,l,h,ha=> by
    simp only[seeL,Option.some.injEq]at h
    subst h
    cases ha
    exact .nil
  | x::xs,ds,l,h,ha=> by
    simp only[seeL]at h
    split at h
    · rename_i d ds' h1 h2
      simp only[Option.some.injEq]at h
      subst h
      cases ha with
      | cons a1 a2=> exact .cons (hf _ _ _ h1 a1) (seeL_rep hf h2 a2)
    · cases h
theorem seeD_rep (hi:Inv Pr κ st):∀ (k:Nat) (x:V) (d:D) (v:Value),seeD st k x=some d→RepC κ x v→RepD κ.L κ.seen.imm d v:=by
  have hd:∀ (x d:D) (v:Value),some x=some d→RepC κ (.d x) v→RepD κ.L κ.seen.imm d v:=by
    intro x d v h hr
    simp only[Option.some.injEq]at h
    subst h
    have hr:RepD κ.L κ.imm x v:=hr
    exact RepD.mono (fun _ _ _=> K.seen_imm) _ _ hr
  have ho:∀ (sz n:Nat) (nz:Bool) (cs:List D) (t:Nat) (d:D) (v:Value),some (D.sl n nz cs)=some d→RepC κ (.own sz n nz cs t) v→RepD κ.L κ.seen.imm d v:=by
    intro sz n nz cs t d v h hr
    simp only[Option.some.injEq]at h
    subst h
    exact RepD.mono (fun _ _ _=> K.seen_imm) _ _ hr.1
  intro k
  induction k with
  | zero=>
    intro x d v h hr
    cases x with
    | d y=> exact hd y d v h hr
    | own sz n nz cs t=> exact ho sz n nz cs t d v h hr
    | _=> simp[seeD]at h
  | succ k ih=>
    intro x d v h hr
    cases x with
    | d y=> exact hd y d v h hr
    | own sz n nz cs t=> exact ho sz n nz cs t d v h hr
    | rsl sz id off n cap=>
      simp only[seeD]at h
      split at h
      case h_2=> cases h
      rename_i cs hrow
      split at h
      case isFalse=> cases h
      rename_i hfit
      simp only[Option.map_eq_some_iff]at h
      obtain⟨ds,hds,rfl⟩:=h
      obtain⟨b,o,h1,rfl,hcap,ho⟩:=hr
      obtain⟨b',arr,e,h2,h3,h4,h5⟩:=hi.rows id cs hrow
      obtain rfl:b=b':=by rw[h1]at h2;exact Option.some.inj h2
      have ha:=seeL_rep ih hds ((h4.drop off).take (n * sz))
      simp only[RepD]
      refine⟨some ⟨b,o,none⟩,cap,rfl,hcap,rfl,(by simp),?_⟩
      rcases ho with rfl | rfl
      · left
        have hn:n=0:=by omega
        subst hn
        simp only[Nat.zero_mul,List.take_zero,seeL,Option.some.injEq]at hds
        exact hds.symm
      · right
        refine⟨b,o,rfl,RepL.of fun j c hj=> ?_⟩
        obtain⟨y,hy,hyr⟩:=ha.get hj
        refine⟨y,⟨?_,fun h=> h⟩,hyr⟩
        obtain⟨_,hy⟩:=take_get hy
        rw[List.getElem?_drop,Array.getElem?_toList]at hy
        show κ.w.cell? ⟨b,o+j,none⟩=some y
        rw[cell_of_row κ.w b (o+j) arr e (0,0) h3]
        exact hy
    | _=> simp[seeD]at h
theorem see1_rep (hi:Inv Pr κ st){k:Nat}{x y:V}{v:Value}(h:see1 st k x=some y)(hr:Rep κ x v):Rep κ.seen y v:=by
  have hL:κ.seen.L=κ.L:=rfl
  have one:∀ {x:V},(seeD st k x).map V.d=some y→RepC κ x v→Rep κ.seen y v:=by
    intro x h hr
    simp only[Option.map_eq_some_iff]at h
    obtain⟨d,h1,rfl⟩:=h
    exact Rep.of1 (Rep1.ofC (x:= .d d) (seeD_rep hi k x d v h1 hr))
  cases x with
  | ep cs=>
    simp only[see1,Option.some.injEq]at h
    subst h
    obtain⟨A,h1,h2⟩:=hr
    exact⟨A,h1,h2.imp id fun⟨b,o,h3,h4⟩=> ⟨b,o,h3,RepL.mono (fun _ _ _=> K.seen_imm) _ _ _ h4⟩⟩
  | agg cs=>
    simp only[see1,Option.map_eq_some_iff]at h
    obtain⟨ds,h1,rfl⟩:=h
    obtain⟨l,rfl,h2⟩:=hr
    refine⟨l,rfl,all2_ofDs (κ:=κ.seen) ?_⟩
    exact seeL_rep (fun x d v=> seeD_rep hi k x d v) h1 h2
  | d d=> exact one h hr
  | own sz n nz cs t=> exact one h hr
  | rsl sz id off n cap=> exact one h hr
  | ptr=> simp[see1,seeD]at h
  | map=> simp[see1,seeD]at h
  | fn=> simp[see1,seeD]at h
  | tup=> simp[see1,seeD]at h
  | un=> simp[see1,seeD]at h
theorem seeA_rep (hi:Inv Pr κ st){k:Nat}:∀ {xs ys:List V} {vs:List Value},seeA st k xs=some ys→All2 (Rep κ) xs vs→All2 (Rep κ.seen) ys vs
  | [],ys,vs,h,hr=> by
    simp only[seeA,Option.some.injEq]at h
    subst h
    cases hr
    exact .nil
  | x::xs,ys,vs,h,hr=> by
    simp only[seeA]at h
    split at h
    · rename_i y ys' h1 h2
      simp only[Option.some.injEq]at h
      subst h
      cases hr with
      | cons a1 a2=> exact .cons (see1_rep hi h1 a1) (seeA_rep hi h2 a2)
    · cases h
end
theorem CallW.seen {Pr:Prog}{f:Nat}{args as:List V}{st:St}{Q:V→St→Prop}{k:Nat}(hc:seeA st k args=some as)(h:CallW Pr f as st0 fun v s=> FreshR s st v Q):CallW Pr f args st Q:=by
  intro P L ht κ vals hL hi ha
  have hb:=seeA_rep hi hc ha
  refine(h P L ht κ.seen vals hL hi.seen hb).mono ?_
  rintro e w' ⟨κ',v,r,s,rfl,rfl,h1,h2,h3,h4,hQ⟩
  obtain⟨κ2,y,st2,c1,c2,c3,c4,c5,c6⟩:=freshR_sound hi h1.L h1.w0 h2 h3 hQ
  exact⟨κ2,v,y,st2,c1,rfl,c2,c3,c4,c5,c6⟩
/-! ### Functional runs, before their answers are seen as data -/
def RawD (Pr:Prog)(fn:SFn)(as:List V)(R:V→St→Prop):Prop:=match cden Pr fn.body (initE 0 as) (s0 [] [] 0 0) with
  | some r=> RawW fn R r
  | none=> False
theorem RawD.callW {Pr:Prog}{f:Nat}{fn:SFn}{as:List V}{R:V→St→Prop}(hf:Pr.fn f=some fn)(hn:as.length=fn.nparams)(h:RawD Pr fn as R):CallW Pr f as st0 R:=by
  unfold RawD at h
  split at h
  · rename_i r hr
    exact .raw hf hn (.of_cden hr h)
  · exact h.elim
@[simp] theorem RawW_ret {fn:SFn}{R:V→St→Prop}{e:Env}{s:St}:RawW fn R (.ret,e,s)=∃ v,resV e s fn.results=some v∧R v s:=rfl
@[simp] theorem RawW_normal {fn:SFn}{R:V→St→Prop}{e:Env}{s:St}:RawW fn R (.normal,e,s)=∃ v,resV e s fn.results=some v∧R v s:=rfl
def rawD (fn:SFn)(R:V→St→Prop):Option Out→Prop
  | some r=> RawW fn R r
  | none=> False
@[simp] theorem rawD_some {fn:SFn}{R:V→St→Prop}{r:Out}:rawD fn R (some r)=RawW fn R r:=rfl
theorem RawD.of {Pr:Prog}{fn:SFn}{as:List V}{R:V→St→Prop}(h:rawD fn R (cden Pr fn.body (initE 0 as) (s0 [] [] 0 0))):RawD Pr fn as R:=by
  unfold RawD
  unfold rawD at h
  split at h
  · exact h
  · exact h.elim
end Go.Sh
namespace Go.Sh
theorem seeL_ofDs (st:St)(k:Nat):∀ ds:List D,seeL (seeD st k) (ofDs ds)=some ds
  | []=> rfl
  | d::ds=> by
    have:=seeL_ofDs st k ds
    have h1:seeD st k (.d d)=some d:=by cases k <;> rfl
    simp only[ofDs,List.map_cons,seeL]at this ⊢
    rw[this,h1]
theorem iaddr_row {size sz id off n cap i:Nat}{k:IntKind}(h:i < n):iaddrV size (.rsl sz id off n cap) (.d (.i k (i:Int)))=some (.ptr id (off+i * size)):=by
  have h1:(0:Int)≤i∧(i:Int) < n:=by omega
  simp only[iaddrV,intV,h1,and_self,if_true,Int.toNat_natCast]
theorem seeA_two {st:St}{m:Nat}{x y x' y':V}(h:see1 st m x=some y)(h':see1 st m x'=some y'):seeA st m [x,x']=some [y,y']:=by simp only[seeA,h,h']
end Go.Sh
namespace Go.Sh
def St.put (st:St)(id:Nat)(cs:List V):St:={st with heap:=st.heap.set id (some (.row cs))}
section
variable {st:St}{id j:Nat}{cs cs':List V}
@[simp] theorem put_len:(st.put id cs).heap.length=st.heap.length:=by simp[St.put]
@[simp] theorem put_floor:(st.put id cs).floor=st.floor:=rfl
@[simp] theorem put_tfloor:(st.put id cs).tfloor=st.tfloor:=rfl
@[simp] theorem put_tips:(st.put id cs).tips=st.tips:=rfl
theorem row_put:(st.put id cs).row j=if j=id∧id < st.heap.length then some cs else st.row j:=by
  unfold St.put St.row
  simp only[List.getElem?_set]
  by_cases h:id=j
  · subst h
    by_cases hl:id < st.heap.length
    · simp[hl]
    · simp[hl]
  · have h':¬ j=id:=fun e=> h e.symm
    simp[h,h']
theorem row_put_eq (h:id < st.heap.length):(st.put id cs).row id=some cs:=by rw[row_put,if_pos ⟨rfl,h⟩]
theorem row_put_ne (h:j≠id):(st.put id cs).row j=st.row j:=by rw[row_put,if_neg (fun e=> h e.1)]
theorem setBlk_put (h:st.floor=0):st.setBlk id (.row cs)=some (st.put id cs):=by
  unfold St.setBlk
  rw[if_pos (by omega)]
  rfl
theorem row_lt (h:st.row id=some cs):id < st.heap.length:=St.row_lt h
end
theorem row_old {st:St}{b:Blk}{i:Nat}(h:i < st.heap.length):(st.push b).row i=st.row i:=by rw[row_push,if_neg (by omega)]
structure Gr (st st':St)(A:Nat→Prop)(P:V→Prop):Prop where
  floor:st'.floor=st.floor
  len:st.heap.length≤st'.heap.length
  keep:∀ i,i < st.heap.length→¬ A i→st'.row i=st.row i
  cell:∀ i c,st.row i=some c→∃ c',st'.row i=some c'∧c'.length=c.length∧∀ (k:Nat) x,c'[k]? =some x→c[k]? =some x∨P x
section
variable {st s1 s2:St}{A A':Nat→Prop}{P P':V→Prop}
theorem Gr.refl (st:St)(A:Nat→Prop)(P:V→Prop):Gr st st A P:=⟨rfl,Nat.le_refl _,fun _ _ _=> rfl,fun i c h=> ⟨c,h,rfl,fun _ _ h=> .inl h⟩⟩
theorem Gr.mono (h:Gr st s1 A P)(ha:∀ i,i < st.heap.length→A i→A' i)(hp:∀ x,P x→P' x):Gr st s1 A' P':=
  ⟨h.floor,h.len,fun i hi hn=> h.keep i hi fun hA=> hn (ha i hi hA),fun i c hc=> by
    obtain⟨c',h1,h2,h3⟩:=h.cell i c hc
    exact⟨c',h1,h2,fun k x hx=> (h3 k x hx).imp id (hp x)⟩⟩
theorem Gr.push (b:Blk):Gr st (st.push b) A P:=⟨rfl,by simp,fun i hi _=> row_old hi,fun i c h=> ⟨c,by rw[row_old (row_lt h)];exact h,rfl,fun _ _ h=> .inl h⟩⟩
theorem Gr.put {id:Nat}{c c':List V}(h:st.row id=some c)(hl:c'.length=c.length)(hA:A id)(hP:∀ (k:Nat) x,c'[k]? =some x→c[k]? =some x∨P x):Gr st (st.put id c') A P:=by
  refine⟨rfl,by simp,fun i hi hn=> row_put_ne fun e=> hn (e ▸ hA),fun i d hd=> ?_⟩
  by_cases he:i=id
  · subst he
    rw[h]at hd
    obtain rfl:=Option.some.inj hd
    exact⟨c',row_put_eq (row_lt h),hl,hP⟩
  · exact⟨d,by rw[row_put_ne he];exact hd,rfl,fun _ _ h=> .inl h⟩
end
def LR (st:St)(sz:Nat)(v:V)(n:Nat)(cells:List V)(j:Option Nat):Prop:=
  cells.length=n * sz∧((j=none∧v= .d (.sl 0 false [])∧n=0)∨∃ j0 cap tail,j=some j0∧v= .rsl sz j0 0 n cap∧n≤cap∧st.row j0=some (cells++tail)∧tail.length+n * sz=cap * sz)
section
variable {st s1:St}{A:Nat→Prop}{P:V→Prop}{sz n:Nat}{v:V}{cells:List V}{j:Option Nat}
theorem LR.nil (st:St)(sz:Nat):LR st sz (.d (.sl 0 false [])) 0 [] none:=⟨by simp,.inl ⟨rfl,rfl,rfl⟩⟩
theorem LR.lt (h:LR st sz v n cells j){j0:Nat}(hj:j=some j0):j0 < st.heap.length:=by
  obtain⟨_,⟨rfl,_⟩ | ⟨j1,cap,tail,rfl,_,_,h1,_⟩⟩:=h
  · cases hj
  · obtain rfl:=Option.some.inj hj
    exact row_lt h1
theorem LR.row (h:LR st sz v n cells j)(he:∀ j0,j=some j0→s1.row j0=st.row j0):LR s1 sz v n cells j:=by
  obtain⟨h0,h | ⟨j0,cap,tail,rfl,h1,h2,h3,h4⟩⟩:=h
  · exact⟨h0,.inl h⟩
  · exact⟨h0,.inr ⟨j0,cap,tail,rfl,h1,h2,(he j0 rfl).trans h3,h4⟩⟩
theorem LR.gr (h:LR st sz v n cells j)(g:Gr st s1 A P)(ha:∀ j0,j=some j0→¬ A j0):LR s1 sz v n cells j:=
  h.row fun j0 hj=> g.keep j0 (h.lt hj) (ha j0 hj)
theorem LR.len (h:LR st sz v n cells j):lenV v=some n:=by
  obtain⟨_,⟨rfl,rfl,rfl⟩ | ⟨j0,cap,tail,rfl,rfl,_⟩⟩:=h <;> rfl
theorem LR.iaddr (h:LR st sz v n cells j){i:Nat}{k:IntKind}(hi:i < n):∃ j0,j=some j0∧iaddrV sz v (.d (.i k (i:Int)))=some (.ptr j0 (i * sz)):=by
  obtain⟨_,⟨rfl,rfl,rfl⟩ | ⟨j0,cap,tail,rfl,rfl,_⟩⟩:=h
  · omega
  · exact⟨j0,rfl,by rw[iaddr_row hi,Nat.zero_add]⟩
theorem LR.inRow (h:LR st sz v n cells j){j0:Nat}(hj:j=some j0):∃ tail,st.row j0=some (cells++tail):=by
  obtain⟨_,⟨rfl,_⟩ | ⟨j1,cap,tail,rfl,_,_,h1,_⟩⟩:=h
  · cases hj
  · obtain rfl:=Option.some.inj hj
    exact⟨tail,h1⟩
theorem lay_get {α:Type}{c ys:List α}{o k:Nat}{x:α}(h:(lay c o ys)[k]? =some x)(ho:o≤c.length):c[k]? =some x∨x∈ys:=by
  unfold lay at h
  rw[List.append_assoc,List.getElem?_append]at h
  split at h
  · left
    rename_i hk
    rw[List.length_take]at hk
    rwa [List.getElem?_take,if_pos (by omega)]at h
  · rw[List.getElem?_append]at h
    split at h
    · exact .inr (List.mem_of_getElem? h)
    · left
      rename_i h1 h2
      rw[List.length_take]at h1 h2 h
      rw[List.getElem?_drop]at h
      rwa [show o+ys.length+(k - min o c.length - ys.length)=k by omega]at h
theorem lay_len' {α:Type}{c ys:List α}{o:Nat}(h:o+ys.length≤c.length):(lay c o ys).length=c.length:=by
  unfold lay
  simp
  omega
theorem appW_LR2 {x:V}{m:Nat}{ys:List V}{zero:List D}{bytes:Nat}{Q:V→St→Prop}(hf:st.floor=0)(h:LR st sz v n cells j)(hx:vwV sz st x=some (m,ys))(hy:ys.length=m * sz)(hz:zero.length=sz)(hb:(n+m) * bytes≤140737488355328)(hn:n+m≤140737488355328)
    (hQ:∀ st' v' j',LR st' sz v' (n+m) (cells++ys) j'→Gr st st' (fun i=> j=some i) (· ∈ys)→(j'=j∨∃ i,j'=some i∧st.heap.length≤i∧i < st'.heap.length)→LR st' sz v n cells j→(∀ r,j=some r→∃ c,st.row r=some c∧(st'.row r=some c∨st'.row r=some (lay c (n * sz) ys)))→Q v' st'):appW sz bytes zero st v x Q:=by
  have hl:=h.1
  have hsame:∀ st',(∀ r,j=some r→st'.row r=st.row r)→LR st' sz v n cells j∧∀ r,j=some r→∃ c,st.row r=some c∧(st'.row r=some c∨st'.row r=some (lay c (n * sz) ys)):=by
    intro st' he
    refine⟨h.row he,fun r hr=> ?_⟩
    obtain⟨tail,ht⟩:=h.inRow hr
    exact⟨_,ht,.inl ((he r hr).trans ht)⟩
  have hreps:∀ k,(ofDs (reps k zero)).length=k * sz:=fun k=> by rw[ofDs,List.length_map,reps_len,hz]
  have hlen:(cells++ys).length=(n+m) * sz:=by rw[List.length_append,hl,hy,Nat.add_mul]
  obtain⟨_,⟨rfl,rfl,rfl⟩ | ⟨j0,cap,tail,rfl,rfl,hcap,hrow,htl⟩⟩:=h
  · have hc0:cells= []:=List.eq_nil_of_length_eq_zero (by simpa using hl)
    subst hc0
    refine⟨m,ys,hx,hy,by simpa using hb,by simpa using hn,fun hm=> ?_,fun hm k=> ?_⟩
    · subst hm
      have:ys= []:=List.eq_nil_of_length_eq_zero (by simpa using hy)
      subst this
      exact hQ st _ none ⟨by simp,.inl ⟨rfl,rfl,rfl⟩⟩ (.refl _ _ _) (.inl rfl) (hsame st fun _ _=> rfl).1 (hsame st fun _ _=> rfl).2
    · refine hQ _ _ (some st.heap.length) ⟨hlen,.inr ⟨st.heap.length,m+k,ofDs (reps k zero),rfl,by simp,by simp,?_,?_⟩⟩ (.push _) (.inr ⟨_,rfl,Nat.le_refl _,by simp⟩) (hsame _ fun _ h=> by cases h).1 (hsame _ fun _ h=> by cases h).2
      · rw[row_push_new rfl]
        rfl
      · rw[hreps,Nat.zero_add,Nat.add_mul]
        omega
  · have hfit:n * sz≤(cells++tail).length:=by rw[List.length_append];omega
    have hclen:(cells++tail).length=cap * sz:=by rw[List.length_append];omega
    refine⟨rfl,cells++tail,m,ys,hrow,hx,hy,by rw[hclen];simp,hb,hn,fun _ hm=> ?_,fun hroom hm=> ?_,fun hroom k=> ?_⟩
    · subst hm
      have:ys= []:=List.eq_nil_of_length_eq_zero (by simpa using hy)
      subst this
      exact hQ st _ (some j0) ⟨by simpa using hl,.inr ⟨j0,cap,tail,rfl,rfl,hcap,by simpa using hrow,htl⟩⟩ (.refl _ _ _) (.inl rfl) (hsame st fun _ _=> rfl).1 (hsame st fun _ _=> rfl).2
    · have hms:(n+m) * sz≤cap * sz:=Nat.mul_le_mul_right _ hroom
      rw[Nat.add_mul]at hms
      refine⟨_,setBlk_put hf,hQ _ _ (some j0) ⟨hlen,.inr ⟨j0,cap,tail.drop (m * sz),rfl,rfl,hroom,?_,?_⟩⟩ (.put hrow (lay_len' (by rw[hclen,hy];omega)) rfl fun k x hk=> lay_get hk (by rw[hclen];omega)) (.inl rfl) ⟨hl,.inr ⟨j0,cap,ys++tail.drop (m * sz),rfl,rfl,hcap,?_,?_⟩⟩ fun r hr=> ⟨_,(by obtain rfl:=Option.some.inj hr;exact hrow),.inr (by obtain rfl:=Option.some.inj hr;rw[row_put_eq (row_lt hrow),Nat.zero_add])⟩⟩
      · rw[row_put_eq (row_lt hrow),Nat.zero_add]
        unfold lay
        rw[← hl,List.take_left',List.drop_append,List.drop_of_length_le (by omega),hy,show cells.length+m * sz - cells.length=m * sz by omega]
        · simp
        · rfl
      · rw[List.length_drop,Nat.add_mul]
        omega
      · rw[row_put_eq (row_lt hrow),Nat.zero_add]
        unfold lay
        rw[← hl,List.take_left',List.drop_append,List.drop_of_length_le (by omega),hy,show cells.length+m * sz - cells.length=m * sz by omega]
        · simp
        · rfl
      · rw[List.length_append,List.length_drop,hy]
        omega
    · refine hQ _ _ (some st.heap.length) ⟨hlen,.inr ⟨st.heap.length,n+m+k,ofDs (reps k zero),rfl,by simp,by simp,?_,?_⟩⟩ (.push _) (.inr ⟨_,rfl,Nat.le_refl _,by simp⟩) (hsame _ fun r hr=> by obtain rfl:=Option.some.inj hr;exact row_old (row_lt hrow)).1 (hsame _ fun r hr=> by obtain rfl:=Option.some.inj hr;exact row_old (row_lt hrow)).2
      · rw[row_push_new rfl,List.drop_zero,← hl,List.take_left' rfl]
      · rw[hreps,Nat.add_mul (n+m)]
        omega
theorem appW_LR {x:V}{m:Nat}{ys:List V}{zero:List D}{bytes:Nat}{Q:V→St→Prop}(hf:st.floor=0)(h:LR st sz v n cells j)(hx:vwV sz st x=some (m,ys))(hy:ys.length=m * sz)(hz:zero.length=sz)(hb:(n+m) * bytes≤140737488355328)(hn:n+m≤140737488355328)
    (hQ:∀ st' v' j',LR st' sz v' (n+m) (cells++ys) j'→Gr st st' (fun i=> j=some i) (· ∈ys)→(j'=j∨∃ i,j'=some i∧st.heap.length≤i∧i < st'.heap.length)→Q v' st'):appW sz bytes zero st v x Q:=
  appW_LR2 hf h hx hy hz hb hn fun st' v' j' h1 h2 h3 _ _=> hQ st' v' j' h1 h2 h3
end
/-! ### Bytes -/
def foot:V→Option Nat
  | .rsl _ id _ _ _=> some id
  | _=> none
end Go.Sh
namespace Go.Sh
open Go.RowKit
def Ans (Q:V→St→Prop):Option (V×St)→Prop
  | some (v,s)=> Q v s
  | none=> False
@[simp] theorem Ans_some {Q:V→St→Prop}{v:V}{s:St}:Ans Q (some (v,s))=Q v s:=rfl
section
variable {P:Program}{Pr:Prog}{L:Link}{f:Nat}
theorem PrimOk.below {g:List V→St→Option V}(h:∀ (κ:K) (st:St) (args:List V) (vals:List Value) (r:V),κ.L=L→Inv Pr κ st→All2 (Rep κ) args vals→g args st=some r→
    Calls P (L.fn f) vals.toArray κ.w fun e w'=> Below κ.w.heap.size κ.w w'∧∃ v,e= .returned v∧Rep (κ.to w') r v):PrimOk P Pr L f g:=by
  intro κ st args vals r hL hi ha hg
  refine(h κ st args vals r hL hi ha hg).mono ?_
  rintro e w' ⟨hb,v,rfl,hv⟩
  obtain⟨g1,g2⟩:=hi.grow (w':=w') ⟨hb.os,hb.tape,hb.output,hb.size,fun k hk _=> hb.block k hk⟩
  exact⟨κ.to w',v,rfl,rfl,g1,g2,hv⟩
end
end Go.Sh
namespace Go.Sh
open Go.RowKit Go.WideElems Go.WideShapes Go.Maps
def strKs:List D→Option (List (List UInt8))
  | []=> some []
  | .s l::r=> (strKs r).map (l:: ·)
  | _=> none
def srtS (ks:List (List UInt8)):List (List UInt8):=ks.mergeSort leB
def pSortedS (kf:Nat):List V→St→Option V
  | [.fn f [(b,0)]],st=> if f=kf then match st.row b with
    | some [.map id]=> match st.mapOf id with
      | some es=> match strKs (es.map (·.1)) with
        | some ks=> if ks.length≤8796093022208∧∀ k∈ks,k.length≤9223372036854775807 then some (.d (.sl ks.length (decide (0 < ks.length)) ((srtS ks).map .s))) else none
        | none=> none
      | none=> none
    | _=> none
    else none
  | _,_=> none
section
variable {P:Program}{Pr:Prog}{L:Link}{f kf:Nat}{kt:TypeId}
def anyR:Value→Option (DataW Unit×List MemPlace):=fun _=> some (.nil,[])
theorem keyOf_s (hk:P.underlying kt=some .string){s:List UInt8}(hs:s.length≤9223372036854775807):keyOf P kt (.string ⟨s.toArray⟩)=some (.string s):=by
  have:(ByteArray.mk s.toArray).size≤maxLen:=by simp[ByteArray.size,maxLen];omega
  simp[keyOf,hk,mapKey,this]
theorem keys_rep (hk:P.underlying kt=some .string){κ:K}:∀ {es:List (D×V)} {l:List MapEntry} {ks:List (List UInt8)},All2 (RepE κ) es l→strKs (es.map (·.1))=some ks→(∀ k∈ks,k.length≤9223372036854775807)→
    l.length=ks.length∧(∀ x∈l,∃ y,rd P kt anyR x=some y)∧(l.map (rg P kt anyR)).map (fun p=> strOf p.1)=ks
  | [],l,ks,h,h1,_=> by
    cases h
    simp only[List.map_nil,strKs,Option.some.injEq]at h1
    subst h1
    exact⟨rfl,(fun x hx=> by cases hx),rfl⟩
  | (k,v)::es,l,ks,h,h1,h2=> by
    cases h with
    | cons a b=>
      rename_i e l
      cases k <;> simp only[List.map_cons,strKs]at h1 <;> try (cases h1;done)
      rename_i s
      simp only[Option.map_eq_some_iff]at h1
      obtain⟨ks',h1,rfl⟩:=h1
      obtain⟨i1,i2,i3⟩:=keys_rep hk b h1 fun k hk=> h2 k (List.mem_cons_of_mem _ hk)
      have hkey:e.key= .string ⟨s.toArray⟩:=by
        have:=a.1
        simpa only[RepD]using this
      have hr:rd P kt anyR e=some (.string s,.nil):=by
        simp[rd,hkey,keyOf_s hk (h2 s List.mem_cons_self),anyR]
      refine⟨by simp[i1],fun x hx=> ?_,?_⟩
      · rcases List.mem_cons.1 hx with rfl | hx
        · exact⟨_,hr⟩
        · exact i2 x hx
      · rw[List.map_cons,List.map_cons,i3]
        simp[rg,hr,strOf]
theorem primOk_sortedS (hk:P.underlying kt=some .string)
    (h:∀ (blk mb nn:Nat) (D0:DataW Unit) (w:World),blk < w.heap.size→w.cell? ⟨blk,0,none⟩=some (.map (some mb))→w.ownsMap P kt anyR mb nn D0→Maps.size D0≤maxLen→Maps.size D0 * 16≤140737488355328→
     Calls P (L.fn f) #[.func (.func (L.fn kf)) #[] #[.pointer (some ⟨blk,0,none⟩)]] w fun e w'=> ∃ (v:Value) (ss:List (List UInt8)),e= .returned v∧ss.Perm (strKeys D0)∧
       w'.ownsRow w.heap.size kt 1 v ss.length ((ss.mergeSort leB).map Go.Proofs.encStr)∧(v= .slice none 0 0↔ss= [])∧Below w.heap.size w w'):PrimOk P Pr L f (pSortedS kf):=by
  refine .below fun κ st args vals r hL hi ha hg=> ?_
  subst hL
  unfold pSortedS at hg
  split at hg
  case h_2=> cases hg
  rename_i f' b
  split at hg
  case isFalse=> cases hg
  rename_i hf
  subst hf
  split at hg
  case h_2=> cases hg
  rename_i id hrow
  split at hg
  case h_2=> cases hg
  rename_i es hmap
  split at hg
  case h_2=> cases hg
  rename_i ks hks
  split at hg
  case isFalse=> cases hg
  rename_i hlim
  obtain rfl:=Option.some.inj hg
  obtain⟨a,rfl,h1⟩:=all2_one ha
  have h1:RepC κ (.fn f' [(b,0)]) a:=h1
  simp only[RepC]at h1
  obtain⟨l,rfl,hl⟩:=h1
  obtain⟨x,rfl,hx⟩:=all2_one hl
  obtain⟨blk,hρ,rfl⟩:=hx
  simp only at hρ
  obtain⟨b',arr,e,q1,q2,q3,q4⟩:=hi.rows b _ hrow
  obtain rfl:blk=b':=by rw[hρ]at q1;exact Option.some.inj q1
  obtain⟨y,hy,hy'⟩:=all2_one q3
  have hy':RepC κ (.map id) y:=hy'
  simp only[RepC]at hy'
  obtain⟨mb,hm,rfl⟩:=hy'
  have hcell:κ.w.cell? ⟨blk,0,none⟩=some (.map (some mb)):=by
    rw[cell_of_row κ.w blk 0 arr e (0,0) q2,← Array.getElem?_toList,hy]
    rfl
  obtain⟨mb',marr,clk,r1,r2,r3,r4⟩:=hi.maps id es hmap
  obtain rfl:mb=mb':=by rw[hm]at r1;exact Option.some.inj r1
  obtain⟨k1,k2,k3⟩:=keys_rep hk r3 hks hlim.2
  have hsz:marr.size=ks.length:=by rw[← k1,Array.length_toList]
  have hown:κ.w.ownsMap P kt anyR mb marr.size (.map ((marr.toList.map (rg P kt anyR)).foldr DataW.insert [])):=
    ⟨marr,clk,r2,⟨by rw[hsz];have:=hlim.1;simp only[maxLen];omega,r4,k2⟩,Nat.le_refl _,rfl⟩
  have hD:Maps.size (DataW.map ((marr.toList.map (rg P kt anyR)).foldr DataW.insert []))=ks.length:=by
    rw[Maps.size_eq,(sorted_perm _).length_eq,List.length_map,k1]
  have hS:(strKeys (DataW.map ((marr.toList.map (rg P kt anyR)).foldr DataW.insert []))).Perm ks:=by
    show(((marr.toList.map (rg P kt anyR)).foldr DataW.insert []).map fun p=> strOf p.1).Perm ks
    rw[← k3]
    exact(sorted_perm _).map _
  refine(h blk mb marr.size _ κ.w (hi.ρb _ _ hρ).2 hcell hown (by rw[hD];have:=hlim.1;simp only[maxLen];omega) (by rw[hD];have:=hlim.1;omega)).mono ?_
  rintro e' w' ⟨v,ss,rfl,hp,hrow',hnil,hb⟩
  refine⟨hb,v,rfl,?_⟩
  obtain⟨g1,g2⟩:=hi.grow (w':=w') ⟨hb.os,hb.tape,hb.output,hb.size,fun k hk _=> hb.block k hk⟩
  have hpk:ss.Perm ks:=hp.trans hS
  have hlen:ss.length=ks.length:=hpk.length_eq
  rw[mergeSort_of_perm hpk,hlen]at hrow'
  show RepD κ.L (κ.to w').imm _ _
  simp only[RepD]
  obtain⟨hl,⟨rfl,h0⟩ | ⟨g,cap,cur,rfl,hbg,hgc,hcap,_,hcs,htk⟩⟩:=hrow'
  · have hk0:ks= []:=List.eq_nil_of_length_eq_zero h0
    subst hk0
    exact⟨none,0,rfl,Nat.le_refl _,rfl,fun _=> rfl,.inl (by simp[srtS])⟩
  · have hne:ks≠ []:=fun e=> by
      have hs0:ss= []:=List.eq_nil_of_length_eq_zero (by rw[hlen,e];rfl)
      have:=hnil.2 hs0
      cases this
    have hpos:0 < ks.length:=List.length_pos_iff.2 hne
    refine⟨_,cap,rfl,hcap,by simp[hpos],(fun h=> by cases h),.inr ⟨g,0,rfl,RepL.of fun j c hj=> ?_⟩⟩
    rw[List.getElem?_map,Option.map_eq_some_iff]at hj
    obtain⟨s,hs,rfl⟩:=hj
    have hc:cur.toList[j]? =some (Go.Proofs.encStr s):=by
      have:(cur.toList.take (ks.length * 1))[j]? =some (Go.Proofs.encStr s):=by rw[htk,List.getElem?_map,show(ks.mergeSort leB)[j]? =some s from hs];rfl
      rw[List.getElem?_take]at this
      split at this
      · exact this
      · cases this
    refine⟨Go.Proofs.encStr s,⟨?_,fun hw=> ?_⟩,by simp[RepD,Go.Proofs.encStr]⟩
    · show w'.cell? _=_
      rw[cell_of_row w' g (0+j) cur kt (0,0) hgc,Nat.zero_add,← Array.getElem?_toList]
      exact hc
    · have:=hi.muts _ _ hw
      omega
end
end Go.Sh
namespace Go.Sh
def appE (size bytes:Nat)(z:List D)(st:St)(A:V→St→Prop):Option V→Option V→Prop
  | some vs,some vx=> appW size bytes z st vs vx A
  | _,_=> False
section
variable {Pr:Prog}{e:Env}{st:St}{A:V→St→Prop}{size bytes:Nat}{z:List D}
@[simp] theorem appE_some {v w:V}:appE size bytes z st A (some v) (some w)=appW size bytes z st v w A:=nrfl rfl
@[simp] theorem OpW_appRE {s x:Opd}:OpW Pr e st (.appR size bytes z s x) A=appE size bytes z st A (s.ev Pr e) (x.ev Pr e):=by
  refine nrfl ?_
  simp only[OpW]
  cases s.ev Pr e <;> cases x.ev Pr e <;> rfl
end
section
variable {Pr:Prog}{fw:Nat→Bool}{e:Env}{st:St}{Q:Env→St→Prop}{rd:List SOper}
@[simp] theorem semiW_nil:SemiW Pr rd [] e st Q=(Stab Pr e st rd∧Q e st):=nrfl rfl
@[simp] theorem semiW_cons {o:SOper}{r:List SOper}:SemiW Pr rd (o::r) e st Q=(Stab Pr e st rd∧OpW Pr e st o.op fun v st'=> SemiW Pr rd r (put e o.dst v) st' Q):=nrfl rfl
@[simp] theorem stab_nil:Stab Pr e st []=True:=nrfl rfl
@[simp] theorem stab_cons {s:SOper}{r:List SOper}:Stab Pr e st (s::r)=((∃ d v,s.dst=some d∧e.get d=some v∧OpW Pr e st s.op (fun v' s'=> v'=v∧s'=st))∧Stab Pr e st r):=nrfl rfl
theorem SemiW.mono {Q':Env→St→Prop}:∀ {c:List SOper} {e:Env} {st:St},SemiW Pr rd c e st Q→(∀ e st,Q e st→Q' e st)→SemiW Pr rd c e st Q'
  | [],e,st,h,hq=> ⟨h.1,hq _ _ h.2⟩
  | o::r,e,st,h,hq=> ⟨h.1,OpW.mono h.2 fun v st' h=> SemiW.mono h hq⟩
theorem DetW.mono {all:List SOper}{Q Q':Env→Prop}:∀ {l:List SOper} {e:Env},DetW Pr all l e st Q→(∀ e,Q e→Q' e)→DetW Pr all l e st Q'
  | [],e,h,hq=> hq _ h
  | o::r,e,h,hq=> by
    simp only[DetW]at h ⊢
    split at h
    · obtain⟨v,h1,h2⟩:=h
      exact⟨v,h1,DetW.mono h2 hq⟩
    · exact DetW.mono h hq
    · exact h.elim
theorem drawn3 {ops:List SOper}{B:List Nat}{K:List Fr}{Q:Out→Prop}(M:Nat)(rd ch lz:List Nat)(hs:semiOk ops B M rd ch lz=true)(h:DetW Pr ops (picks ops rd) e st fun e'=> SemiW Pr (picks ops rd) (picks ops ch) e' st fun e' st'=> opsD Pr fw ops (ops.drop M) e' st' K Q):CodeW Pr (.region ops true B) e st (kC Pr fw K Q):=by
  refine .drawn3 M rd ch lz hs ?_
  exact h.mono fun e' h=> h.mono fun e st h=> opsC_W h
end
end Go.Sh
namespace Go.Sh
open Go.RowKit
def frees (B:List Nat)(l:List Nat)(i:Nat):Bool:=l.all fun j=> !(B.getD i 0).testBit j
def ShufW (Pr:Prog)(ss:List SOper)(B:List Nat)(rd:List SOper):Nat→List Nat→Env→St→(Env→St→Prop)→Prop
  | 0,_,e,st,Q=> Stab Pr e st rd∧Q e st
  | k+1,l,e,st,Q=> Stab Pr e st rd∧∀ i∈l,frees B l i=true→∀ s,ss[i]? =some s→OpW Pr e st s.op fun v st'=> ShufW Pr ss B rd k (l.erase i) (put e s.dst v) st' Q
theorem ShufW.stab {Pr:Prog}{ss:List SOper}{B:List Nat}{rd:List SOper}{k:Nat}{l:List Nat}{e:Env}{st:St}{Q:Env→St→Prop}(h:ShufW Pr ss B rd k l e st Q):Stab Pr e st rd:=by
  cases k with
  | zero=> exact h.1
  | succ _=> exact h.1
def nodupB:List Nat→Bool
  | []=> true
  | c::r=> !r.contains c && nodupB r
theorem nodupB_spec:∀ {l:List Nat},nodupB l=true→l.Nodup
  | [],_=> List.nodup_nil
  | c::r,h=> by
    simp only[nodupB,Bool.and_eq_true,Bool.not_eq_true']at h
    exact List.nodup_cons.2 ⟨by simpa using h.1,nodupB_spec h.2⟩
def shufOk (ss:List SOper)(B:List Nat)(M:Nat)(rd ch lz:List Nat):Bool:=
  decide (M≤ss.length) && ((List.range M).all fun i=> rd.contains i || ch.contains i) && rd.all (fun z=> decide (z < M) && !ch.contains z && rdOk ss z) && ch.all (fun c=> decide (c < M) && chOk ss B c) && nodupB ch &&
    ((List.range ss.length).all fun j=> decide (j < M) || ((List.range j).all fun i=> lz.contains i || (B.getD j 0).testBit i)) && (lz.all fun z=> rd.contains z && lazyOk ss z) && noX ss
section
variable {Pr:Prog}{P:Program}{L:Link}{n:Nat}
structure PlaceF (Pr:Prog)(ops:Array Oper)(ss:List SOper)(M:Nat)(rd ch:List Nat)(κ0 κ:K)(n:Nat)(d0:List Deferred)(r:List Nat)(listed:Array Bool)(e:Env)(st:St)(a:Act):Prop where
  size:listed.size=ops.size
  closed:Closed ops listed
  todo:∀ i∈r,listed.getD i false=false
  done:∀ i∈ch,i∉r→listed.getD i false=true
  nodup:r.Nodup
  sub:∀ i∈r,i∈ch
  behind:∀ i,M≤i→listed.getD i false=false
  le:κ0.le κ
  inv:Inv Pr κ st
  env:∀ s v,e.get s=some v→(∃ z∈rd,listed.getD z false=false∧(ss[z]?).bind (·.dst)=some s)∨(s < a.tmps.size∧Rep κ v (a.tmps.getD s undef))
  tmps:a.tmps.size=n
  defs:a.defers=d0
theorem shuf_sound (ht:Tie P Pr L){ops:Array Oper}{ss:List SOper}{B:List Nat}{M:Nat}{rd ch lz:List Nat}(hok:okOpers P L n ops.toList ss=true)(hB:okAnc B ops.toList 0=true)(hN:okNames ss B=true)(hsemi:shufOk ss B M rd ch lz=true)
    {κ0:K} (hL:κ0.L=L) {d0:List Deferred} {st0:St} {Q':Env→St→Prop} {R:Exit→Act→World→Prop}
    (hfin:∀ κ' a' e' st',Q' e' st'→Fl st0 st'→κ0.le κ'→Inv Pr κ' st'→ERel κ' e' a'→a'.tmps.size=n→a'.defers=d0→R .normal a' κ'.w):
    ∀ (fuel:Nat) (r:List Nat) (listed:Array Bool) (e:Env) (st:St) (a:Act) (κ:K),unl listed ops.size=fuel→PlaceF Pr ops ss M rd ch κ0 κ n d0 r listed e st a→ShufW Pr ss B (picks ss rd) r.length r e st (fun e' st'=> OpsW Pr ss (ss.drop M) e' st' Q')→Fl st0 st→wpAny P .any ops R fuel listed a κ.w:=by
  obtain⟨hlen,hops⟩:=okOpers_get hok
  have hlen':ops.size=ss.length:=by simpa using hlen
  simp only[shufOk,Bool.and_eq_true,decide_eq_true_eq]at hsemi
  obtain⟨⟨⟨⟨⟨⟨⟨hM,hall⟩,hrd⟩,hch⟩,hcn⟩,hsu⟩,hlzz⟩,hx⟩:=hsemi
  have hlz:lz.all (fun z=> lazyOk ss z)=true:=List.all_eq_true.2 fun z hz=> by
    have:=List.all_eq_true.1 hlzz z hz
    simp only[Bool.and_eq_true]at this
    exact this.2
  have hlr:∀ z∈lz,z∈rd:=fun z hz=> by
    have:=List.all_eq_true.1 hlzz z hz
    simp only[Bool.and_eq_true]at this
    simpa using this.1
  have hcov:∀ i,i < M→i∈rd∨i∈ch:=fun i hi=> by
    have:=List.all_eq_true.1 hall i (List.mem_range.2 hi)
    simpa using this
  have hrd1:∀ z∈rd,z < M∧z∉ch∧rdOk ss z=true:=fun z hz=> by
    have:=List.all_eq_true.1 hrd z hz
    simpa[and_assoc]using this
  have hch1:∀ c∈ch,c < M∧chOk ss B c=true:=fun c hc=> by
    have:=List.all_eq_true.1 hch c hc
    simpa using this
  have hsuf:∀ j,M≤j→j < ss.length→∀ i,i < j→i∈lz∨(B.getD j 0).testBit i=true:=fun j hj hjl i hij=> by
    have:=List.all_eq_true.1 hsu j (List.mem_range.2 hjl)
    simp only[Bool.or_eq_true,decide_eq_true_eq]at this
    rcases this with h | h
    · omega
    · simpa using List.all_eq_true.1 h i (List.mem_range.2 hij)
  have hrs:∀ z∈rd,∃ d op,ss[z]? =some ⟨some d,none,op⟩∧d∉op.tms∧∀ i s,ss[i]? =some s→i≠z→s.dst≠some d∧(z < i∨d∉names ss s):=by
    intro z hz
    have h:=(hrd1 z hz).2.2
    unfold rdOk at h
    split at h
    case h_2=> cases h
    rename_i d op hs
    simp only[Bool.and_eq_true]at h
    refine⟨d,op,hs,by simpa using h.1,fun i s hi hne=> ?_⟩
    have:=List.all_eq_true.1 h.2 i (List.mem_range.2 (List.getElem?_eq_some_iff.1 hi).1)
    rw[hi]at this
    simpa[hne]using this
  have hmem:∀ {l:List Nat} {i:Nat} {s:SOper},i∈l→ss[i]? =some s→s∈picks ss l:=fun hi hs=> List.mem_filterMap.2 ⟨_,hi,hs⟩
  have fin:∀ (fuel:Nat) (r:List Nat) (listed:Array Bool) (e:Env) (st:St) (a:Act) (κ:K),unl listed ops.size=fuel→PlaceF Pr ops ss M rd ch κ0 κ n d0 r listed e st a→ShufW Pr ss B (picks ss rd) r.length r e st (fun e' st'=> OpsW Pr ss (ss.drop M) e' st' Q')→Fl st0 st→(∀ i,i < M→i∉lz→listed.getD i false=true)→wpAny P .any ops R fuel listed a κ.w:=by
    intro fuel r listed e st a κ hu hp hq hf hal
    have hr:r= []:=by
      cases r with
      | nil=> rfl
      | cons c r=>
        have h1:=hp.todo c List.mem_cons_self
        rw[hal c (hch1 c (hp.sub c List.mem_cons_self)).1 (fun h=> (hrd1 c (hlr c h)).2.1 (hp.sub c List.mem_cons_self))]at h1
        cases h1
    subst hr
    have hq2:OpsW Pr ss (ss.drop M) e st Q':=hq.2
    refine tail_sound ht (lz:=lz) hok hB hN hsuf hlz (fun z hz=> (hrd1 z (hlr z hz)).1) hL hfin fuel M listed e st a κ hu (Nat.le_refl _) (by omega) ?_ hq2 hf
    refine⟨hp.size,hp.closed,hal,hp.behind,hp.le,hp.inv,fun s v hv=> ?_,hp.tmps,hp.defs,fun z hz=> ?_⟩
    rcases hp.env s v hv with⟨z,hz1,hz2,_⟩ | h
    · by_cases hzl:z∈lz
      · exact .inl ⟨z,hzl,hz2,‹_›⟩
      · rw[hal z (hrd1 z hz1).1 hzl]at hz2
        cases hz2
    · exact .inr h
    · obtain⟨d,op,hs,_⟩:=hrs z (hlr z hz)
      have hzz:=List.all_eq_true.1 hlz z hz
      unfold lazyOk at hzz
      rw[hs]at hzz
      split at hzz
      case h_2=> cases hzz
      rename_i d2 r2 heq
      simp only[Option.some.injEq,SOper.mk.injEq,true_and]at heq
      obtain⟨rfl,rfl⟩:=heq
      obtain⟨d',v,e1,e2,h2⟩:=hq.stab.mem _ (hmem (hlr z hz) hs)
      simp only[Option.some.injEq]at e1
      subst e1
      have h2:OpW Pr e st (.mov (.t r2)) (fun v' s'=> v'=v∧s'=st):=h2
      unfold OpW at h2
      simp only[opS]at h2
      refine⟨d,r2,v,hs,?_,e2⟩
      split at h2
      · rename_i v' s' hop
        obtain⟨rfl,_⟩:=h2
        cases hg:Opd.ev Pr e (.t r2) with
        | none=> rw[hg]at hop;cases hop
        | some w=>
          rw[hg]at hop
          simp only[bind1,pureR,Option.some.injEq,Prod.mk.injEq]at hop
          rw[← hop.1]
          exact hg
      · exact h2.elim
  intro fuel
  induction fuel with
  | zero=>
    intro r listed e st a κ hu hp hq hf
    exact fin 0 r listed e st a κ hu hp hq hf fun i hi _=> unl_zero hu i (by omega)
  | succ fuel ih=>
    intro r listed e st a κ hu hp hq hf
    by_cases hal:∀ i,i < M→i∉lz→listed.getD i false=true
    · exact fin _ r listed e st a κ hu hp hq hf hal
    obtain⟨i0,hi0⟩:=Classical.not_forall.1 hal
    have hi0M:i0 < M:=by
      rcases Nat.lt_or_ge i0 M with h | h
      · exact h
      · exact absurd (fun h'=> absurd h' (by omega)) hi0
    have hi0l:i0∉lz:=fun h=> hi0 fun _ h'=> absurd h h'
    have hi0u:listed.getD i0 false=false:=by
      cases hq:listed.getD i0 false with
      | true=> exact absurd (fun _ _=> hq) hi0
      | false=> rfl
    refine⟨fun hr=> ?_,fun i hri=> ?_⟩
    · have:=ready_none hB hp.size hr i0 (by omega)
      rw[hi0u]at this
      cases this
    obtain⟨o,ho,hil,hiun,hneeds,hbefore,hafter⟩:=ready_facts hB hp.size hp.closed hri
    have hun:unl (listed.setIfInBounds i true) ops.size=fuel:=by
      have:=unl_set (listed:=listed) hiun hil (by have:=hp.size;omega)
      omega
    have hiM:i < M:=by
      rcases Nat.lt_or_ge i M with h | h
      · exact h
      · rw[hbefore i0 ((hsuf i h (by omega) i0 (by omega)).resolve_left hi0l)]at hi0u
        cases hi0u
    obtain⟨s,hs⟩:∃ s,ss[i]? =some s:=⟨ss[i]'(by omega),List.getElem?_eq_getElem (by omega)⟩
    obtain⟨q1,q2,q3,q4⟩:=okOper_spec (hops i o s (by simpa using ho) hs)
    have hLκ:κ.L=L:=hp.le.L.trans hL
    have hord:=hord_of hN
    have hEm:ERel κ (mask (s.op.tms) e) a:=by
      intro t v hv
      obtain⟨h1,h2⟩:=mask_get hv
      rcases hp.env t v h2 with⟨z,hz1,hz2,hz3⟩ | h
      · obtain⟨d,op,hsz,hown,hoth⟩:=hrs z hz1
        rw[hsz]at hz3
        simp only[Option.bind_some,Option.some.injEq]at hz3
        subst hz3
        have hnm:d∈names ss s:=by unfold names;simp[h1]
        by_cases hiz:i=z
        · subst hiz
          rw[hs]at hsz
          obtain rfl:=Option.some.inj hsz
          exact absurd h1 hown
        · have hzi:z < i:=((hoth i s hs hiz).2).resolve_right (fun h=> h hnm)
          have:=hord z i _ s d hsz hs (fun h=> hiz h.symm) rfl hnm
          unfold ordered at this
          rw[Nat.max_eq_right (by omega),Nat.min_eq_left (by omega)]at this
          rw[hbefore z this]at hz2
          cases hz2
      · exact h
    have hsame:Same s.op.tms e (mask s.op.tms e):=fun t ht'=> (mask_mem ht').symm
    have hnc:∀ z∈rd,z∉ch:=fun z hz=> (hrd1 z hz).2.1
    rcases hcov i hiM with hir | hic
    · obtain⟨d,op,hs',hown,hoth⟩:=hrs i hir
      have hse:s=⟨some d,none,op⟩:=Option.some.inj (hs.symm.trans hs')
      obtain⟨d',v,hd1,hd2,hop⟩:=hq.stab.mem s (hmem hir hs)
      have hd:d'=d:=by rw[hse]at hd1;exact(Option.some.inj hd1).symm
      subst hd
      have hg:s.guard=none:=by rw[hse]
      unfold wpOp
      rw[ho]
      simp only
      have hwant:=wanted_sound (κ:=κ) (b:=true) (hLκ ▸ hok) hEm q2 (by rw[hg];rfl)
      rw[if_pos hwant]
      refine .inl (opW_sound ht hLκ hp.inv hEm q4 (OpW_same hsame hop) ?_)
      rintro κ' u x st' k1 k2 k3 k4 ⟨rfl,rfl⟩
      refine ih r _ e _ _ κ' hun ⟨by simpa using hp.size,closed_set hp.closed hp.size ho hneeds,fun j hj=> ?_,fun j hj hjr=> ?_,hp.nodup,hp.sub,fun j hj=> ?_,hp.le.trans k1,k2,fun t w hw=> ?_,by rw[put_size];exact hp.tmps,by rw[put_defs];exact hp.defs⟩ hq hf
      · rw[list_set hp.size hil,if_neg (fun e=> hnc i hir (by rw[← e];exact hp.sub j hj))]
        exact hp.todo j hj
      · rw[list_set hp.size hil]
        split
        · rfl
        · exact hp.done j hj hjr
      · rw[list_set hp.size hil,if_neg (by omega)]
        exact hp.behind j hj
      · by_cases htd:t=d'
        · subst htd
          right
          rw[hd2]at hw
          obtain rfl:=Option.some.inj hw
          have hlt:t < a.tmps.size:=by rw[hp.tmps];exact q3 t hd1
          rw[put_size,q1,hd1]
          exact⟨hlt,by rw[act_put_eq hlt];exact k3⟩
        · rcases hp.env t w hw with⟨z,hz1,hz2,hz3⟩ | ⟨h1,h2⟩
          · left
            refine⟨z,hz1,?_,hz3⟩
            rw[list_set hp.size hil,if_neg]
            · exact hz2
            · rintro rfl
              rw[hs]at hz3
              simp only[Option.bind_some]at hz3
              rw[hd1]at hz3
              exact htd (Option.some.inj hz3).symm
          · right
            rw[put_size,q1]
            exact⟨h1,by rw[act_put_ne (by rw[hd1];exact fun h=> htd (Option.some.inj h).symm)];exact Rep.mono k1 h2⟩
    · have hir:i∈r:=by
        by_cases h:i∈r
        · exact h
        · rw[hp.done i hic h]at hiun
          cases hiun
      have hfr:frees B r i=true:=by
        refine List.all_eq_true.2 fun j hj=> ?_
        cases hb:(B.getD i 0).testBit j with
        | false=> rfl
        | true=>
          have h1:=hbefore j hb
          rw[hp.todo j hj]at h1
          cases h1
      obtain⟨k,hk⟩:∃ k,r.length=k+1:=⟨r.length - 1,by have:=List.length_pos_of_mem hir;omega⟩
      have hg:s.guard=none:=by
        have h:=(hch1 i hic).2
        unfold chOk at h
        rw[hs]at h
        obtain⟨sd,sg,sp⟩:=s
        cases sg with
        | none=> rfl
        | some _=> simp at h
      rw[hk]at hq
      have hop:=hq.2 i hir hfr s hs
      unfold wpOp
      rw[ho]
      simp only
      have hwant:=wanted_sound (κ:=κ) (b:=true) (hLκ ▸ hok) hEm q2 (by rw[hg];rfl)
      rw[if_pos hwant]
      refine .inl (opW_sound ht hLκ hp.inv hEm q4 (OpW_same hsame hop) ?_)
      intro κ' u x st' k1 k2 k3 k4 k5
      have hlen:(r.erase i).length=k:=by rw[List.length_erase_of_mem hir];omega
      refine ih (r.erase i) _ _ st' _ κ' hun ⟨by simpa using hp.size,closed_set hp.closed hp.size ho hneeds,fun j hj=> ?_,fun j hj hjr=> ?_,hp.nodup.erase i,fun j hj=> hp.sub j (List.mem_of_mem_erase hj),fun j hj=> ?_,hp.le.trans k1,k2,fun t w hw=> ?_,by rw[put_size];exact hp.tmps,by rw[put_defs];exact hp.defs⟩ (by rw[hlen];exact k5) (hf.trans k4)
      · have hne:j≠i:=fun h=> (hp.nodup.not_mem_erase (a:=i)) (h ▸ hj)
        rw[list_set hp.size hil,if_neg hne]
        exact hp.todo j (List.mem_of_mem_erase hj)
      · rw[list_set hp.size hil]
        split
        · rfl
        · rename_i hne
          exact hp.done j hj fun h=> hjr ((List.mem_erase_of_ne hne).2 h)
      · rw[list_set hp.size hil,if_neg (by omega)]
        exact hp.behind j hj
      · by_cases htd:s.dst=some t
        · right
          rw[htd]at hw
          simp only[put,Env.get,if_true,Option.some.injEq]at hw
          subst hw
          have hlt:t < a.tmps.size:=by rw[hp.tmps];exact q3 t htd
          rw[put_size,q1,htd]
          exact⟨hlt,by rw[act_put_eq hlt];exact k3⟩
        · rw[put_get_ne htd]at hw
          rcases hp.env t w hw with⟨z,hz1,hz2,hz3⟩ | ⟨h1,h2⟩
          · left
            refine⟨z,hz1,?_,hz3⟩
            rw[list_set hp.size hil,if_neg]
            · exact hz2
            · rintro rfl
              exact hnc z hz1 hic
          · right
            rw[put_size,q1]
            exact⟨h1,by rw[act_put_ne htd];exact Rep.mono k1 h2⟩
end
theorem CodeW.drawn4 {Pr:Prog}{ops:List SOper}{B:List Nat}{e:Env}{st:St}{Q:Out→Prop}(M:Nat)(rd ch lz:List Nat)(hs:shufOk ops B M rd ch lz=true)
    (h:DetW Pr ops (picks ops rd) e st fun e'=> ShufW Pr ops B (picks ops rd) ch.length ch e' st fun e' st'=> OpsW Pr ops (ops.drop M) e' st' fun e'' st''=> Q (.normal,e'',st'')):CodeW Pr (.region ops true B) e st Q:=by
  intro P L ht n code hok κ a R hL hi hE hn hR
  simp only[okCode]at hok
  split at hok
  case h_2=> cases hok
  rename_i id aops d'
  simp only[Bool.and_eq_true,beq_iff_eq,Bool.or_eq_true,Bool.not_eq_true']at hok
  obtain⟨⟨rfl,h1⟩,h2⟩:=hok
  have h2:=h2.resolve_left (by simp)
  simp only[okDraw2,Bool.and_eq_true]at h2
  obtain⟨⟨hB,hN⟩,_⟩:=h2
  refine wp_region_any ht.m ?_
  obtain⟨g1,g2⟩:=hi.grow (w':={κ.w with drawn:=κ.w.drawn+1}) (grownBy_heap rfl rfl rfl rfl)
  obtain⟨hlen,_⟩:=okOpers_get h1
  obtain⟨e1,h3,h4⟩:=detW_told h
  have hrep:∀ j:Nat,(Array.replicate aops.size false).getD j false=false:=fun j=> by
    rcases Nat.lt_or_ge j aops.size with h | h <;> simp[h]
  have hunl:unl (Array.replicate aops.size false) aops.size=aops.size:=by
    have:∀ k,unl (Array.replicate aops.size false) k=k:=by
      intro k
      induction k with
      | zero=> rfl
      | succ k ihk=> unfold unl;rw[ihk,hrep k];rfl
    exact this _
  have hx:noX ops=true:=by
    have:=hs
    simp only[shufOk,Bool.and_eq_true]at this
    exact this.2
  have hnd:ch.Nodup:=by
    have:=hs
    simp only[shufOk,Bool.and_eq_true]at this
    exact nodupB_spec this.1.1.1.2
  refine shuf_sound ht (n:=n) h1 hB (okNames_of hN hx) hs (κ0:=κ.to {κ.w with drawn:=κ.w.drawn+1}) hL (st0:=st) (d0:=a.defers) (Q':=fun e'' st''=> Q (.normal,e'',st'')) ?_ aops.size ch (Array.replicate aops.size false) e1 st a (κ.to {κ.w with drawn:=κ.w.drawn+1}) hunl ?_ h3 (Fl.refl _)
  · intro κ2 a2 e2 st2 q1 q2 q3 q4 q5 q6 q7
    exact hR (.normal,e2,st2) κ2 a2 q1 q2 (g1.trans q3) q4 q5 q6 q7
  · refine⟨by simp,?_,fun i _=> hrep i,(fun i hi hn=> absurd hi hn),hnd,fun i hi=> hi,fun i _=> hrep i,K.le.refl _,g2,fun s v hv=> ?_,hn,rfl⟩
    · intro j o _ hj
      rw[hrep]at hj
      cases hj
    · rcases h4 s v hv with⟨o,ho,hd⟩ | h5
      · left
        obtain⟨z,hz1,hz2⟩:=List.mem_filterMap.1 ho
        exact⟨z,hz1,hrep z,by rw[hz2];exact hd⟩
      · exact .inr ((hE.mono g1) s v h5)
/-! ### How such an order is told -/
section
variable {Pr:Prog}{ss:List SOper}{B:List Nat}{rd:List SOper}
theorem ShufW.mono {Q Q':Env→St→Prop}(hq:∀ e st,Q e st→Q' e st):∀ {k:Nat} {l:List Nat} {e:Env} {st:St},ShufW Pr ss B rd k l e st Q→ShufW Pr ss B rd k l e st Q'
  | 0,l,e,st,h=> ⟨h.1,hq _ _ h.2⟩
  | k+1,l,e,st,h=> ⟨h.1,fun i hi hf s hs=> OpW.mono (h.2 i hi hf s hs) fun v st' h=> ShufW.mono hq h⟩
theorem ShufW.cut (C:List Nat){Q:Env→St→Prop}:∀ {k:Nat} {A:List Nat} {e:Env} {st:St},A.length=k→(∀ c∈C,∀ a∈A,(B.getD c 0).testBit a=true)→ShufW Pr ss B rd k A e st (fun e st=> ShufW Pr ss B rd C.length C e st Q)→ShufW Pr ss B rd (k+C.length) (A++C) e st Q
  | 0,A,e,st,hA,hC,h=> by
    obtain rfl:=List.length_eq_zero_iff.1 hA
    simpa using h.2
  | k+1,A,e,st,hA,hC,h=> by
    rw[Nat.add_right_comm]
    refine⟨h.1,fun i hi hf s hs=> ?_⟩
    simp only[frees,List.all_append,Bool.and_eq_true]at hf
    have hiA:i∈A:=by
      rcases List.mem_append.1 hi with h | h
      · exact h
      · obtain⟨a,ha⟩:∃ a,a∈A:=by
          cases A with
          | nil=> cases hA
          | cons a _=> exact⟨a,List.mem_cons_self⟩
        have h1:=List.all_eq_true.1 hf.1 a ha
        rw[hC i h a ha]at h1
        cases h1
    refine OpW.mono (h.2 i hiA hf.1 s hs) fun v st' h'=> ?_
    rw[List.erase_append_left _ hiA]
    exact ShufW.cut C (by rw[List.length_erase_of_mem hiA];omega) (fun c hc a ha=> hC c hc a (List.mem_of_mem_erase ha)) h'
theorem ShufW.chain {Q:Env→St→Prop}:∀ {r:List Nat} {e:Env} {st:St},Go.Sh.chain B r=true→(r.all fun c=> (ss[c]?).isSome)=true→SemiW Pr rd (picks ss r) e st Q→ShufW Pr ss B rd r.length r e st Q
  | [],e,st,_,_,h=> h
  | c::r,e,st,hc,hs,h=> by
    simp only[List.all_cons,Bool.and_eq_true]at hs
    obtain⟨s,hsc⟩:=Option.isSome_iff_exists.1 hs.1
    have hpk:picks ss (c::r)=s::picks ss r:=by
      unfold picks
      rw[List.filterMap_cons,hsc]
    rw[hpk]at h
    simp only[Go.Sh.chain,Bool.and_eq_true]at hc
    refine⟨h.1,fun i hi hf s' hs'=> ?_⟩
    have hic:i=c:=by
      rcases List.mem_cons.1 hi with h | h
      · exact h
      · have h1:=List.all_eq_true.1 hc.1 i h
        simp only[Bool.and_eq_true]at h1
        simp only[frees,List.all_cons,Bool.and_eq_true,Bool.not_eq_true']at hf
        rw[h1.2]at hf
        cases hf.1
    subst hic
    rw[hsc]at hs'
    obtain rfl:=Option.some.inj hs'
    refine OpW.mono h.2 fun v st' h'=> ?_
    rw[List.erase_cons_head]
    exact ShufW.chain hc.2 hs.2 h'
def FloatW (Pr:Prog)(rd:List SOper)(f:SOper):List SOper→Env→St→(Env→St→Prop)→Prop
  | [],e,st,Q=> Stab Pr e st rd∧OpW Pr e st f.op fun v st'=> Stab Pr (put e f.dst v) st' rd∧Q (put e f.dst v) st'
  | o::r,e,st,Q=> Stab Pr e st rd∧(OpW Pr e st f.op fun v st'=> SemiW Pr rd (o::r) (put e f.dst v) st' Q)∧OpW Pr e st o.op fun v st'=> FloatW Pr rd f r (put e o.dst v) st' Q
theorem FloatW.shuf {Q:Env→St→Prop}{x:Nat}{f:SOper}(hx:ss[x]? =some f):∀ {r:List Nat} {e:Env} {st:St},Go.Sh.chain B r=true→(r.all fun c=> (ss[c]?).isSome)=true→nodupB (x::r)=true→FloatW Pr rd f (picks ss r) e st Q→ShufW Pr ss B rd (r.length+1) (x::r) e st Q
  | [],e,st,_,_,_,h=> ⟨h.1,fun i hi hf s hs=> by
      obtain rfl:=List.mem_singleton.1 hi
      rw[hx]at hs
      obtain rfl:=Option.some.inj hs
      refine OpW.mono h.2 fun v st' h'=> ?_
      rw[List.erase_cons_head]
      exact h'⟩
  | c::r,e,st,hc,hs,hn,h=> by
    have hs0:=hs
    have hc0:=hc
    have hn0:=hn
    simp only[List.all_cons,Bool.and_eq_true]at hs
    obtain⟨s,hsc⟩:=Option.isSome_iff_exists.1 hs.1
    have hpk:picks ss (c::r)=s::picks ss r:=by
      unfold picks
      rw[List.filterMap_cons,hsc]
    rw[hpk]at h
    simp only[Go.Sh.chain,Bool.and_eq_true]at hc
    simp only[nodupB,Bool.and_eq_true,Bool.not_eq_true',List.contains_eq_mem,decide_eq_false_iff_not,List.mem_cons,not_or]at hn
    refine⟨h.1,fun i hi hf s' hs'=> ?_⟩
    by_cases hix:i=x
    · subst hix
      rw[hx]at hs'
      obtain rfl:=Option.some.inj hs'
      refine OpW.mono h.2.1 fun v st' h'=> ?_
      rw[List.erase_cons_head]
      rw[← hpk]at h'
      exact ShufW.chain hc0 hs0 h'
    · have hic:i=c:=by
        rcases List.mem_cons.1 hi with h | h
        · exact absurd h hix
        · rcases List.mem_cons.1 h with h | h
          · exact h
          · have h1:=List.all_eq_true.1 hc.1 i h
            simp only[Bool.and_eq_true]at h1
            simp only[frees,List.all_cons,Bool.and_eq_true,Bool.not_eq_true']at hf
            rw[h1.2]at hf
            cases hf.2.1
      subst hic
      rw[hsc]at hs'
      obtain rfl:=Option.some.inj hs'
      refine OpW.mono h.2.2 fun v st' h'=> ?_
      rw[List.erase_cons_tail (by simpa using fun e=> hix e.symm),List.erase_cons_head]
      refine FloatW.shuf hx hc.2 hs.2 ?_ h'
      simp only[nodupB,Bool.and_eq_true,Bool.not_eq_true',List.contains_eq_mem,decide_eq_false_iff_not]
      exact⟨hn.1.2,hn.2.2⟩
end
section
variable {Pr:Prog}{fw:Nat→Bool}{e:Env}{st:St}{Q:Env→St→Prop}{rd:List SOper}{f:SOper}
@[simp] theorem floatW_nil:FloatW Pr rd f [] e st Q=(Stab Pr e st rd∧OpW Pr e st f.op fun v st'=> Stab Pr (put e f.dst v) st' rd∧Q (put e f.dst v) st'):=nrfl rfl
@[simp] theorem floatW_cons {o:SOper}{r:List SOper}:FloatW Pr rd f (o::r) e st Q=(Stab Pr e st rd∧(OpW Pr e st f.op fun v st'=> SemiW Pr rd (o::r) (put e f.dst v) st' Q)∧OpW Pr e st o.op fun v st'=> FloatW Pr rd f r (put e o.dst v) st' Q):=nrfl rfl
theorem drawn5 {ops:List SOper}{B:List Nat}{K:List Fr}{Q:Out→Prop}(M:Nat)(rd:List Nat)(x:Nat)(c1 c2 lz:List Nat)(f:SOper)(Mid:Env→St→Prop)
    (hs:(shufOk ops B M rd ((x::c1)++c2) lz && chain B c1 && chain B c2 && (c1.all fun c=> (ops[c]?).isSome) && (c2.all fun c=> (ops[c]?).isSome) && nodupB (x::c1) && (c2.all fun c=> (x::c1).all fun a=> (B.getD c 0).testBit a))=true) (hf:ops[x]? =some f)
    (h:DetW Pr ops (picks ops rd) e st fun e'=> FloatW Pr (picks ops rd) f (picks ops c1) e' st Mid)
    (h2:∀ e' st',Mid e' st'→SemiW Pr (picks ops rd) (picks ops c2) e' st' fun e' st'=> opsD Pr fw ops (ops.drop M) e' st' K Q):CodeW Pr (.region ops true B) e st (kC Pr fw K Q):=by
  simp only[Bool.and_eq_true]at hs
  obtain⟨⟨⟨⟨⟨⟨s1,s2⟩,s3⟩,s4⟩,s5⟩,s6⟩,s7⟩:=hs
  refine .drawn4 M rd ((x::c1)++c2) lz s1 ?_
  refine h.mono fun e' h=> ?_
  rw[List.length_append]
  refine ShufW.cut c2 rfl (fun c hc a ha=> List.all_eq_true.1 (List.all_eq_true.1 s7 c hc) a ha) ?_
  refine ShufW.mono (fun e' st' hm=> ?_) (FloatW.shuf hf s2 s4 s6 h)
  exact ShufW.chain s3 s5 ((h2 e' st' hm).mono fun e st h=> opsC_W h)
end
end Go.Sh
namespace Go.Sh
open Go.RowKit
def St.pushL (st:St)(l:List (List V)):St:={st with heap:=st.heap++l.map fun cs=> some (.row cs)}
theorem pushL_nil (st:St):st.pushL []=st:=by simp[St.pushL]
theorem pushL_cons (st:St)(c:List V)(l:List (List V)):st.pushL (c::l)=(st.push (.row c)).pushL l:=by simp[St.pushL,St.push]
theorem row_pushL {st:St}{l:List (List V)}{id:Nat}:(st.pushL l).row id=if id < st.heap.length then st.row id else l[id - st.heap.length]? :=by
  unfold St.row St.pushL
  simp only[List.getElem?_append]
  by_cases h:id < st.heap.length
  · rw[if_pos h,if_pos h]
  · rw[if_neg h,if_neg h,List.getElem?_map]
    cases l[id - st.heap.length]? <;> rfl
theorem mapOf_pushL {st:St}{l:List (List V)}{id:Nat}:(st.pushL l).mapOf id=st.mapOf id:=by
  unfold St.mapOf St.pushL
  simp only[List.getElem?_append]
  by_cases h:id < st.heap.length
  · rw[if_pos h]
  · rw[if_neg h,List.getElem?_map,List.getElem?_eq_none (l:=st.heap) (by omega)]
    cases l[id - st.heap.length]? <;> rfl
theorem Fl.pushL (st:St):∀ l,Fl st (st.pushL l)
  | []=> by rw[pushL_nil];exact Fl.refl _
  | c::l=> by rw[pushL_cons];exact(Fl.push _ _).trans (Fl.pushL _ l)
section
variable {Pr:Prog}{κ κ':K}{st s:St}
theorem Inv.adoptL (hi:Inv Pr κ st)(hL:κ'.L=κ.L)(hw0:κ'.w0=κ.w)(hi':Inv Pr κ' s)(gs:List (Nat×List V))(hnd:∀ (i j:Nat) x y,gs[i]? =some x→gs[j]? =some y→x.1=y.1→i=j)
    (hg:∀ x∈gs,κ.w.heap.size≤x.1∧∃ arr e,κ'.w.heap[x.1]? =some (.cells arr e (0,0))∧∀ κ2:K,κ2.L=κ.L→All2 (RepC κ2) x.2 arr.toList):
    ∃ κ2:K,κ2.w=κ'.w∧κ.le κ2∧Inv Pr κ2 (st.pushL (gs.map (·.2)))∧(∀ (i:Nat) x,gs[i]? =some x→κ2.ρ[st.heap.length+i]? =some x.1)∧(gs= []→∀ b o,κ2.wr b o→b < κ.w.heap.size):=by
  have hb:Below κ.w.heap.size κ.w κ'.w:=by
    have:=hi'.below
    rw[hw0]at this
    exact this
  have hgr:κ.w.grownBy κ'.w none:=⟨hb.os,hb.tape,hb.output,hb.size,fun k hk _=> hb.block k hk⟩
  have hold:∀ k,k < κ.w.heap.size→κ'.w.heap[k]? =κ.w.heap[k]? :=fun k h=> hb.block k h
  have hglt:∀ x∈gs,x.1 < κ'.w.heap.size:=fun x hx=> by
    obtain⟨_,arr,e,hc,_⟩:=hg x hx
    exact(Array.getElem?_eq_some_iff.1 hc).1
  let κ2:K:={κ with w:=κ'.w,wr:=fun b o=> κ.wr b o∨∃ x∈gs,b=x.1,ρ:=κ.ρ++gs.map (·.1)}
  have hle:κ.le κ2:=by
    refine⟨rfl,rfl,fun b o x h=> ?_,fun i b h=> ?_,fun _ tok h=> ⟨tok,h,rfl,Nat.le_refl _,fun _=> rfl⟩,fun _ _ _ h=> .inl h⟩
    · have hlt:=lt_of_cell h.1
      exact⟨(cell_block (hold b hlt)).trans h.1,fun hw=> hw.elim h.2 (fun⟨x,hx,e⟩=> by have:=(hg x hx).1;omega)⟩
    · show(κ.ρ++gs.map (·.1))[i]? =_
      rw[List.getElem?_append_left (List.getElem?_eq_some_iff.1 h).1]
      exact h
  have get2:∀ {i b:Nat},κ2.ρ[i]? =some b→(i < κ.ρ.length∧κ.ρ[i]? =some b)∨(∃ x,gs[i - κ.ρ.length]? =some x∧κ.ρ.length≤i∧b=x.1):=by
    intro i b h
    have h:(κ.ρ++gs.map (·.1))[i]? =some b:=h
    rw[List.getElem?_append]at h
    split at h
    · exact .inl ⟨by assumption,h⟩
    · rename_i hge
      rw[List.getElem?_map,Option.map_eq_some_iff]at h
      obtain⟨x,hx,rfl⟩:=h
      exact .inr ⟨x,hx,by omega,rfl⟩
  have hlast:∀ (i:Nat) x,gs[i]? =some x→κ2.ρ[st.heap.length+i]? =some x.1:=by
    intro i x hx
    show(κ.ρ++gs.map (·.1))[_]? =_
    rw[← hi.len,List.getElem?_append_right (by omega),Nat.add_sub_cancel_left,List.getElem?_map,hx]
    rfl
  refine⟨κ2,rfl,hle,⟨hi.below.grown hgr hi.below.size (by simp),?_,hi.tips,?_,?_,?_,?_,?_,hi.tdis,?_,fun n c h=> RepL.mono hle.imm _ _ _ (hi.globs n c h),hi.wok⟩,hlast,?_⟩
  · show(κ.ρ++gs.map (·.1)).length=(st.heap++_).length
    simp[hi.len]
  · intro i j c h1 h2
    rcases get2 h1 with⟨_,h1⟩ | ⟨x,h1,h1'',h1'⟩ <;> rcases get2 h2 with⟨_,h2⟩ | ⟨y,h2,h2'',h2'⟩
    · exact hi.nd i j c h1 h2
    · have h3:=(hi.ρb _ _ h1).2
      have:=(hg y (List.mem_of_getElem? h2)).1
      omega
    · have h3:=(hi.ρb _ _ h2).2
      have:=(hg x (List.mem_of_getElem? h1)).1
      omega
    · have:=hnd _ _ x y h1 h2 (by rw[← h1',← h2'])
      omega
  · intro i c h
    show _≤_∧_ < κ'.w.heap.size
    have h0:=hi.below.size
    rcases get2 h with⟨_,h⟩ | ⟨x,h,_,h'⟩
    · have:=hi.ρb _ _ h;exact⟨this.1,Nat.lt_of_lt_of_le this.2 hb.size⟩
    · subst h'
      have hm:x∈gs:=List.mem_of_getElem? (i:=i - κ.ρ.length) (by assumption)
      exact⟨Nat.le_trans h0 (hg x hm).1,hglt x hm⟩
  · intro id cs' h
    rw[row_pushL]at h
    split at h
    · obtain⟨c,arr',e',h1,h2,h3,h4⟩:=hi.rows id cs' h
      exact⟨c,arr',e',hle.ρ _ _ h1,(hold c (hi.ρb _ _ h1).2).trans h2,h3.mono fun _ _=> RepC.mono hle,fun o=> .inl (h4 o)⟩
    · rename_i hge
      rw[List.getElem?_map,Option.map_eq_some_iff]at h
      obtain⟨x,hx,rfl⟩:=h
      have hm:=List.mem_of_getElem? hx
      obtain⟨_,arr,e,hc,ha⟩:=hg x hm
      refine⟨x.1,arr,e,?_,hc,ha κ2 rfl,fun _=> .inr ⟨x,hm,rfl⟩⟩
      have:=hlast _ x hx
      rwa [show st.heap.length+(id - st.heap.length)=id by omega]at this
  · intro id es h
    rw[mapOf_pushL]at h
    obtain⟨c,arr',clk,h1,h2,h3,hst⟩:=hi.maps id es h
    exact⟨c,arr',clk,hle.ρ _ _ h1,(hold c (hi.ρb _ _ h1).2).trans h2,h3.mono fun _ _=> RepE.mono hle,hst⟩
  · intro t tok h
    obtain⟨⟨xs,h1⟩,h2⟩:=hi.toks t tok h
    refine⟨⟨xs,h1.kept hgr (by cases tok.v.ownBlock <;> simp)⟩,fun g' hg'=> ⟨fun i hh=> ?_,fun o' ho=> .inl ((h2 g' hg').2 o' ho)⟩⟩
    rcases get2 hh with⟨_,hh⟩ | ⟨x,hh,_,hx⟩
    · exact(h2 g' hg').1 i hh
    · have h3:=(own_lt' h1.1 hg').2
      have:=(hg x (List.mem_of_getElem? hh)).1
      omega
  · intro c o' h
    show c < κ'.w.heap.size
    rcases h with h | ⟨x,hx,h⟩
    · exact Nat.lt_of_lt_of_le (hi.muts c o' h) hb.size
    · rw[h];exact hglt x hx
  · rintro rfl b o (h | ⟨x,hx,_⟩)
    · exact hi.muts b o h
    · cases hx
def FreshC (s:St)(h:Nat):V→List (Nat×List V)→(V→List (Nat×List V)→Prop)→Prop
  | .own sz n true cs t,acc,Q=> s.tips[t]? =some n∧cs.all D.flat=true∧cs.length=n * sz∧(∀ x∈acc,x.1≠t)∧∀ k,Q (.rsl sz (h+acc.length) 0 n (n+k)) (acc++ [(t,ofDs cs++List.replicate (k * sz) (.d .any))])
  | .own sz n false cs t,acc,Q=> n=0∧cs= []∧Q (.d (.sl 0 false [])) acc
  | .d d,acc,Q=> d.flat=true∧Q (.d d) acc
  | _,_,_=> False
def FreshCs (s:St)(h:Nat):List V→List (Nat×List V)→(List V→List (Nat×List V)→Prop)→Prop
  | [],acc,Q=> Q [] acc
  | x::xs,acc,Q=> FreshC s h x acc fun y acc'=> FreshCs s h xs acc' fun ys acc''=> Q (y::ys) acc''
def Fresh1 (s:St)(h:Nat)(x:V)(acc:List (Nat×List V))(Q:V→List (Nat×List V)→Prop):Prop:=match x with
  | .agg cs=> FreshCs s h cs acc fun ys acc'=> Q (.agg ys) acc'
  | x=> FreshC s h x acc Q
def Fresh1s (s:St)(h:Nat):List V→List (Nat×List V)→(List V→List (Nat×List V)→Prop)→Prop
  | [],acc,Q=> Q [] acc
  | x::xs,acc,Q=> Fresh1 s h x acc fun y acc'=> Fresh1s s h xs acc' fun ys acc''=> Q (y::ys) acc''
def FreshA (s st:St)(x:V)(Q:V→St→Prop):Prop:=match x with
  | .tup xs=> Fresh1s s st.heap.length xs [] fun ys acc=> Q (.tup ys) (st.pushL (acc.map (·.2)))
  | x=> Fresh1 s st.heap.length x [] fun y acc=> Q y (st.pushL (acc.map (·.2)))
def blkOf (κ':K)(t:Nat):Nat:=((κ'.tk[t]?).bind (·.v.ownBlock)).getD 0
structure AccOk (κ κ':K)(acc:List (Nat×List V)):Prop where
  nd:∀ (i j:Nat) x y,acc[i]? =some x→acc[j]? =some y→x.1=y.1→i=j
  at_:∀ x∈acc,∃ tok g arr e,κ'.tk[x.1]? =some tok∧tok.v.ownBlock=some g∧κ.w.heap.size≤g∧κ'.w.heap[g]? =some (.cells arr e (0,0))∧∀ κ2:K,κ2.L=κ.L→All2 (RepC κ2) x.2 arr.toList
structure Has' (κ κ':K)(h:Nat)(acc:List (Nat×List V))(κ2:K):Prop where
  L:κ2.L=κ.L
  w:κ2.w=κ'.w
  ρ:∀ (i:Nat) x,acc[i]? =some x→κ2.ρ[h+i]? =some (blkOf κ' x.1)
theorem Has'.left {κ κ' κ2:K}{h:Nat}{acc r:List (Nat×List V)}(H:Has' κ κ' h (acc++r) κ2):Has' κ κ' h acc κ2:=⟨H.L,H.w,fun i x hx=> H.ρ i x (by rw[List.getElem?_append_left (List.getElem?_eq_some_iff.1 hx).1];exact hx)⟩
theorem freshC_sound (hL:κ'.L=κ.L)(hw0:κ'.w0=κ.w)(hi':Inv Pr κ' s){h:Nat}{x:V}{v:Value}{acc:List (Nat×List V)}{Q:V→List (Nat×List V)→Prop}(hr:RepC κ' x v)(ha:AccOk κ κ' acc)(hf:FreshC s h x acc Q):
    ∃ y r,Q y (acc++r)∧AccOk κ κ' (acc++r)∧∀ κ2,Has' κ κ' h (acc++r) κ2→RepC κ2 y v:=by
  cases x with
  | d d=>
    have hr:RepD κ'.L κ'.imm d v:=hr
    refine⟨_,[],by rw[List.append_nil];exact hf.2,by rw[List.append_nil];exact ha,fun κ2 h2=> ?_⟩
    show RepD κ2.L κ2.imm d v
    rw[h2.L,← hL]
    exact D.flat_rep hf.1 hr
  | own sz n nz cs t=>
    obtain⟨hd,tok,htok,hsz,hn,hcur⟩:=hr
    cases nz with
    | false=>
      obtain⟨rfl,rfl,hQ⟩:=hf
      refine⟨_,[],by rw[List.append_nil];exact hQ,by rw[List.append_nil];exact ha,fun κ2 h2=> ?_⟩
      show RepD κ2.L κ2.imm _ v
      rw[h2.L,← hL]
      exact D.flat_rep rfl hd
    | true=>
      obtain⟨htip,hfl,hcl,hnew,hQ⟩:=hf
      have htn:tok.n=n:=by
        rw[hi'.tips,List.getElem?_map,htok]at htip
        simpa using htip
      subst htn
      obtain rfl:=hcur rfl
      subst hsz
      obtain⟨⟨xs,hown,hone⟩,htk⟩:=hi'.toks t tok htok
      have hd':=hd
      simp only[RepD]at hd'
      obtain⟨A,cap0,hv,hcap0,hA,_,hcs⟩:=hd'
      rcases hown.2 with⟨hnil,_⟩ | ⟨g,cap,cur,hv2,hbase,hg,hnc,hcm,hcsz,htake⟩
      · rw[hnil]at hv
        simp only[Value.slice.injEq]at hv
        rw[← hv.1]at hA
        simp at hA
      · rw[hw0]at hbase
        have hob:tok.v.ownBlock=some g:=by rw[hv2];rfl
        have hones:=hone g cur tok.e (0,0) hob hg
        have hknown:All2 (RepD κ'.L κ'.imm) cs (cur.toList.take (tok.n * tok.size)):=by
          rcases hcs with rfl | ⟨b,o,hAe,hl⟩
          · simp only[List.length_nil]at hcl
            rw[← hcl,List.take_zero]
            exact .nil
          · rw[hv2]at hv
            simp only[Value.slice.injEq]at hv
            rw[hAe]at hv
            simp only[Option.some.injEq,Addr.mk.injEq]at hv
            obtain⟨⟨rfl,rfl,_⟩,_⟩:=hv
            have hlen:cs.length≤cur.size:=by
              have:tok.n * tok.size≤cap * tok.size:=Nat.mul_le_mul_right _ hnc
              omega
            refine All2.of_get (by simp;omega) fun j c y' hj hy'=> ?_
            obtain⟨y,hy,hyr⟩:=hl.get hj
            have hjl:=(List.getElem?_eq_some_iff.1 hj).1
            rw[List.getElem?_take,if_pos (by omega),Array.getElem?_toList]at hy'
            have:=hy.1
            rw[cell_of_row κ'.w g (0+j) cur tok.e (0,0) hg,Nat.zero_add,hy']at this
            rw[Option.some.inj this]
            exact hyr
        obtain⟨k,hk⟩:∃ k,cap=tok.n+k:=⟨cap - tok.n,by omega⟩
        subst hk
        have hdrop:(cur.toList.drop (tok.n * tok.size)).length=k * tok.size:=by
          rw[List.length_drop,Array.length_toList,hcsz,Nat.add_mul]
          omega
        have hrow:∀ κ2:K,κ2.L=κ.L→All2 (RepC κ2) (ofDs cs++List.replicate (k * tok.size) (.d .any)) cur.toList:=fun κ2 h2=> by
          have q1:=flats_rep (κ:=κ') (κ2:=κ2) (h2.trans hL.symm) hfl hknown
          have q2:=one_any (κ:=κ2) (l:=cur.toList.drop (tok.n * tok.size)) fun x hx=> hones x (List.mem_of_mem_drop hx)
          rw[hdrop]at q2
          have:=q1.append q2
          rwa [List.take_append_drop]at this
        refine⟨_,_,hQ k,⟨fun i j x y hx hy he=> ?_,fun x hx=> ?_⟩,fun κ2 h2=> ?_⟩
        · have key:∀ (i:Nat) (x:Nat×List V),(acc++ [(t,ofDs cs++List.replicate (k * tok.size) (.d .any))])[i]? =some x→(acc[i]? =some x∧i < acc.length)∨(i=acc.length∧x.1=t):=by
            intro i x hx
            rw[List.getElem?_append]at hx
            split at hx
            · exact .inl ⟨hx,‹_›⟩
            · have:=(List.getElem?_eq_some_iff.1 hx).1
              simp at this
              have e:i=acc.length:=by omega
              subst e
              simp at hx
              exact .inr ⟨rfl,by rw[← hx]⟩
          rcases key i x hx with⟨h1,_⟩ | ⟨h1,h1'⟩ <;> rcases key j y hy with⟨h2,_⟩ | ⟨h2,h2'⟩
          · exact ha.nd i j x y h1 h2 he
          · exact absurd (he.trans h2') (hnew x (List.mem_of_getElem? h1))
          · exact absurd (he.symm.trans h1') (hnew y (List.mem_of_getElem? h2))
          · omega
        · rcases List.mem_append.1 hx with hx | hx
          · exact ha.at_ x hx
          · obtain rfl:=List.mem_singleton.1 hx
            exact⟨tok,g,cur,tok.e,htok,hob,hbase,hg,hrow⟩
        · have:=h2.ρ acc.length (t,ofDs cs++List.replicate (k * tok.size) (.d .any)) (by simp)
          refine⟨g,0,?_,hv2,by omega,.inr rfl⟩
          rw[this]
          simp[blkOf,htok,hob]
  | _=> exact hf.elim
theorem freshCs_sound (hL:κ'.L=κ.L)(hw0:κ'.w0=κ.w)(hi':Inv Pr κ' s){h:Nat}:∀ {xs:List V} {l:List Value} {acc:List (Nat×List V)} {Q:List V→List (Nat×List V)→Prop},All2 (RepC κ') xs l→AccOk κ κ' acc→FreshCs s h xs acc Q→
    ∃ ys r,Q ys (acc++r)∧AccOk κ κ' (acc++r)∧∀ κ2,Has' κ κ' h (acc++r) κ2→All2 (RepC κ2) ys l
  | [],_,acc,Q,hr,ha,hf=> by
    cases hr
    exact⟨[],[],by rw[List.append_nil];exact hf,by rw[List.append_nil];exact ha,fun _ _=> .nil⟩
  | x::xs,_,acc,Q,hr,ha,hf=> by
    cases hr with
    | cons h1 h2=>
      obtain⟨y,r,c1,c2,c3⟩:=freshC_sound hL hw0 hi' h1 ha hf
      obtain⟨ys,r',d1,d2,d3⟩:=freshCs_sound hL hw0 hi' h2 c2 c1
      rw[List.append_assoc]at d1 d2 d3
      exact⟨y::ys,r++r',d1,d2,fun κ2 h=> .cons (c3 κ2 (by rw[← List.append_assoc]at h;exact h.left)) (d3 κ2 h)⟩
theorem fresh1_sound (hL:κ'.L=κ.L)(hw0:κ'.w0=κ.w)(hi':Inv Pr κ' s){h:Nat}{x:V}{v:Value}{acc:List (Nat×List V)}{Q:V→List (Nat×List V)→Prop}(hr:Rep1 κ' x v)(ha:AccOk κ κ' acc)(hf:Fresh1 s h x acc Q):
    ∃ y r,Q y (acc++r)∧AccOk κ κ' (acc++r)∧∀ κ2,Has' κ κ' h (acc++r) κ2→Rep1 κ2 y v:=by
  have one:RepC κ' x v→FreshC s h x acc Q→∃ y r,Q y (acc++r)∧AccOk κ κ' (acc++r)∧∀ κ2,Has' κ κ' h (acc++r) κ2→Rep1 κ2 y v:=fun hr hf=> by
    obtain⟨y,r,c1,c2,c3⟩:=freshC_sound hL hw0 hi' hr ha hf
    exact⟨y,r,c1,c2,fun κ2 h=> Rep1.ofC (c3 κ2 h)⟩
  cases x with
  | agg cs=>
    obtain⟨l,rfl,hl⟩:=hr
    obtain⟨ys,r,c1,c2,c3⟩:=freshCs_sound hL hw0 hi' hl ha hf
    exact⟨.agg ys,r,c1,c2,fun κ2 h=> ⟨l,rfl,c3 κ2 h⟩⟩
  | d d=> exact one hr hf
  | own sz n nz cs t=> exact one hr hf
  | _=> exact hf.elim
theorem fresh1s_sound (hL:κ'.L=κ.L)(hw0:κ'.w0=κ.w)(hi':Inv Pr κ' s){h:Nat}:∀ {xs:List V} {l:List Value} {acc:List (Nat×List V)} {Q:List V→List (Nat×List V)→Prop},All2 (Rep1 κ') xs l→AccOk κ κ' acc→Fresh1s s h xs acc Q→
    ∃ ys r,Q ys (acc++r)∧AccOk κ κ' (acc++r)∧∀ κ2,Has' κ κ' h (acc++r) κ2→All2 (Rep1 κ2) ys l
  | [],_,acc,Q,hr,ha,hf=> by
    cases hr
    exact⟨[],[],by rw[List.append_nil];exact hf,by rw[List.append_nil];exact ha,fun _ _=> .nil⟩
  | x::xs,_,acc,Q,hr,ha,hf=> by
    cases hr with
    | cons h1 h2=>
      obtain⟨y,r,c1,c2,c3⟩:=fresh1_sound hL hw0 hi' h1 ha hf
      obtain⟨ys,r',d1,d2,d3⟩:=fresh1s_sound hL hw0 hi' h2 c2 c1
      rw[List.append_assoc]at d1 d2 d3
      exact⟨y::ys,r++r',d1,d2,fun κ2 h=> .cons (c3 κ2 (by rw[← List.append_assoc]at h;exact h.left)) (d3 κ2 h)⟩
theorem accOk_nil:AccOk κ κ' []:=⟨fun i j x y h=> by simp at h,fun x h=> by cases h⟩
theorem AccOk.adopt {acc:List (Nat×List V)}(hi:Inv Pr κ st)(hL:κ'.L=κ.L)(hw0:κ'.w0=κ.w)(hi':Inv Pr κ' s)(ha:AccOk κ κ' acc):∃ κ2:K,κ2.w=κ'.w∧κ.le κ2∧Inv Pr κ2 (st.pushL (acc.map (·.2)))∧Has' κ κ' st.heap.length acc κ2:=by
  have hb:∀ x∈acc,∃ tok g arr e,κ'.tk[x.1]? =some tok∧tok.v.ownBlock=some g∧blkOf κ' x.1=g∧κ.w.heap.size≤g∧κ'.w.heap[g]? =some (.cells arr e (0,0))∧∀ κ2:K,κ2.L=κ.L→All2 (RepC κ2) x.2 arr.toList:=fun x hx=> by
    obtain⟨tok,g,arr,e,h1,h2,h3,h4,h5⟩:=ha.at_ x hx
    exact⟨tok,g,arr,e,h1,h2,by simp[blkOf,h1,h2],h3,h4,h5⟩
  have hA:∀ (i j:Nat) x y,(acc.map fun x=> (blkOf κ' x.1,x.2))[i]? =some x→(acc.map fun x=> (blkOf κ' x.1,x.2))[j]? =some y→x.1=y.1→i=j:=by
    intro i j x y hx hy he
    rw[List.getElem?_map,Option.map_eq_some_iff]at hx hy
    obtain⟨x,hx,rfl⟩:=hx
    obtain⟨y,hy,rfl⟩:=hy
    obtain⟨tok,g,_,_,a1,a2,a3,_⟩:=hb x (List.mem_of_getElem? hx)
    obtain⟨tok',g',_,_,b1,b2,b3,_⟩:=hb y (List.mem_of_getElem? hy)
    simp only at he
    rw[a3,b3]at he
    subst he
    exact ha.nd i j x y hx hy (hi'.tdis _ _ _ _ g a1 b1 a2 b2)
  have hB:∀ x∈(acc.map fun x=> (blkOf κ' x.1,x.2)),κ.w.heap.size≤x.1∧∃ arr e,κ'.w.heap[x.1]? =some (.cells arr e (0,0))∧∀ κ2:K,κ2.L=κ.L→All2 (RepC κ2) x.2 arr.toList:=by
    intro x hx
    rw[List.mem_map]at hx
    obtain⟨x,hx,rfl⟩:=hx
    obtain⟨tok,g,arr,e,a1,a2,a3,a4,a5,a6⟩:=hb x hx
    simp only[a3]
    exact⟨a4,arr,e,a5,a6⟩
  obtain⟨κ2,c1,c2,c3,c4,_⟩:=hi.adoptL hL hw0 hi' _ hA hB
  refine⟨κ2,c1,c2,?_,c2.L,c1,fun i x hx=> c4 i (blkOf κ' x.1,x.2) (by rw[List.getElem?_map,hx];rfl)⟩
  rw[List.map_map]at c3
  exact c3
theorem freshA_sound (hi:Inv Pr κ st)(hL:κ'.L=κ.L)(hw0:κ'.w0=κ.w)(hi':Inv Pr κ' s){x:V}{v:Value}{Q:V→St→Prop}(hr:Rep κ' x v)(h:FreshA s st x Q):
    ∃ κ2 y st2,κ2.w=κ'.w∧κ.le κ2∧Inv Pr κ2 st2∧Rep κ2 y v∧Fl st st2∧Q y st2:=by
  have one:Rep1 κ' x v→(Fresh1 s st.heap.length x [] fun y acc=> Q y (st.pushL (acc.map (·.2))))→∃ κ2 y st2,κ2.w=κ'.w∧κ.le κ2∧Inv Pr κ2 st2∧Rep κ2 y v∧Fl st st2∧Q y st2:=fun hr hf=> by
    obtain⟨y,r,c1,c2,c3⟩:=fresh1_sound (κ:=κ) hL hw0 hi' hr accOk_nil hf
    obtain⟨κ2,d1,d2,d3,d4⟩:=c2.adopt hi hL hw0 hi'
    exact⟨κ2,y,_,d1,d2,d3,Rep.of1 (c3 κ2 d4),Fl.pushL _ _,c1⟩
  cases x with
  | tup xs=>
    obtain⟨l,rfl,hl⟩:=hr
    obtain⟨ys,r,c1,c2,c3⟩:=fresh1s_sound (κ:=κ) hL hw0 hi' hl accOk_nil h
    obtain⟨κ2,d1,d2,d3,d4⟩:=c2.adopt hi hL hw0 hi'
    exact⟨κ2,.tup ys,_,d1,d2,d3,⟨l,rfl,c3 κ2 d4⟩,Fl.pushL _ _,c1⟩
  | agg cs=> exact one hr h
  | d d=> exact one hr h
  | own sz n nz cs t=> exact one hr h
  | _=> exact h.elim
end
theorem CallW.seenA {Pr:Prog}{f:Nat}{args as:List V}{st:St}{Q:V→St→Prop}{k:Nat}(hc:seeA st k args=some as)(h:CallW Pr f as st0 fun v s=> FreshA s st v Q):CallW Pr f args st Q:=by
  intro P L ht κ vals hL hi ha
  have hb:=seeA_rep hi hc ha
  refine(h P L ht κ.seen vals hL hi.seen hb).mono ?_
  rintro e w' ⟨κ',v,r,s,rfl,rfl,h1,h2,h3,h4,hQ⟩
  obtain⟨κ2,y,st2,c1,c2,c3,c4,c5,c6⟩:=freshA_sound hi h1.L h1.w0 h2 h3 hQ
  exact⟨κ2,v,y,st2,c1,rfl,c2,c3,c4,c5,c6⟩
end Go.Sh
