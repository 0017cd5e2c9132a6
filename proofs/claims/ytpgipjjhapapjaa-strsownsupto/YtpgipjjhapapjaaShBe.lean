/- Part of the proof. -/
import Derived.Test.YtpgipjjhapapjaaShBd
import Derived.Lib.Bytealg
import Derived.Lib.BytesEntry
set_option linter.unusedVariables false
set_option linter.unusedSimpArgs false
namespace Go.Sh
open Go.RowKit Go.ChangeShapes
theorem lookup_mem {α:Type}:∀ {l:List (Nat×α)} {k:Nat} {v:α},l.lookup k=some v→(k,v)∈l
  | [],k,v,h=> by simp at h
  | (j,u)::r,k,v,h=> by
    simp only[List.lookup_cons]at h
    split at h
    · rename_i he
      simp only[Option.some.injEq]at h
      subst h
      have:k=j:=by simpa using he
      subst this
      exact List.mem_cons_self
    · exact List.mem_cons_of_mem _ (lookup_mem h)
def PrimOk (P:Program)(Pr:Prog)(L:Link)(f:Nat)(g:List V→St→Option V):Prop:=∀ (κ:K) (st:St) (args:List V) (vals:List Value) (r:V),κ.L=L→Inv Pr κ st→All2 (Rep κ) args vals→g args st=some r→
    Calls P (L.fn f) vals.toArray κ.w fun e w'=> ∃ κ' v,κ'.w=w'∧e= .returned v∧κ.le κ'∧Inv Pr κ' st∧Rep κ' r v
theorem tied_of2 {P:Program}{Pr:Prog}{L:Link}{fns:List (Nat×SFn)}{prims:List (Nat×(List V→St→Option V))}(hp:∀ f,Pr.fn f=fns.lookup f)(hq:∀ f,Pr.prim f=prims.lookup f)(h:∀ x∈fns,∃ fn,P.funcs[L.fn x.1]? =some fn∧okFn P Pr L fn x.2=true)
    (h2:∀ x∈prims,PrimOk P Pr L x.1 x.2):Tied P Pr L:=by
  refine⟨fun f sf hf=> ?_,fun f g _ hg=> ?_⟩
  · rw[hp]at hf
    exact h (f,sf) (lookup_mem hf)
  · rw[hq]at hg
    exact h2 (f,g) (lookup_mem hg)
section
variable {P:Program}{Pr:Prog}{L:Link}{W:World}
theorem walk_trueW (ht:Tie P Pr L)(hg:Globs Pr L W){F:Nat}{xs:List V}{vals:List Value}(ha:All2 (Rep (K.at0 L W)) xs vals)(h:CallW Pr F xs st0 fun r _=> r= .d (.b true)):
    Calls P (L.fn F) vals.toArray W fun e w'=> e= .returned (.bool true)∧Below W.heap.size W w':=by
  refine(h P L ht (K.at0 L W) vals rfl (Inv.at0 hg) ha).mono ?_
  rintro e w' ⟨κ',v,r,st',rfl,rfl,h1,h2,h3,h4,rfl⟩
  have h3:v= .bool true:=rep_b.1 h3
  subst h3
  refine⟨rfl,?_⟩
  have:=h2.below
  rw[h1.w0]at this
  exact this
variable {H:Type}{enc:TypeId×Value→H}{sp:Nat→Bool}{base:Nat}
theorem contractW (hl:laidOutB P=true)(ht:Tie P Pr L)(hg:Globs Pr L W){F:Nat}{fn:Func}{s:ChangeSpec}{tys:List Ty}(hty:tysOk P fn.params.toList tys=true)
    (hr:(fn.params.toList.all fun t=> P.readableRec t && decide (t < P.types.size))=true) {tb:TypeId} (hres:fn.resultTypes.toList= [tb]) (hub:P.underlying tb=some .bool) (hs:SaysTrue s fn.params.toList.length)
    {args:Array Value} {ds gs:List (DataW H)} {before:List MemPlace} (hval:∀ (j:Nat) t v,fn.params[j]? =some t→args[j]? =some v→Value.okWide P W .any base t v)
    (hW:DataW.Whole enc P fn.params.toList s.vars false W args.toList ds gs before) (hw:(DataW.weightsEach P fn.params.toList ds).all (· ≤reachBytes)=true)
    (hden:∀ dss,All2 Has tys dss→bulkL dss.flatten≤bulkWs (ds++gs)→CallW Pr F (argVs tys dss) st0 fun r _=> r= .d (.b true)):
    Calls P (L.fn F) args W fun e W'=> ∃ v,e= .returned v∧s.post enc P fn false true false false W args v W':=by
  have hW':=hW
  obtain⟨p,q,hA,hV,rfl,hfz,hnd⟩:=hW
  obtain⟨hs1,hs2⟩:=hs
  rw[hs1]at hV
  obtain⟨rfl,rfl⟩:=trodVars_none hV
  obtain⟨dss,h1,h2,h3⟩:=args_rep (L:=L) hty (fun j t v ht hv=> hval j t v (by simpa using ht) (by simpa using hv)) hA hw
  rw[List.append_nil]at hden
  have hd:=hden dss h2 h3
  have:=walk_trueW ht hg h1 hd
  rw[show args.toList.toArray=args by simp]at this
  refine this.mono ?_
  rintro e W' ⟨rfl,bel⟩
  obtain⟨hs2,hs3,hs4⟩:=hs2 H ds (trodAll_length hA)
  have hsz:fn.resultTypes.size=1:=by rw[← Array.length_toList,hres];rfl
  refine⟨_,rfl,ds,[],_,[],p,[],hW',?_,?_,?_,bel.frame _,fun h=> by cases h⟩
  · rw[List.append_nil,hs2,hres,hsz]
    exact trodAll_mk1 (shut_bool hub _)
  · rw[List.append_nil,hs3]
    exact trodAll_below hl bel hr hA
  · rw[List.append_nil,hs4,hs1]
    rfl
end
end Go.Sh
namespace Go.Sh
attribute [simp] wants put bind1 pureR stR Opd.ev evs partsV evo Env.get resV resOne resAll initE finish arI toDs
attribute [simp] cden_keep cden_exit cden_ret cden_skip
/-! What follows a part of a run, kept shut until that part has been run. -/
noncomputable def seqK (P:Prog) (b:SCode):Option Out→Option Out
  | some (.normal,e',st')=> cden P b e' st'
  | r=> r
noncomputable def condK (P:Prog) (a b:SCode) (e:Env) (st:St):Option V→Option Out
  | some (.d (.b true))=> cden P a e st
  | some (.d (.b false))=> cden P b e st
  | _=> none
def blockK (i:Nat):Option Out→Option Out
  | some (.exit j,e',st')=> if j=i then some (.normal,e',st') else some (.exit j,e',st')
  | r=> r
def regK:Option (Env×St)→Option Out
  | some (e',st')=> some (.normal,e',st')
  | none=> none
noncomputable def loopK (P:Prog) (live:List Nat) (tr:Bool) (c:SCode):Option Out→Option Out
  | some (.normal,e',st')=> cden P (.loop live tr c) e' st'
  | r=> r
section
variable {P:Prog}{e:Env}{st:St}
@[simp] theorem cden_seqK {a b:SCode}:cden P (.seq a b) e st=seqK P b (cden P a e st):=by rw[cden_seq];rfl
@[simp] theorem seqK_normal {b:SCode}:seqK P b (some (.normal,e,st))=cden P b e st:=rfl
@[simp] theorem seqK_exit {b:SCode}{i:Nat}:seqK P b (some (.exit i,e,st))=some (.exit i,e,st):=rfl
@[simp] theorem seqK_ret {b:SCode}:seqK P b (some (.ret,e,st))=some (.ret,e,st):=rfl
@[simp] theorem seqK_none {b:SCode}:seqK P b none=none:=rfl
@[simp] theorem cden_condK {c:Opd}{a b:SCode}:cden P (.cond c a b) e st=condK P a b e st (c.ev P e):=by
  rw[cden_cond]
  rfl
@[simp] theorem condK_true {a b:SCode}:condK P a b e st (some (.d (.b true)))=cden P a e st:=rfl
@[simp] theorem condK_false {a b:SCode}:condK P a b e st (some (.d (.b false)))=cden P b e st:=rfl
@[simp] theorem cden_blockK {i:Nat}{c:SCode}:cden P (.block i c) e st=blockK i (cden P c e st):=by rw[cden_block];rfl
@[simp] theorem blockK_normal {i:Nat}:blockK i (some (.normal,e,st))=some (.normal,e,st):=rfl
@[simp] theorem blockK_exit {i j:Nat}:blockK i (some (.exit j,e,st))=if j=i then some (.normal,e,st) else some (.exit j,e,st):=rfl
@[simp] theorem blockK_ret {i:Nat}:blockK i (some (.ret,e,st))=some (.ret,e,st):=rfl
@[simp] theorem blockK_none {i:Nat}:blockK i none=none:=rfl
@[simp] theorem cden_regK {ops:List SOper}{d:Bool}{B:List Nat}:cden P (.region ops d B) e st=regK (opsS P (den P) ops ops e st):=by rw[cden_region];rfl
@[simp] theorem regK_some:regK (some (e,st))=some (.normal,e,st):=rfl
@[simp] theorem regK_none:regK none=none:=rfl
@[simp] theorem loopK_normal {live:List Nat}{tr:Bool}{c:SCode}:loopK P live tr c (some (.normal,e,st))=cden P (.loop live tr c) e st:=rfl
@[simp] theorem loopK_exit {live:List Nat}{tr:Bool}{c:SCode}{i:Nat}:loopK P live tr c (some (.exit i,e,st))=some (.exit i,e,st):=rfl
@[simp] theorem loopK_ret {live:List Nat}{tr:Bool}{c:SCode}:loopK P live tr c (some (.ret,e,st))=some (.ret,e,st):=rfl
end
section
variable {P:Prog}{call:CallF}{e:Env}{st:St}
@[simp] theorem opS_mov {x:Opd}:opS P call e st (.mov x)=pureR st (x.ev P e):=rfl
@[simp] theorem opS_tok {size:Nat}{x:Opd}:opS P call e st (.tok size x)=bind1 (x.ev P e) fun v=> match v with
    | .d (.sl 0 false [])=> some (.own size 0 false [] st.tips.length,{st with tips:=st.tips++ [0]})
    | _=> none:=rfl
@[simp] theorem opS_pick {c:Opd}{a:Opd}{b:Opd}:opS P call e st (.pick c a b)=bind1 (c.ev P e) fun c=> match c with
    | .d (.b c)=> bind1 (a.ev P e) fun a=> bind1 (b.ev P e) fun b=> some (if c then a else b,st)
    | _=> none:=rfl
@[simp] theorem opS_bin {op:BinOp}{x:Opd}{y:Opd}:opS P call e st (.bin op x y)=bind1 (x.ev P e) fun x=> bind1 (y.ev P e) fun y=> pureR st (binV op x y):=rfl
@[simp] theorem opS_eqv {neg:Bool}{ks:List Nat}{x:Opd}{y:Opd}:opS P call e st (.eqv neg ks x y)=bind1 (x.ev P e) fun x=> bind1 (y.ev P e) fun y=> pureR st ((eqV ks x y).map fun b=> .d (.b (if neg then !b else b))):=rfl
@[simp] theorem opS_un {op:UnOp}{x:Opd}:opS P call e st (.un op x)=bind1 (x.ev P e) fun x=> pureR st (unV op x):=rfl
@[simp] theorem opS_conv {k:IntKind}{x:Opd}:opS P call e st (.conv k x)=bind1 (x.ev P e) fun x=> pureR st (convV k x):=rfl
@[simp] theorem opS_s2b {x:Opd}:opS P call e st (.s2b x)=bind1 (x.ev P e) fun x=> match x with
    | .d (.s l)=> some (.d (.sl l.length true (byteCells l)),st)
    | _=> none:=rfl
@[simp] theorem opS_b2s {x:Opd}:opS P call e st (.b2s x)=bind1 (x.ev P e) fun x=> pureR st (b2sV st x):=rfl
@[simp] theorem opS_build {z:List D}{ps:List (Nat×Nat×Opd)}:opS P call e st (.build z ps)=match partsV P e ps with
    | some vs=> pureR st ((fillV (ofDs z) vs).map .agg)
    | none=> none:=rfl
@[simp] theorem opS_lits {n:Nat}{z:List D}{ps:List (Nat×Nat×Opd)}:opS P call e st (.lits n z ps)=match partsV P e ps with
    | some vs=> pureR st (match fillV (ofDs (reps n z)) vs with
      | some cs=> (toDs cs).map fun ds=> .d (.sl n true ds)
      | none=> none)
    | none=> none:=rfl
@[simp] theorem opS_litsO {n:Nat}{z:List D}{ps:List (Nat×Nat×Opd)}:opS P call e st (.litsO n z ps)=match partsV P e ps with
    | some vs=> match fillV (ofDs (reps n z)) vs with
      | some cs=> match toDs cs with
        | some ds=> some (.own z.length n true ds st.tips.length,{st with tips:=st.tips++ [n]})
        | none=> none
      | none=> none
    | none=> none:=rfl
@[simp] theorem opS_litsR {n:Nat}{z:List D}{ps:List (Nat×Nat×Opd)}:opS P call e st (.litsR n z ps)=match partsV P e ps with
    | some vs=> match fillV (ofDs (reps n z)) vs with
      | some cs=> some (.rsl z.length st.heap.length 0 n n,st.push (.row cs))
      | none=> none
    | none=> none:=rfl
@[simp] theorem opS_box {x:Opd}:opS P call e st (.box x)=bind1 (x.ev P e) fun v=> if v.ok1 then some (.ptr st.heap.length 0,st.push (.row v.cs)) else none:=rfl
@[simp] theorem opS_boxI {x:Opd}:opS P call e st (.boxI x)=bind1 (x.ev P e) fun v=> if v.ok1 then pureR st ((toDs v.cs).map .ep) else none:=rfl
@[simp] theorem opS_alloc {z:List D}:opS P call e st (.alloc z)=some (.ptr st.heap.length 0,st.push (.row (ofDs z))):=rfl
@[simp] theorem opS_load {size:Nat}{agg:Bool}{p:Opd}:opS P call e st (.load size agg p)=bind1 (p.ev P e) fun p=> pureR st (loadV size agg st p):=rfl
attribute [simp] apartE apartV
@[simp] theorem opS_storeX {size:Nat}{p:Opd}{x:Opd}{qs:List Nat}:opS P call e st (.storeX size p x qs)=bind1 (p.ev P e) fun p=> bind1 (x.ev P e) fun x=> if apartE e p qs=true then stR (storeV size st p x) else none:=rfl
@[simp] theorem opS_store {size:Nat}{p:Opd}{x:Opd}:opS P call e st (.store size p x)=bind1 (p.ev P e) fun p=> bind1 (x.ev P e) fun x=> stR (storeV size st p x):=rfl
@[simp] theorem opS_faddr {off:Nat}{p:Opd}:opS P call e st (.faddr off p)=bind1 (p.ev P e) fun p=> pureR st (faddrV off p):=rfl
@[simp] theorem opS_field {off:Nat}{size:Nat}{agg:Bool}{x:Opd}:opS P call e st (.field off size agg x)=bind1 (x.ev P e) fun x=> pureR st (fieldV off size agg x):=rfl
@[simp] theorem opS_iaddr {size:Nat}{x:Opd}{i:Opd}:opS P call e st (.iaddr size x i)=bind1 (x.ev P e) fun x=> bind1 (i.ev P e) fun i=> pureR st (iaddrV size x i):=rfl
@[simp] theorem opS_iaddrA {len:Nat}{size:Nat}{p:Opd}{i:Opd}:opS P call e st (.iaddrA len size p i)=bind1 (p.ev P e) fun p=> bind1 (i.ev P e) fun i=> pureR st (iaddrAV len size p i):=rfl
@[simp] theorem opS_idx {len:Nat}{size:Nat}{agg:Bool}{x:Opd}{i:Opd}:opS P call e st (.idx len size agg x i)=bind1 (x.ev P e) fun x=> bind1 (i.ev P e) fun i=> pureR st (idxV len size agg x i):=rfl
@[simp] theorem opS_idxS {x:Opd}{i:Opd}:opS P call e st (.idxS x i)=bind1 (x.ev P e) fun x=> bind1 (i.ev P e) fun i=> pureR st (idxSV x i):=rfl
@[simp] theorem opS_slc {size:Nat}{x:Opd}{lo:Option Opd}{hi:Option Opd}{mx:Option Opd}:opS P call e st (.slc size x lo hi mx)=bind1 (x.ev P e) fun x=> match evo P e lo,evo P e hi,evo P e mx with
    | some lo,some hi,some mx=> pureR st (slcV size x lo hi mx)
    | _,_,_=> none:=rfl
@[simp] theorem opS_slcS {x:Opd}{lo:Option Opd}{hi:Option Opd}:opS P call e st (.slcS x lo hi)=bind1 (x.ev P e) fun x=> match evo P e lo,evo P e hi with
    | some lo,some hi=> pureR st (slcSV x lo hi)
    | _,_=> none:=rfl
@[simp] theorem opS_slcA {len:Nat}{size:Nat}{x:Opd}{lo:Option Opd}{hi:Option Opd}{mx:Option Opd}:opS P call e st (.slcA len size x lo hi mx)=bind1 (x.ev P e) fun x=> match evo P e lo,evo P e hi,evo P e mx with
    | some lo,some hi,some mx=> pureR st (slcAV len size x lo hi mx)
    | _,_,_=> none:=rfl
@[simp] theorem opS_mkR {bytes:Nat}{z:List D}{l:Opd}{c:Opd}:opS P call e st (.mkR bytes z l c)=bind1 (l.ev P e) fun l=> bind1 (c.ev P e) fun c=> match room bytes l,room bytes c with
    | some n,some m=> if n≤m then some (.rsl z.length st.heap.length 0 n m,st.push (.row (ofDs (reps m z)))) else none
    | _,_=> none:=rfl
@[simp] theorem opS_mkD {bytes:Nat}{z:List D}{l:Opd}{c:Opd}:opS P call e st (.mkD bytes z l c)=bind1 (l.ev P e) fun l=> bind1 (c.ev P e) fun c=> match room bytes l,room bytes c with
    | some n,some m=> if n≤m then some (.d (.sl n true (reps n z)),st) else none
    | _,_=> none:=rfl
@[simp] theorem opS_mkO {bytes:Nat}{size:Nat}{z:List D}{l:Opd}{c:Opd}:opS P call e st (.mkO bytes size z l c)=bind1 (l.ev P e) fun l=> bind1 (c.ev P e) fun c=> match room bytes l,room bytes c with
    | some n,some m=> if n≤m∧z.length=size then some (.own size n true (reps n z) st.tips.length,{st with tips:=st.tips++ [n]}) else none
    | _,_=> none:=rfl
@[simp] theorem opS_len {str:Bool}{x:Opd}:opS P call e st (.len str x)=bind1 (x.ev P e) fun x=> pureR st ((if str then lenS x else lenV x).map fun(n:Nat)=> V.d (.i .i64 (n:Int))):=rfl
@[simp] theorem opS_lenA {n:Nat}:opS P call e st (.lenA n)=some (.d (.i .i64 n),st):=rfl
@[simp] theorem opS_app {size:Nat}{bytes:Nat}{s:Opd}{x:Opd}:opS P call e st (.app size bytes s x)=bind1 (s.ev P e) fun s=> bind1 (x.ev P e) fun x=> appV size bytes st s x:=rfl
@[simp] theorem opS_clr {sz:Nat}{z:List D}{x:Opd}:opS P call e st (.clr sz z x)=bind1 (x.ev P e) fun x=> clrV sz z st x:=rfl
@[simp] theorem opS_appZ {sz b:Nat}{z:List D}{s x:Opd}:opS P call e st (.appZ sz b z s x)=bind1 (s.ev P e) fun s=> bind1 (x.ev P e) fun x=> appZV sz b z st s x:=rfl
@[simp] theorem opS_appR {sz b:Nat}{z:List D}{s x:Opd}:opS P call e st (.appR sz b z s x)=none:=rfl
@[simp] theorem opS_cpy {size:Nat}{a:Opd}{b:Opd}:opS P call e st (.cpy size a b)=bind1 (a.ev P e) fun a=> bind1 (b.ev P e) fun b=> cpyV size st a b:=rfl
@[simp] theorem opS_mkMap {r:Option Opd}:opS P call e st (.mkMap r)=match evo P e r with
    | some none=> some (.map st.heap.length,st.push (.map []))
    | some (some v)=> match intV v with
      | some _=> some (.map st.heap.length,st.push (.map []))
      | none=> none
    | none=> none:=rfl
@[simp] theorem opS_lenM {m:Opd}:opS P call e st (.lenM m)=bind1 (m.ev P e) fun m=> match m with
    | .d .nm=> some (.d (.i .i64 0),st)
    | .map id=> match st.mapOf id with
      | some es=> some (.d (.i .i64 es.length),st)
      | none=> none
    | _=> none:=rfl
@[simp] theorem opS_look {str:Bool}{ok:Bool}{z:List D}{za:Bool}{m:Opd}{k:Opd}:opS P call e st (.look str ok z za m k)=bind1 (m.ev P e) fun m=> bind1 (k.ev P e) fun k=> pureR st (lookV str ok (zeroV z za) st m k):=rfl
@[simp] theorem opS_mapSet {str:Bool}{m:Opd}{k:Opd}{x:Opd}:opS P call e st (.mapSet str m k x)=bind1 (m.ev P e) fun m=> bind1 (k.ev P e) fun k=> bind1 (x.ev P e) fun x=> if x.ok1 then stR (mapSetV str st m k x) else none:=rfl
@[simp] theorem opS_mkI {tag:Nat}{agg:Bool}{x:Opd}:opS P call e st (.mkI tag agg x)=bind1 (x.ev P e) fun x=> pureR st (mkIV tag agg x):=rfl
@[simp] theorem opS_assertT {tag:Nat}{others:List Nat}{ok:Bool}{z:List D}{za:Bool}{x:Opd}:opS P call e st (.assertT tag others ok z za x)=bind1 (x.ev P e) fun x=> pureR st (assertV tag others ok (zeroV z za) x):=rfl
@[simp] theorem opS_extract {i:Nat}{x:Opd}:opS P call e st (.extract i x)=bind1 (x.ev P e) fun x=> match x with
    | .tup vs=> pureR st (vs[i]?)
    | _=> none:=rfl
@[simp] theorem opS_nilChk {x:Opd}:opS P call e st (.nilChk x)=bind1 (x.ev P e) fun x=> match x with
    | .ptr id off=> some (.ptr id off,st)
    | .ep cs=> some (.ep cs,st)
    | .d (.ifc t a c)=> some (.d (.ifc t a c),st)
    | _=> none:=rfl
@[simp] theorem opS_call {f:Nat}{args:List Opd}:opS P call e st (.call f args)=match evs P e args with
    | some vs=> call f vs st
    | none=> none:=rfl
def mkFnK (st:St)(f:Nat):Option (List V)→Option (V×St)
  | some vs=> pureR st ((capsV vs).map fun cs=> .fn f cs)
  | none=> none
@[simp] theorem mkFnK_some {st:St}{f:Nat}{vs:List V}:mkFnK st f (some vs)=pureR st ((capsV vs).map fun cs=> .fn f cs):=rfl
@[simp] theorem capsV_nil:capsV []=some []:=rfl
def calK (call:CallF)(st:St)(fs:List Nat)(vs:Option (List V)):Option V→Option (V×St)
  | some (.fn f caps)=> if fs.contains f then match vs with
    | some vs=> call f (vs++capPs caps) st
    | none=> none
    else none
  | _=> none
@[simp] theorem calK_some {fs:List Nat}{f:Nat}{caps:List (Nat×Nat)}{vs:List V}:calK call st fs (some vs) (some (.fn f caps))=if fs.contains f then call f (vs++capPs caps) st else none:=rfl
@[simp] theorem capPs_nil:capPs []= []:=rfl
@[simp] theorem capPs_cons {p:Nat×Nat}{r:List (Nat×Nat)}:capPs (p::r)= .ptr p.1 p.2::capPs r:=rfl
def invK (P:Prog)(call:CallF)(e:Env)(st:St)(table:List (Nat×Nat))(args:List Opd):Option V→Option (V×St)
  | some (.d (.ifc tag agg ds))=> match table.lookup tag,mkV agg (ofDs ds),evs P e args with
    | some f,some v,some vs=> call f (v::vs) st
    | _,_,_=> none
  | _=> none
@[simp] theorem invK_ifc {table:List (Nat×Nat)}{args:List Opd}{tag:Nat}{agg:Bool}{ds:List D}:invK P call e st table args (some (.d (.ifc tag agg ds)))=match table.lookup tag,mkV agg (ofDs ds),evs P e args with
    | some f,some v,some vs=> call f (v::vs) st
    | _,_,_=> none:=rfl
@[simp] theorem opS_mx {x:Opd}{y:Opd}:opS P call e st (.mx x y)=bind1 (x.ev P e) fun x=> bind1 (y.ev P e) fun y=> pureR st (minV (fun b a=> decide (a < b)) x y):=rfl
@[simp] theorem opS_mn {x:Opd}{y:Opd}:opS P call e st (.mn x y)=bind1 (x.ev P e) fun x=> bind1 (y.ev P e) fun y=> pureR st (minV (fun b a=> decide (b < a)) x y):=rfl
end
def opsK2 (P:Prog)(call:CallF)(all r:List SOper)(dst:Option Nat)(e:Env):Option (V×St)→Option (Env×St)
  | some (v,st')=> opsS P call all r (put e dst v) st'
  | none=> none
def opsK1 (P:Prog)(call:CallF)(all r:List SOper)(dst:Option Nat)(op:SOp)(e:Env)(st:St):Option Bool→Option (Env×St)
  | some true=> opsK2 P call all r dst e (opS P call e st op)
  | some false=> opsS P call all r (put e dst .un) st
  | none=> none
section
variable {P:Prog}{call:CallF}{all r:List SOper}{dst:Option Nat}{op:SOp}{e:Env}{st:St}
@[simp] theorem opsK2_some {v:V}:opsK2 P call all r dst e (some (v,st))=opsS P call all r (put e dst v) st:=rfl
@[simp] theorem opsK2_none:opsK2 P call all r dst e none=none:=rfl
@[simp] theorem opsK1_true:opsK1 P call all r dst op e st (some true)=opsK2 P call all r dst e (opS P call e st op):=rfl
@[simp] theorem opsK1_false:opsK1 P call all r dst op e st (some false)=opsS P call all r (put e dst .un) st:=rfl
@[simp] theorem opsK1_none:opsK1 P call all r dst op e st none=none:=rfl
end
attribute [simp] escs esc1s
@[simp] theorem opsS_nil {P:Prog}{call:CallF}{all:List SOper}{e:Env}{st:St}:opsS P call all [] e st=some (e,st):=rfl
@[simp] theorem opsS_cons {P:Prog}{call:CallF}{all r:List SOper}{o:SOper}{e:Env}{st:St}:opsS P call all (o::r) e st=opsK1 P call all r o.dst o.op e st (wants all e o.guard):=by
  rw[opsS]
  cases wants all e o.guard with
  | none=> rfl
  | some b=> cases b <;> rfl
@[simp] theorem int_beq (a b:Int):(a==b)=decide (a=b):=by by_cases h:a=b <;> simp[h]
@[simp] theorem int_bne (a b:Int):(a !=b)= !decide (a=b):=by by_cases h:a=b <;> simp[h]
@[simp] theorem lenV_sl {n:Nat}{nz:Bool}{cs:List D}:lenV (.d (.sl n nz cs))=some n:=rfl
@[simp] theorem lenV_own {s n:Nat}{nz:Bool}{cs:List D}{t:Nat}:lenV (.own s n nz cs t)=some n:=rfl
@[simp] theorem lenV_rsl {s i o n c:Nat}:lenV (.rsl s i o n c)=some n:=rfl
@[simp] theorem lenS_s {l:List UInt8}:lenS (.d (.s l))=some l.length:=rfl
@[simp] theorem intV_i {k:IntKind}{n:Int}:intV (.d (.i k n))=some n:=rfl
@[simp] theorem binV_i {op:BinOp}{k k':IntKind}{a b:Int}:binV op (.d (.i k a)) (.d (.i k' b))=match op with
    | .shl | .shr=> (shI op k a b).map .d
    | _=> if k=k' then(arI op k a b).map .d else none:=rfl
@[simp] theorem binV_s {op:BinOp}{a b:List UInt8}:binV op (.d (.s a)) (.d (.s b))=(binS op a b).map .d:=rfl
@[simp] theorem unV_i {op:UnOp}{k:IntKind}{n:Int}:unV op (.d (.i k n))=match op with
    | .neg=> some (.d (.i k (k.wrap (0 - n))))
    | .xor=> (bitI .xor k (if k.signed then -1 else k.max) n).map .d
    | _=> none:=rfl
@[simp] theorem unV_b {op:UnOp}{b:Bool}:unV op (.d (.b b))=match op with
    | .not=> some (.d (.b (!b)))
    | _=> none:=rfl
@[simp] theorem convV_i {k k':IntKind}{n:Int}:convV k (.d (.i k' n))=some (.d (.i k (k.wrap n))):=rfl
@[simp] theorem eqV_b {a b:Bool}:eqV [1] (.d (.b a)) (.d (.b b))=some (a==b):=rfl
@[simp] theorem ok1_d {x:D}:V.ok1 (.d x)=true:=rfl
@[simp] theorem ok1_agg {x:List V}:V.ok1 (.agg x)=true:=rfl
@[simp] theorem ok1_ptr {i o:Nat}:V.ok1 (.ptr i o)=true:=rfl
@[simp] theorem ok1_rsl {s i o n c:Nat}:V.ok1 (.rsl s i o n c)=true:=rfl
@[simp] theorem ok1_own {s n:Nat}{nz:Bool}{cs:List D}{t:Nat}:V.ok1 (.own s n nz cs t)=true:=rfl
@[simp] theorem cs_agg {x:List V}:V.cs (.agg x)=x:=rfl
@[simp] theorem cs_d {x:D}:V.cs (.d x)= [.d x]:=rfl
@[simp] theorem toD_d {x:D}:toD (.d x)=some x:=rfl
@[simp] theorem toD_own {s n:Nat}{nz:Bool}{cs:List D}{t:Nat}:toD (.own s n nz cs t)=some (.sl n nz cs):=rfl
@[simp] theorem mkV_t {cs:List V}:mkV true cs=some (.agg cs):=rfl
@[simp] theorem mkV_f {c:V}:mkV false [c]=some c:=rfl
@[simp] theorem toDs_ofDs' {ds:List D}:toDs (ofDs ds)=some ds:=toDs_of ds
section
variable {st:St}{h t:Nat}
@[simp] theorem escC_d {x:D}:escC st h t (.d x)=some (.d x):=rfl
@[simp] theorem escC_ep {x:List D}:escC st h t (.ep x)=some (.ep x):=rfl
@[simp] theorem escC_ptr {i o:Nat}:escC st h t (.ptr i o)=if i < h then some (.ptr i o) else none:=rfl
@[simp] theorem escC_map {i:Nat}:escC st h t (.map i)=if i < h then some (.map i) else none:=rfl
@[simp] theorem escC_own {s n:Nat}{nz:Bool}{cs:List D}{k:Nat}:escC st h t (.own s n nz cs k)=if k < t then some (.own s n nz cs k) else some (.d (.sl n nz cs)):=rfl
@[simp] theorem escC_rsl {s i o n c:Nat}:escC st h t (.rsl s i o n c)=if i < h then some (.rsl s i o n c) else(cellsAt st i o (n * s)).map fun ds=> .d (.sl n true ds):=rfl
@[simp] theorem esc1_d {x:D}:esc1 st h t (.d x)=some (.d x):=rfl
@[simp] theorem esc1_ep {x:List D}:esc1 st h t (.ep x)=some (.ep x):=rfl
@[simp] theorem esc1_un:esc1 st h t .un=none:=rfl
@[simp] theorem esc1_ptr {i o:Nat}:esc1 st h t (.ptr i o)=if i < h then some (.ptr i o) else none:=rfl
@[simp] theorem esc1_map {i:Nat}:esc1 st h t (.map i)=if i < h then some (.map i) else none:=rfl
@[simp] theorem esc1_own {s n:Nat}{nz:Bool}{cs:List D}{k:Nat}:esc1 st h t (.own s n nz cs k)=if k < t then some (.own s n nz cs k) else some (.d (.sl n nz cs)):=rfl
@[simp] theorem esc1_rsl {s i o n c:Nat}:esc1 st h t (.rsl s i o n c)=if i < h then some (.rsl s i o n c) else(cellsAt st i o (n * s)).map fun ds=> .d (.sl n true ds):=rfl
@[simp] theorem esc1_agg {cs:List V}:esc1 st h t (.agg cs)=(escs st h t cs).map .agg:=rfl
@[simp] theorem esc1_tup' {vs:List V}:esc1 st h t (.tup vs)=none:=rfl
@[simp] theorem esc_d {x:D}:esc st h t (.d x)=some (.d x):=rfl
@[simp] theorem esc_ep {x:List D}:esc st h t (.ep x)=some (.ep x):=rfl
@[simp] theorem esc_ptr {i o:Nat}:esc st h t (.ptr i o)=if i < h then some (.ptr i o) else none:=rfl
@[simp] theorem esc_own {s n:Nat}{nz:Bool}{cs:List D}{k:Nat}:esc st h t (.own s n nz cs k)=if k < t then some (.own s n nz cs k) else some (.d (.sl n nz cs)):=rfl
@[simp] theorem esc_rsl {s i o n c:Nat}:esc st h t (.rsl s i o n c)=if i < h then some (.rsl s i o n c) else(cellsAt st i o (n * s)).map fun ds=> .d (.sl n true ds):=rfl
@[simp] theorem esc_agg {cs:List V}:esc st h t (.agg cs)=(escs st h t cs).map .agg:=rfl
@[simp] theorem esc_tup {vs:List V}:esc st h t (.tup vs)=(esc1s st h t vs).map .tup:=rfl
end
@[simp] theorem loadV_ptr {sz:Nat}{agg:Bool}{st:St}{id off:Nat}:loadV sz agg st (.ptr id off)=match st.row id with
    | some cs=> if off+sz≤cs.length then mkV agg ((cs.drop off).take sz) else none
    | none=> none:=rfl
@[simp] theorem loadV_ep {sz:Nat}{agg:Bool}{st:St}{cs:List D}:loadV sz agg st (.ep cs)=if 0 < sz∧sz≤cs.length then mkV agg (ofDs (cs.take sz)) else none:=rfl
@[simp] theorem storeV_ptr {sz:Nat}{st:St}{id off:Nat}{x:V}:storeV sz st (.ptr id off) x=match st.row id with
    | some cs=> if x.ok1=true∧x.cs.length=sz∧off+sz≤cs.length then st.setBlk id (.row (lay cs off x.cs)) else none
    | none=> none:=rfl
@[simp] theorem faddrV_ptr {off id o:Nat}:faddrV off (.ptr id o)=some (.ptr id (o+off)):=rfl
@[simp] theorem faddrV_ep {off:Nat}{cs:List D}:faddrV off (.ep cs)=some (.ep (cs.drop off)):=rfl
@[simp] theorem fieldV_agg {off sz:Nat}{agg:Bool}{cs:List V}:fieldV off sz agg (.agg cs)=if off+sz≤cs.length then mkV agg ((cs.drop off).take sz) else none:=rfl
@[simp] theorem row_push_new {st:St}{cs:List V}{id:Nat}(h:id=st.heap.length):(st.push (.row cs)).row id=some cs:=by
  subst h
  rw[row_push,if_pos rfl]
@[simp] theorem setBlk_push {st:St}{b b':Blk}{id:Nat}(h:id=st.heap.length)(hf:st.floor≤st.heap.length):(st.push b).setBlk id b'=some (st.push b'):=by
  subst h
  simp[St.setBlk,St.push,hf]
@[simp] theorem push_len {st:St}{b:Blk}:(st.push b).heap.length=st.heap.length+1:=by simp[St.push]
@[simp] theorem push_tips {st:St}{b:Blk}:(st.push b).tips=st.tips:=rfl
@[simp] theorem push_floor {st:St}{b:Blk}:(st.push b).floor=st.floor:=rfl
@[simp] theorem push_tfloor {st:St}{b:Blk}:(st.push b).tfloor=st.tfloor:=rfl
@[simp] theorem mask_nil {e:Env}:mask [] e= []:=rfl
@[simp] theorem mask_cons {i:Nat}{r:List Nat}{e:Env}:mask (i::r) e=match e.get i with
    | some v=> (i,v)::mask r e
    | none=> mask r e:=by
  unfold mask
  rw[List.filterMap_cons]
  cases e.get i <;> rfl
@[simp] theorem enter_false (st:St):enterR st false=st:=rfl
theorem start_raw (fn:SFn)(h:fn.pure=false)(st:St):start fn st=st:=by simp[start,h]
section
variable {P:Prog}
theorem loop_run {live:List Nat}{tr:Bool}{c:SCode}{Q:Out→Prop}(J:Nat→Env→St→Prop)
    (hJ:∀ n e st,J n e st→∃ r,(cden P c e (enterR st tr)).map (cutR st tr)=some r∧Round (fun m e' st'=> J m (mask live e') st') n Q r):∀ {n:Nat} {e:Env} {st:St},J n (mask live e) st→∃ r,cden P (.loop live tr c) e st=some r∧Q r:=by
  intro n
  induction n using Nat.strongRecOn with
  | ind n ih=>
    intro e st h
    obtain⟨r,h1,h2⟩:=hJ n _ st h
    rw[cden_loop]
    have h1:round live tr (cden P c) e st=some r:=h1
    rw[h1]
    obtain⟨x,e1,s1⟩:=r
    cases x with
    | normal=>
      obtain⟨m,hm,hJm⟩:=h2
      exact ih m hm hJm
    | exit i=> exact⟨_,rfl,h2⟩
    | ret=> exact⟨_,rfl,h2⟩
end
theorem wrap_i64 {n:Int}(h: -9223372036854775808≤n)(h':n≤9223372036854775807):IntKind.wrap .i64 n=n:=by
  simp only[IntKind.wrap,IntKind.signed,IntKind.bits,Bool.true_and,decide_eq_true_eq,show(2:Int) ^ (64 - 1)=9223372036854775808 from rfl,show(2:Int) ^ 64=18446744073709551616 from rfl]
  split <;> omega
end Go.Sh
namespace Go.Sh
theorem flatten_len {α:Type}{sz:Nat}:∀ {els:List (List α)},(∀ x∈els,x.length=sz)→els.flatten.length=els.length * sz
  | [],_=> by simp
  | x::els,h=> by
    rw[List.flatten_cons,List.length_append,flatten_len (fun y hy=> h y (List.mem_cons_of_mem _ hy)),h x List.mem_cons_self,List.length_cons,Nat.succ_mul]
    omega
theorem flatten_drop {α:Type}{sz:Nat}:∀ {els:List (List α)},(∀ x∈els,x.length=sz)→∀ i,els.flatten.drop (i * sz)=(els.drop i).flatten
  | [],_,i=> by simp
  | x::els,h,0=> by simp
  | x::els,h,i+1=> by
    have hx:=h x List.mem_cons_self
    rw[List.flatten_cons,Nat.succ_mul,List.drop_succ_cons,← flatten_drop (fun y hy=> h y (List.mem_cons_of_mem _ hy)) i,Nat.add_comm,← List.drop_drop,List.drop_append,List.drop_eq_nil_of_le (as:=x) (by omega)]
    simp[hx]
end Go.Sh
namespace Go.Sh
theorem ofDs_len {l:List D}:(ofDs l).length=l.length:=by simp[ofDs]
end Go.Sh
namespace Go.Sh
open Go.RowKit
mutual
def D.same:D→D→Bool
  | .i k n,.i k' m=> decide (k=k') && decide (n=m)
  | .b p,.b q=> p==q
  | .s p,.s q=> p==q
  | .np,.np=> true
  | .nm,.nm=> true
  | .ni,.ni=> true
  | .nf,.nf=> true
  | .sl n z cs,.sl m y ds=> n==m && (z==y && D.sames cs ds)
  | .ifc t p cs,.ifc u q ds=> t==u && (p==q && D.sames cs ds)
  | _,_=> false
def D.sames:List D→List D→Bool
  | [],[]=> true
  | x::xs,y::ys=> D.same x y && D.sames xs ys
  | _,_=> false
end
mutual
theorem D.same_eq:∀ {x y:D},D.same x y=true→x=y
  | .i k n,y,h=> by cases y <;> simp[D.same]at h ⊢;exact h
  | .b p,y,h=> by cases y <;> simp[D.same]at h ⊢;exact h
  | .s p,y,h=> by cases y <;> simp[D.same]at h ⊢;exact h
  | .np,y,h=> by cases y <;> simp[D.same]at h ⊢
  | .nm,y,h=> by cases y <;> simp[D.same]at h ⊢
  | .ni,y,h=> by cases y <;> simp[D.same]at h ⊢
  | .nf,y,h=> by cases y <;> simp[D.same]at h ⊢
  | .sl n z cs,y,h=> by
    cases y <;> simp[D.same]at h ⊢
    exact⟨h.1,h.2.1,D.sames_eq h.2.2⟩
  | .ifc t p cs,y,h=> by
    cases y <;> simp[D.same]at h ⊢
    exact⟨h.1,h.2.1,D.sames_eq h.2.2⟩
theorem D.sames_eq:∀ {xs ys:List D},D.sames xs ys=true→xs=ys
  | [],ys,h=> by cases ys <;> simp[D.sames]at h ⊢
  | x::xs,ys,h=> by
    cases ys with
    | nil=> simp[D.sames]at h
    | cons y ys=>
      simp only[D.sames,Bool.and_eq_true]at h
      rw[D.same_eq h.1,D.sames_eq h.2]
end
end Go.Sh
namespace Go.Sh
def S (H:List (Option Blk))(T:List Nat)(bs:List Blk)(ts:List Nat)(fl tf:Nat):St:=⟨H++bs.map some,T++ts,fl,tf⟩
section
variable {H:List (Option Blk)}{T:List Nat}{bs:List Blk}{ts:List Nat}{fl tf:Nat}
@[simp] theorem S_floor:(S H T bs ts fl tf).floor=fl:=rfl
@[simp] theorem S_tfloor:(S H T bs ts fl tf).tfloor=tf:=rfl
def rowOf:Option Blk→Option (List V)
  | some (.row cs)=> some cs
  | _=> none
@[simp] theorem rowOf_row {cs:List V}:rowOf (some (.row cs))=some cs:=rfl
def mapOfB:Option Blk→Option (List (D×V))
  | some (.map cs)=> some cs
  | _=> none
@[simp] theorem mapOfB_map {cs:List (D×V)}:mapOfB (some (.map cs))=some cs:=rfl
end
@[simp] theorem cutR_false {st:St}{r:Out}:cutR st false r=r:=by simp[cutR]
theorem ofDs_tk {l:List D}{n:Nat}:(ofDs l).take n=ofDs (l.take n):=by simp[ofDs]
theorem ofDs_dr {l:List D}{n:Nat}:(ofDs l).drop n=ofDs (l.drop n):=by simp[ofDs]
def Bd (x:Option V)(dflt a:Nat):Prop:=match x with
  | none=> a=dflt
  | some v=> intV v=some (a:Int)
theorem Bd.bnd {x:Option V}{d a y:Nat}(h:Bd x d a)(hy:a≤y):bnd x d y=some a:=by
  unfold Bd at h
  cases x with
  | none=> simp only at h;subst h;rfl
  | some v=> simp only at h;simp[Go.Sh.bnd,h,hy]
/-! ### Slices of any mode, held by what was there -/
def Sl (sz:Nat)(v:V)(H:List (Option Blk))(T:List Nat)(els:List (List D)):Prop:=(∀ x∈els,x.length=sz)∧match v with
  | .d (.sl n _ cs)=> n=els.length∧cs=els.flatten
  | .own s n _ cs t=> s=sz∧n=els.length∧cs=els.flatten∧t < T.length
  | .rsl s id off n cap=> s=sz∧n=els.length∧n≤cap∧∃ cs,H[id]? =some (some (.row cs))∧off+n * sz≤cs.length∧(cs.drop off).take (n * sz)=ofDs els.flatten
  | _=> False
def elP (sz:Nat)(v:V)(i off:Nat):V:=match v with
  | .d (.sl _ _ cs)=> .ep ((cs.drop (i * sz)).drop off)
  | .own _ _ _ cs _=> .ep ((cs.drop (i * sz)).drop off)
  | .rsl _ id o _ _=> .ptr id (o+i * sz+off)
  | _=> .un
section
variable {H:List (Option Blk)}{T:List Nat}{bs:List Blk}{ts:List Nat}{fl tf:Nat}{sz:Nat}{v:V}{els:List (List D)}
theorem Sl.iaddr (h:Sl sz v H T els){i:Int}{k:IntKind}(h0:0≤i)(hi:i < els.length):iaddrV sz v (.d (.i k i))=some (elP sz v i.toNat 0):=by
  obtain⟨_,h⟩:=h
  split at h
  · obtain⟨rfl,rfl⟩:=h
    simp[iaddrV,elP,hi,h0]
  · obtain⟨rfl,rfl,rfl,_⟩:=h
    simp[iaddrV,elP,hi,h0]
  · obtain⟨rfl,rfl,_⟩:=h
    simp[iaddrV,elP,hi,h0]
  · exact h.elim
theorem flat_at (h:∀ x∈els,x.length=sz){i:Nat}{el:List D}(he:els[i]? =some el):els.flatten.drop (i * sz)=el++(els.drop (i+1)).flatten:=by
  rw[flatten_drop h]
  have:=(List.getElem?_eq_some_iff.1 he)
  obtain⟨hlt,hel⟩:=this
  rw[List.drop_eq_getElem_cons hlt,hel,List.flatten_cons]
theorem Sl.load (h:Sl sz v H T els){i o n:Nat}{agg:Bool}{el:List D}(he:els[i]? =some el)(hn:0 < n)(ho:o+n≤sz):loadV n agg (S H T bs ts fl tf) (elP sz v i o)=mkV agg (ofDs ((el.drop o).take n)):=by
  obtain⟨h1,h⟩:=h
  have hel:el.length=sz:=h1 el (List.mem_of_getElem? he)
  have hval:∀ cs:List D,cs=els.flatten→loadV n agg (S H T bs ts fl tf) (.ep ((cs.drop (i * sz)).drop o))=mkV agg (ofDs ((el.drop o).take n)):=by
    rintro cs rfl
    rw[flat_at h1 he]
    simp only[loadV_ep]
    rw[if_pos]
    · rw[List.drop_append_of_le_length (by omega),List.take_append_of_le_length (by simp;omega)]
    · simp;omega
  split at h
  · exact hval _ h.2
  · exact hval _ h.2.2.1
  · rename_i s id off m cap
    obtain⟨rfl,rfl,hcap,cs,hr,hb,hc⟩:=h
    have hlt:=(List.getElem?_eq_some_iff.1 hr).1
    have hrow:(S H T bs ts fl tf).row id=some cs:=by
      unfold St.row S
      simp only
      rw[List.getElem?_append_left hlt,hr]
    have hi:=(List.getElem?_eq_some_iff.1 he).1
    have hle:i * s+s≤els.length * s:=by
      rw[← Nat.succ_mul]
      exact Nat.mul_le_mul_right _ hi
    simp only[elP,loadV_ptr,hrow]
    rw[if_pos (by omega)]
    congr 1
    have h2:=congrArg (fun l=> (l.drop (i * s+o)).take n) hc
    simp only[ofDs_dr,ofDs_tk]at h2
    rw[List.drop_take,List.take_take,List.drop_drop]at h2
    rw[show min n (els.length * s - (i * s+o))=n by omega]at h2
    rw[show off+i * s+o=off+(i * s+o) by omega,h2]
    congr 1
    rw[← List.drop_drop,flat_at h1 he,List.drop_append_of_le_length (by omega),List.take_append_of_le_length (by simp;omega)]
  · exact h.elim
end
/-! ### Loops that count -/
theorem loop_to {P:Prog}{live:List Nat}{tr:Bool}{c:SCode}{Q:Out→Prop}(N:Nat)(E:Nat→Env)(Z:Nat→St)
    (h:∀ i,i≤N→∃ r,(cden P c (E i) (enterR (Z i) tr)).map (cutR (Z i) tr)=some r∧match r with
     | (.normal,e',s')=> i < N∧mask live e'=E (i+1)∧s'=Z (i+1)
     | r=> Q r) {e:Env} {st:St} (he:mask live e=E 0) (hst:st=Z 0):∃ r,cden P (.loop live tr c) e st=some r∧Q r:=by
  refine loop_run (fun m e s=> ∃ i,i≤N∧m=N - i∧e=E i∧s=Z i) ?_ (n:=N) ⟨0,by omega,rfl,he,hst⟩
  rintro m e s ⟨i,hi,rfl,rfl,rfl⟩
  obtain⟨r,hr,hq⟩:=h i hi
  refine⟨r,hr,?_⟩
  obtain⟨x,e1,s1⟩:=r
  cases x with
  | normal=>
    obtain⟨h1,h2,h3⟩:=hq
    exact⟨N - (i+1),by omega,i+1,by omega,rfl,h2,h3⟩
  | exit j=> exact hq
  | ret=> exact hq
def Sub (l:List (Nat×SFn))(pr:Prog):Prop:=∀ x∈l,pr.fn x.1=some x.2
end Go.Sh
namespace Go.Sh
theorem Sub.at {l:List (Nat×SFn)}{pr:Prog}(h:Sub l pr)(i:Nat){f:Nat}{fn:SFn}(hx:l[i]? =some (f,fn)):pr.fn f=some fn:=h _ (List.mem_of_getElem? hx)
def s0 (bs:List Blk)(ts:List Nat)(fl tf:Nat):St:=⟨bs.map some,ts,fl,tf⟩
section
variable {bs:List Blk}{ts:List Nat}{fl tf:Nat}
@[simp] theorem start_st0 (fn:SFn):start fn st0=s0 [] [] 0 0:=by unfold start;split <;> rfl
@[simp] theorem st0_hlen:st0.heap.length=0:=rfl
@[simp] theorem st0_tlen:st0.tips.length=0:=rfl
@[simp] theorem s0_hlen:(s0 bs ts fl tf).heap.length=bs.length:=by simp[s0]
@[simp] theorem s0_tips:(s0 bs ts fl tf).tips=ts:=rfl
@[simp] theorem s0_floor:(s0 bs ts fl tf).floor=fl:=rfl
@[simp] theorem s0_tfloor:(s0 bs ts fl tf).tfloor=tf:=rfl
@[simp] theorem s0_push {b:Blk}:(s0 bs ts fl tf).push b=s0 (bs++ [b]) ts fl tf:=by simp[s0,St.push]
@[simp] theorem s0_row {k:Nat}:(s0 bs ts fl tf).row k=rowOf bs[k]? :=by
  unfold St.row s0
  simp only[List.getElem?_map]
  cases bs[k]? with
  | none=> rfl
  | some b=> cases b <;> rfl
@[simp] theorem s0_setBlk {k:Nat}{b:Blk}(hf:fl≤k):(s0 bs ts fl tf).setBlk k b=some (s0 (bs.set k b) ts fl tf):=by
  unfold St.setBlk
  rw[s0_floor,if_pos hf]
  simp[s0]
@[simp] theorem s0_mk {ts':List Nat}{fl' tf':Nat}:({heap:=(s0 bs ts fl tf).heap,tips:=ts',floor:=fl',tfloor:=tf'}:St)=s0 bs ts' fl' tf':=rfl
end
/-! ### Slices as data -/
def SlD (sz:Nat)(v:V)(els:List (List D)):Prop:=(∀ x∈els,x.length=sz)∧∃ nz,v= .d (.sl els.length nz els.flatten)
def SlC (sz:Nat)(w:V)(els:List (List D)):Prop:=∃ v,closeC w=some v∧SlD sz v els
theorem SlC.of_sl {sz n:Nat}{nz:Bool}{cs:List D}{els:List (List D)}(h:∀ x∈els,x.length=sz)(hn:n=els.length)(hc:cs=els.flatten):SlC sz (.d (.sl n nz cs)) els:=⟨_,rfl,h,nz,by rw[hn,hc]⟩
theorem SlC.of_own {sz n t:Nat}{nz:Bool}{cs:List D}{els:List (List D)}(h:∀ x∈els,x.length=sz)(hn:n=els.length)(hc:cs=els.flatten):SlC sz (.own sz n nz cs t) els:=⟨_,rfl,h,nz,by rw[hn,hc]⟩
theorem SlC.close {sz:Nat}{w:V}{els:List (List D)}(h:SlC sz w els):∃ v,close1 w=some v∧SlD sz v els:=by
  obtain⟨v,hv,hd⟩:=h
  refine⟨v,?_,hd⟩
  cases w <;> first | exact hv | simp[closeC]at hv
attribute [simp] closeA closeCs
@[simp] theorem close1_d {x:D}:close1 (.d x)=some (.d x):=rfl
@[simp] theorem close1_own {s n:Nat}{nz:Bool}{cs:List D}{t:Nat}:close1 (.own s n nz cs t)=some (.d (.sl n nz cs)):=rfl
@[simp] theorem close1_ep {cs:List D}:close1 (.ep cs)=some (.ep cs):=rfl
@[simp] theorem close1_agg {cs:List V}:close1 (.agg cs)=(closeCs cs).map .agg:=rfl
@[simp] theorem closeC_d {x:D}:closeC (.d x)=some (.d x):=rfl
@[simp] theorem closeC_own {s n:Nat}{nz:Bool}{cs:List D}{t:Nat}:closeC (.own s n nz cs t)=some (.d (.sl n nz cs)):=rfl
section
variable {sz:Nat}{v:V}{els:List (List D)}{st:St}
theorem SlD.len (h:SlD sz v els):lenV v=some els.length:=by
  obtain⟨_,nz,rfl⟩:=h
  rfl
theorem SlD.sl (h:SlD sz v els):Sl sz v [] [] els:=by
  obtain⟨h,nz,rfl⟩:=h
  exact⟨h,rfl,rfl⟩
theorem SlD.iaddr (h:SlD sz v els){i:Int}{k:IntKind}(h0:0≤i)(hi:i < els.length):iaddrV sz v (.d (.i k i))=some (elP sz v i.toNat 0):=h.sl.iaddr h0 hi
theorem SlD.load (h:SlD sz v els){i o n:Nat}{agg:Bool}{el:List D}(he:els[i]? =some el)(hn:0 < n)(ho:o+n≤sz):loadV n agg st (elP sz v i o)=mkV agg (ofDs ((el.drop o).take n)):=by
  have:=h.sl.load (bs:= []) (ts:= []) (fl:=0) (tf:=0) (agg:=agg) he hn ho
  obtain⟨_,nz,rfl⟩:=h
  exact this
end
/-! ### Bytes -/
def byC (b:UInt8):List D:= [.i .u8 b.toNat]
theorem byC_1 (bs:List UInt8):∀ x∈bs.map byC,x.length=1:=by
  intro x hx
  simp only[List.mem_map]at hx
  obtain⟨_,_,rfl⟩:=hx
  rfl
theorem byC_flat (bs:List UInt8):(bs.map byC).flatten=byteCells bs:=by
  induction bs with
  | nil=> rfl
  | cons b r ih=> simp only[List.map_cons,List.flatten_cons,ih];rfl
theorem bytesOf_cells (bs:List UInt8):bytesOf (byteCells bs)=some bs:=by
  induction bs with
  | nil=> rfl
  | cons b r ih=>
    have:bytesOf (byteCells (b::r))=(match bytesOf (byteCells r) with
      | some l=> some (UInt8.ofNat (Int.toNat ((b.toNat:Nat):Int))::l)
      | none=> none):=rfl
    rw[this,ih]
    simp
/-! ### Loops -/
def LStep (live:List Nat)(N i:Nat)(E:Nat→Env)(Z:Nat→St)(Q:Out→Prop):Option Out→Prop
  | some (.normal,e',s')=> i < N∧mask live e'=E (i+1)∧s'=Z (i+1)
  | some r=> Q r
  | none=> False
section
variable {live:List Nat}{N i:Nat}{E:Nat→Env}{Z:Nat→St}{Q:Out→Prop}{e:Env}{s:St}
@[simp] theorem LStep_normal:LStep live N i E Z Q (some (.normal,e,s))=(i < N∧mask live e=E (i+1)∧s=Z (i+1)):=rfl
@[simp] theorem LStep_exit {j:Nat}:LStep live N i E Z Q (some (.exit j,e,s))=Q (.exit j,e,s):=rfl
@[simp] theorem LStep_ret:LStep live N i E Z Q (some (.ret,e,s))=Q (.ret,e,s):=rfl
end
theorem loop_n {P:Prog}{live:List Nat}{tr:Bool}{c:SCode}{Q:Out→Prop}(N:Nat)(E:Nat→Env)(Z:Nat→St)
    (h:∀ i,i≤N→LStep live N i E Z Q ((cden P c (E i) (enterR (Z i) tr)).map (cutR (Z i) tr))) {e:Env} {st:St} (he:mask live e=E 0) (hst:st=Z 0):∃ r,cden P (.loop live tr c) e st=some r∧Q r:=by
  refine loop_to N E Z (fun i hi=> ?_) he hst
  have:=h i hi
  generalize (cden P c (E i) (enterR (Z i) tr)).map (cutR (Z i) tr)=o at this ⊢
  cases o with
  | none=> exact this.elim
  | some r=>
    refine⟨r,rfl,?_⟩
    obtain⟨x,e1,s1⟩:=r
    cases x <;> exact this
def JStep (live:List Nat)(n:Nat)(J:Nat→Env→St→Prop)(Q:Out→Prop):Option Out→Prop
  | some (.normal,e',s')=> ∃ m,m < n∧J m (mask live e') s'
  | some r=> Q r
  | none=> False
section
variable {live:List Nat}{n:Nat}{J:Nat→Env→St→Prop}{Q:Out→Prop}{e:Env}{s:St}
@[simp] theorem JStep_normal:JStep live n J Q (some (.normal,e,s))=∃ m,m < n∧J m (mask live e) s:=rfl
@[simp] theorem JStep_exit {j:Nat}:JStep live n J Q (some (.exit j,e,s))=Q (.exit j,e,s):=rfl
@[simp] theorem JStep_ret:JStep live n J Q (some (.ret,e,s))=Q (.ret,e,s):=rfl
end
theorem loop_j {P:Prog}{live:List Nat}{tr:Bool}{c:SCode}{Q:Out→Prop}(J:Nat→Env→St→Prop)
    (h:∀ n e st,J n e st→JStep live n J Q ((cden P c e (enterR st tr)).map (cutR st tr))) {n:Nat} {e:Env} {st:St} (hJ:J n (mask live e) st):∃ r,cden P (.loop live tr c) e st=some r∧Q r:=by
  refine loop_run J (fun n e st hJ=> ?_) hJ
  have:=h n e st hJ
  generalize (cden P c e (enterR st tr)).map (cutR st tr)=o at this ⊢
  cases o with
  | none=> exact this.elim
  | some r=>
    refine⟨r,rfl,?_⟩
    obtain⟨x,e1,s1⟩:=r
    cases x <;> exact this
theorem shI_shr {k:IntKind}{x y:Int}(h:0≤y):shI .shr k x y=some (.i k (x.fdiv (2 ^ (min y.toNat k.bits)))):=by
  unfold shI
  rw[if_neg (by omega)]
end Go.Sh
namespace Go.Sh
theorem fdiv_nat (n m:Nat):((n:Int).fdiv (m:Int))=((n / m:Nat):Int):=by
  rw[Int.fdiv_eq_ediv_of_nonneg _ (by omega)]
  simp
end Go.Sh
namespace Go.Sh
attribute [simp] binS
def bsl (nz:Bool)(L:List UInt8):V:= .d (.sl L.length nz (byteCells L))
theorem byteCells_len (L:List UInt8):(byteCells L).length=L.length:=by simp[byteCells]
theorem byteCells_app (a b:List UInt8):byteCells (a++b)=byteCells a++byteCells b:=by simp[byteCells]
@[simp] theorem bsl_len (nz:Bool)(L:List UInt8):lenV (bsl nz L)=some L.length:=rfl
@[simp] theorem bsl_ok1 (nz:Bool)(L:List UInt8):V.ok1 (bsl nz L)=true:=rfl
@[simp] theorem bsl_b2s (nz:Bool)(L:List UInt8)(st:St):b2sV st (bsl nz L)=some (.d (.s L)):=by
  unfold b2sV bsl
  simp[vw,byteCells_len,bytesOf_cells]
@[simp] theorem bsl_close1 (nz:Bool)(L:List UInt8):close1 (bsl nz L)=some (bsl nz L):=rfl
@[simp] theorem bsl_closeC (nz:Bool)(L:List UInt8):closeC (bsl nz L)=some (bsl nz L):=rfl
@[simp] theorem bsl_esc (nz:Bool)(L:List UInt8)(st:St)(a b:Nat):esc1 st a b (bsl nz L)=some (bsl nz L):=rfl
@[simp] theorem bsl_esc' (nz:Bool)(L:List UInt8)(st:St)(a b:Nat):esc st a b (bsl nz L)=some (bsl nz L):=rfl
@[simp] theorem bsl_vw (nz:Bool)(L:List UInt8)(st:St):vw 1 st (bsl nz L)=some (L.length,byteCells L):=rfl
theorem bsl_slc (nz:Bool)(L:List UInt8){lo hi:Option V}{a b:Nat}(hb:Bd hi L.length b)(ha:Bd lo 0 a)(hab:a≤b)(hbn:b≤L.length):slcV 1 (bsl nz L) lo hi none=some (bsl nz ((L.take b).drop a)):=by
  have:bnds L.length L.length lo hi none=some (a,b,L.length):=by
    unfold bnds
    rw[show bnd none L.length L.length=some L.length from rfl]
    simp only
    rw[hb.bnd hbn]
    simp only
    rw[ha.bnd hab]
  simp only[slcV,bsl,Option.isSome_none,Bool.false_eq_true,if_false,this,Option.map_some,Option.some.injEq,V.d.injEq,D.sl.injEq,true_and]
  refine⟨by simp;omega,?_⟩
  rw[Nat.mul_one,Nat.mul_one]
  unfold byteCells
  rw[← List.map_drop,← List.map_take,List.drop_take]
theorem map_flat_len {α:Type}{c:α→List D}{sz:Nat}(h:∀ x,(c x).length=sz)(l:List α):(l.map c).flatten.length=l.length * sz:=by
  rw[flatten_len (sz:=sz) (fun y hy=> by simp only[List.mem_map]at hy;obtain⟨z,_,rfl⟩:=hy;exact h z),List.length_map]
theorem map_sz {α:Type}{c:α→List D}{sz:Nat}(h:∀ x,(c x).length=sz)(l:List α):∀ x∈l.map c,x.length=sz:=by
  intro y hy
  simp only[List.mem_map]at hy
  obtain⟨z,_,rfl⟩:=hy
  exact h z
def dsl {α:Type}(c:α→List D)(nz:Bool)(l:List α):V:= .d (.sl l.length nz (l.map c).flatten)
theorem dsl_d {α:Type}{c:α→List D}{sz:Nat}(h:∀ x,(c x).length=sz)(nz:Bool)(l:List α):SlD sz (dsl c nz l) (l.map c):=⟨map_sz h l,nz,by simp[dsl]⟩
@[simp] theorem dsl_len {α:Type}(c:α→List D)(nz:Bool)(l:List α):lenV (dsl c nz l)=some l.length:=rfl
@[simp] theorem dsl_ok1 {α:Type}(c:α→List D)(nz:Bool)(l:List α):V.ok1 (dsl c nz l)=true:=rfl
@[simp] theorem dsl_close1 {α:Type}(c:α→List D)(nz:Bool)(l:List α):close1 (dsl c nz l)=some (dsl c nz l):=rfl
@[simp] theorem dsl_esc {α:Type}(c:α→List D)(nz:Bool)(l:List α)(st:St)(a b:Nat):esc1 st a b (dsl c nz l)=some (dsl c nz l):=rfl
end Go.Sh
namespace Go.Sh
theorem all2_one {α β:Type}{R:α→β→Prop}{x:α}{ys:List β}(h:All2 R [x] ys):∃ y,ys= [y]∧R x y:=by
  cases h with
  | cons h1 h2=> cases h2;exact⟨_,rfl,h1⟩
theorem all2_two {α β:Type}{R:α→β→Prop}{x y:α}{ys:List β}(h:All2 R [x,y] ys):∃ a b,ys= [a,b]∧R x a∧R y b:=by
  cases h with
  | cons h1 h2=>
    cases h2 with
    | cons h3 h4=> cases h4;exact⟨_,_,rfl,h1,h3⟩
theorem bytes_of:∀ {els:List (List D)},(∀ x∈els,Has (.int .u8) x)→∃ l:List UInt8,els=l.map byC
  | [],_=> ⟨[],rfl⟩
  | x::els,h=> by
    obtain⟨n,rfl,h0,h1⟩:=(by simpa only[Has]using h x List.mem_cons_self:∃ n,x= [.i .u8 n]∧IntKind.min .u8≤n∧n≤IntKind.max .u8)
    obtain⟨l,rfl⟩:=bytes_of fun z hz=> h z (List.mem_cons_of_mem _ hz)
    refine⟨UInt8.ofNat n.toNat::l,?_⟩
    have h0:0≤n:=h0
    have h1:n≤255:=h1
    have:((UInt8.ofNat n.toNat).toNat:Int)=n:=by
      rw[UInt8.toNat_ofNat']
      omega
    simp[byC]
    omega
theorem bulkD_pos (d:D):1≤bulkD d:=by cases d <;> simp only[bulkD] <;> omega
theorem len_bulk:∀ l:List D,l.length≤bulkL l
  | []=> by simp[bulkL]
  | d::r=> by
    have:=bulkD_pos d
    have:=len_bulk r
    simp only[bulkL,List.length_cons]
    omega
theorem bulk_bytes {n:Nat}{nz:Bool}{l:List UInt8}{r:List D}{B:Nat}(h:bulkL (.sl n nz (l.map byC).flatten::r)≤B):l.length≤B:=by
  simp only[bulkL,bulkD]at h
  have:=len_bulk (l.map byC).flatten
  rw[map_flat_len (c:=byC) (sz:=1) (fun _=> rfl)]at this
  omega
theorem bulk_els {n:Nat}{nz:Bool}{α:Type}{c:α→List D}{sz:Nat}(hc:∀ x,(c x).length=sz)(hs:1≤sz){l:List α}{r:List D}{B:Nat}(h:bulkL (.sl n nz (l.map c).flatten::r)≤B):l.length≤B:=by
  simp only[bulkL,bulkD]at h
  have:=len_bulk (l.map c).flatten
  rw[map_flat_len hc]at this
  have:=Nat.le_mul_of_pos_right l.length (show 0 < sz by omega)
  omega
theorem bulk_tail {d:D}{r:List D}{B:Nat}(h:bulkL (d::r)≤B):bulkL r≤B:=by
  simp only[bulkL]at h
  omega
end Go.Sh
namespace Go.Sh
def opC (Pr:Prog)(fw:Nat→Bool)(e:Env)(st:St)(o:SOp)(Q:V→St→Prop):Prop:=match o with
  | .appR size bytes z s x=> match s.ev Pr e,x.ev Pr e with
    | some vs,some vx=> appW size bytes z st vs vx Q
    | _,_=> False
  | .call f args=> match evs Pr e args with
    | some vs=> if fw f=true then CallW Pr f vs st Q else match den Pr f vs st with
      | some (v,st')=> Q v st'
      | none=> False
    | none=> False
  | o=> match opS Pr (den Pr) e st o with
    | some (v,st')=> Q v st'
    | none=> False
theorem opC_W {Pr:Prog}{fw:Nat→Bool}{e:Env}{st:St}{o:SOp}{Q:V→St→Prop}(h:opC Pr fw e st o Q):OpW Pr e st o Q:=by
  cases o <;> simp only[opC,OpW]at h ⊢ <;> try exact h
  case call f args=>
    split at h
    · rename_i vs hvs
      rw[hvs]
      split at h
      · exact h
      · split at h
        · rename_i v st' hd
          exact CallW.of_den hd h
        · exact h.elim
    · exact h.elim
  case invoke t r args=>
    split at h
    · rename_i v st' hd
      simp only[opS]at hd
      obtain⟨w,hw,hd⟩:=bind1_some hd
      split at hd
      case h_2=> cases hd
      split at hd
      case h_2=> cases hd
      rename_i f v0 vs h1 h2 h3
      simp only[opArgs,hw,h1,h2,h3]
      exact CallW.of_den hd h
    · exact h.elim
theorem appW_mono {size bytes:Nat}{z:List D}{st:St}{s x:V}{Q Q':V→St→Prop}(h:appW size bytes z st s x Q)(hq:∀ v st',Q v st'→Q' v st'):appW size bytes z st s x Q':=by
  unfold appW at h ⊢
  split at h
  · obtain⟨h1,cs,m,ds,h2,h3,h4,h5,h6,h7,h8,h9,h10⟩:=h
    refine⟨h1,cs,m,ds,h2,h3,h4,h5,h6,h7,fun a b=> hq _ _ (h8 a b),fun a b=> ?_,fun a k=> hq _ _ (h10 a k)⟩
    obtain⟨st',q1,q2⟩:=h9 a b
    exact⟨st',q1,hq _ _ q2⟩
  · obtain⟨m,ds,h2,h3,h4,h5,h6,h7⟩:=h
    exact⟨m,ds,h2,h3,h4,h5,fun a=> hq _ _ (h6 a),fun a k=> hq _ _ (h7 a k)⟩
  · exact h.elim
def opsC (Pr:Prog)(fw:Nat→Bool)(all:List SOper):List SOper→Env→St→(Env→St→Prop)→Prop
  | [],e,st,Q=> Q e st
  | o::r,e,st,Q=> match wants all e o.guard with
    | some true=> opC Pr fw e st o.op fun v st'=> opsC Pr fw all r (put e o.dst v) st' Q
    | some false=> opsC Pr fw all r (put e o.dst .un) st Q
    | none=> False
theorem OpW.mono {Pr:Prog}{e:Env}{st:St}{o:SOp}{Q Q':V→St→Prop}(h:OpW Pr e st o Q)(hq:∀ v st',Q v st'→Q' v st'):OpW Pr e st o Q':=by
  cases o <;> simp only[OpW]at h ⊢
  case appR size bytes z s x=>
    split at h
    · rename_i vs vx h1 h2
      exact appW_mono h hq
    · exact h.elim
  case call f args=>
    split at h
    · exact CallW.mono h hq
    · exact h.elim
  case invoke t r args=>
    split at h
    · exact CallW.mono h hq
    · exact h.elim
  all_goals
    split at h
    · exact hq _ _ h
    · exact h.elim
theorem opsC_W {Pr:Prog}{fw:Nat→Bool}{all:List SOper}:∀ {l:List SOper} {e:Env} {st:St} {Q:Env→St→Prop},opsC Pr fw all l e st Q→OpsW Pr all l e st Q
  | [],e,st,Q,h=> h
  | o::r,e,st,Q,h=> by
    simp only[opsC,OpsW]at h ⊢
    split at h
    · rename_i hw
      rw[hw]
      exact OpW.mono (opC_W h) fun v st' h=> opsC_W h
    · rename_i hw
      rw[hw]
      exact opsC_W h
    · exact h.elim
@[simp] def isDem (fw:Nat→Bool):SOp→Bool
  | .appR .. => true
  | .call f _=> fw f
  | _=> false
def regW (fw:Nat→Bool):List SOper→Bool
  | []=> false
  | o::r=> isDem fw o.op || regW fw r
@[simp] theorem regW_nil {fw:Nat→Bool}:regW fw []=false:=rfl
@[simp] theorem regW_cons {fw:Nat→Bool}{o:SOper}{r:List SOper}:regW fw (o::r)=(isDem fw o.op || regW fw r):=rfl
def codeC (Pr:Prog)(fw:Nat→Bool):SCode→Env→St→(Out→Prop)→Prop
  | .skip,e,st,Q=> Q (.normal,e,st)
  | .region ops d B,e,st,Q=> if d=true then(if regW fw ops=true then CodeW Pr (.region ops true B) e st Q else match opsS Pr (den Pr) ops ops e st with
      | some (e',st')=> Q (.normal,e',st')
      | none=> False) else opsC Pr fw ops ops e st fun e' st'=> Q (.normal,e',st')
  | .seq a b,e,st,Q=> codeC Pr fw a e st fun r=> match r with
    | (.normal,e',st')=> codeC Pr fw b e' st' Q
    | r=> Q r
  | .cond c a b,e,st,Q=> match c.ev Pr e with
    | some (.d (.b t))=> if t=true then codeC Pr fw a e st Q else codeC Pr fw b e st Q
    | _=> False
  | .block i c,e,st,Q=> codeC Pr fw c e st (InBlock i Q)
  | .loop live tr c,e,st,Q=> CodeW Pr (.loop live tr c) e st Q
  | .exit i,e,st,Q=> Q (.exit i,e,st)
  | .ret,e,st,Q=> Q (.ret,e,st)
  | .keep live c,e,st,Q=> codeC Pr fw c (mask live e) st Q
theorem codeC_W {Pr:Prog}{fw:Nat→Bool}:∀ {c:SCode} {e:Env} {st:St} {Q:Out→Prop},codeC Pr fw c e st Q→CodeW Pr c e st Q
  | .skip,e,st,Q,h=> .skip h
  | .region ops d B,e,st,Q,h=> by
    simp only[codeC]at h
    split at h
    · rename_i hd
      subst hd
      split at h
      · exact h
      · split at h
        · rename_i h1
          exact .drawn h1 h
        · exact h.elim
    · rename_i hd
      obtain rfl:d=false:=by simpa using hd
      exact .region (opsC_W h)
  | .seq a b,e,st,Q,h=> by
    refine .seq ((codeC_W (c:=a) h).mono ?_)
    rintro⟨x,e',st'⟩ h
    cases x with
    | normal=> exact codeC_W (c:=b) h
    | exit i=> exact h
    | ret=> exact h
  | .cond c a b,e,st,Q,h=> by
    simp only[codeC]at h
    split at h
    · rename_i t ht
      refine .cond ⟨t,ht,fun h1=> ?_,fun h1=> ?_⟩
      · rw[if_pos h1]at h
        exact codeC_W (c:=a) h
      · rw[if_neg (by simp[h1])]at h
        exact codeC_W (c:=b) h
    · exact h.elim
  | .block i c,e,st,Q,h=> .block (codeC_W (c:=c) h)
  | .loop live tr c,e,st,Q,h=> h
  | .exit i,e,st,Q,h=> .exit h
  | .ret,e,st,Q,h=> .ret h
  | .keep live c,e,st,Q,h=> .keep (codeC_W (c:=c) h)
theorem opC_mono {Pr:Prog}{fw:Nat→Bool}{e:Env}{st:St}{o:SOp}{Q Q':V→St→Prop}(h:opC Pr fw e st o Q)(hq:∀ v st',Q v st'→Q' v st'):opC Pr fw e st o Q':=by
  cases o <;> simp only[opC]at h ⊢
  case appR size bytes z s x=>
    split at h
    · exact appW_mono h hq
    · exact h.elim
  case call f args=>
    split at h
    · split at h
      · rename_i hf
        rw[if_pos hf]
        exact CallW.mono h hq
      · rename_i hf
        rw[if_neg hf]
        split at h
        · exact hq _ _ h
        · exact h.elim
    · exact h.elim
  all_goals
    split at h
    · exact hq _ _ h
    · exact h.elim
theorem opsC_mono {Pr:Prog}{fw:Nat→Bool}{all:List SOper}:∀ {l:List SOper} {e:Env} {st:St} {Q Q':Env→St→Prop},opsC Pr fw all l e st Q→(∀ e s,Q e s→Q' e s)→opsC Pr fw all l e st Q'
  | [],e,st,Q,Q',h,hq=> hq _ _ h
  | o::r,e,st,Q,Q',h,hq=> by
    simp only[opsC]at h ⊢
    split at h
    · exact opC_mono h fun v st' h=> opsC_mono h hq
    · exact opsC_mono h hq
    · exact h.elim
theorem codeC_mono {Pr:Prog}{fw:Nat→Bool}:∀ {c:SCode} {e:Env} {st:St} {Q Q':Out→Prop},codeC Pr fw c e st Q→(∀ r,Q r→Q' r)→codeC Pr fw c e st Q'
  | .skip,e,st,Q,Q',h,hq=> hq _ h
  | .region ops d B,e,st,Q,Q',h,hq=> by
    simp only[codeC]at h ⊢
    split at h
    · rename_i hd
      rw[if_pos hd]
      split at h
      · rename_i hr
        rw[if_pos hr]
        exact CodeW.mono h hq
      · rename_i hr
        rw[if_neg hr]
        split at h
        · exact hq _ h
        · exact h.elim
    · rename_i hd
      rw[if_neg hd]
      exact opsC_mono h fun _ _ h=> hq _ h
  | .seq a b,e,st,Q,Q',h,hq=> by
    refine codeC_mono (c:=a) h ?_
    rintro⟨x,e',st'⟩ h
    cases x with
    | normal=> exact codeC_mono (c:=b) h hq
    | exit i=> exact hq _ h
    | ret=> exact hq _ h
  | .cond c a b,e,st,Q,Q',h,hq=> by
    simp only[codeC]at h ⊢
    split at h
    · split at h
      · rename_i h1
        rw[if_pos h1]
        exact codeC_mono (c:=a) h hq
      · rename_i h1
        rw[if_neg h1]
        exact codeC_mono (c:=b) h hq
    · exact h.elim
  | .block i c,e,st,Q,Q',h,hq=> codeC_mono (c:=c) h fun r h=> by
    obtain⟨x,e',st'⟩:=r
    cases x with
    | exit j=>
      unfold InBlock at h ⊢
      simp only at h ⊢
      split at h
      · rename_i hj
        rw[if_pos hj]
        exact hq _ h
      · rename_i hj
        rw[if_neg hj]
        exact hq _ h
    | normal=> exact hq _ h
    | ret=> exact hq _ h
  | .loop live tr c,e,st,Q,Q',h,hq=> CodeW.mono h hq
  | .exit i,e,st,Q,Q',h,hq=> hq _ h
  | .ret,e,st,Q,Q',h,hq=> hq _ h
  | .keep live c,e,st,Q,Q',h,hq=> codeC_mono (c:=c) h hq
theorem CallW.run {Pr:Prog}(fw:Nat→Bool){f:Nat}{fn:SFn}{args:List V}{st:St}{Q:V→St→Prop}(hf:Pr.fn f=some fn)(hn:args.length=fn.nparams)(h:codeC Pr fw fn.body (initE 0 args) (start fn st) (FinW fn st Q)):CallW Pr f args st Q:= .of_body hf hn (codeC_W h)
/-! ### Continuations as data -/
theorem nrfl {α:Sort _}{a b:α}(h:a=b):a=b:=h
inductive Fr where
  | seq (c:SCode)
  | blk (i:Nat)
def Ks (Pr:Prog)(fw:Nat→Bool):List Fr→(Out→Prop)→Out→Prop
  | [],Q,r=> Q r
  | .seq b::K,Q,r=> match r with
    | (.normal,e,st)=> codeC Pr fw b e st (Ks Pr fw K Q)
    | r=> Ks Pr fw K Q r
  | .blk i::K,Q,r=> InBlock i (Ks Pr fw K Q) r
def wC (Pr:Prog)(fw:Nat→Bool)(c:SCode)(e:Env)(st:St)(K:List Fr)(Q:Out→Prop):Prop:=codeC Pr fw c e st (Ks Pr fw K Q)
def kC (Pr:Prog)(fw:Nat→Bool)(K:List Fr)(Q:Out→Prop)(r:Out):Prop:=Ks Pr fw K Q r
section
variable {Pr:Prog}{fw:Nat→Bool}{e:Env}{st:St}{K:List Fr}{Q:Out→Prop}
@[simp] theorem wC_skip:wC Pr fw .skip e st K Q=kC Pr fw K Q (.normal,e,st):=nrfl rfl
@[simp] theorem wC_ret:wC Pr fw .ret e st K Q=kC Pr fw K Q (.ret,e,st):=nrfl rfl
@[simp] theorem wC_exit {i:Nat}:wC Pr fw (.exit i) e st K Q=kC Pr fw K Q (.exit i,e,st):=nrfl rfl
@[simp] theorem wC_keep {live:List Nat}{c:SCode}:wC Pr fw (.keep live c) e st K Q=wC Pr fw c (mask live e) st K Q:=nrfl rfl
@[simp] theorem wC_seq {a b:SCode}:wC Pr fw (.seq a b) e st K Q=wC Pr fw a e st (.seq b::K) Q:=nrfl rfl
@[simp] theorem wC_block {i:Nat}{c:SCode}:wC Pr fw (.block i c) e st K Q=wC Pr fw c e st (.blk i::K) Q:=nrfl rfl
@[simp] theorem wC_loop {live:List Nat}{tr:Bool}{c:SCode}:wC Pr fw (.loop live tr c) e st K Q=CodeW Pr (.loop live tr c) e st (kC Pr fw K Q):=nrfl rfl
def drawK (Pr:Prog)(fw:Nat→Bool)(K:List Fr)(Q:Out→Prop):Option (Env×St)→Prop
  | some (e',st')=> kC Pr fw K Q (.normal,e',st')
  | none=> False
@[simp] theorem drawK_some:drawK Pr fw K Q (some (e,st))=kC Pr fw K Q (.normal,e,st):=nrfl rfl
@[simp] theorem wC_drawn {ops:List SOper}{B:List Nat}:wC Pr fw (.region ops true B) e st K Q=if regW fw ops=true then CodeW Pr (.region ops true B) e st (kC Pr fw K Q) else drawK Pr fw K Q (opsS Pr (den Pr) ops ops e st):=by
  unfold wC
  simp only[codeC,if_true]
  rfl
def condC (Pr:Prog)(fw:Nat→Bool)(a b:SCode)(e:Env)(st:St)(K:List Fr)(Q:Out→Prop):Option V→Prop
  | some (.d (.b t))=> if t=true then wC Pr fw a e st K Q else wC Pr fw b e st K Q
  | _=> False
@[simp] theorem condC_t {a b:SCode}:condC Pr fw a b e st K Q (some (.d (.b true)))=wC Pr fw a e st K Q:=nrfl rfl
@[simp] theorem condC_f {a b:SCode}:condC Pr fw a b e st K Q (some (.d (.b false)))=wC Pr fw b e st K Q:=nrfl rfl
@[simp] theorem wC_cond {c:Opd}{a b:SCode}:wC Pr fw (.cond c a b) e st K Q=condC Pr fw a b e st K Q (c.ev Pr e):=by
  unfold wC
  simp only[codeC]
  unfold condC
  rfl
@[simp] theorem kC_nil {r:Out}:kC Pr fw [] Q r=Q r:=nrfl rfl
@[simp] theorem kC_seq {b:SCode}:kC Pr fw (.seq b::K) Q (.normal,e,st)=wC Pr fw b e st K Q:=nrfl rfl
@[simp] theorem kC_seq_ret {b:SCode}:kC Pr fw (.seq b::K) Q (.ret,e,st)=kC Pr fw K Q (.ret,e,st):=nrfl rfl
@[simp] theorem kC_seq_exit {b:SCode}{i:Nat}:kC Pr fw (.seq b::K) Q (.exit i,e,st)=kC Pr fw K Q (.exit i,e,st):=nrfl rfl
@[simp] theorem kC_blk {i:Nat}:kC Pr fw (.blk i::K) Q (.normal,e,st)=kC Pr fw K Q (.normal,e,st):=nrfl rfl
@[simp] theorem kC_blk_ret {i:Nat}:kC Pr fw (.blk i::K) Q (.ret,e,st)=kC Pr fw K Q (.ret,e,st):=nrfl rfl
@[simp] theorem kC_blk_exit {i j:Nat}:kC Pr fw (.blk i::K) Q (.exit j,e,st)=if j=i then kC Pr fw K Q (.normal,e,st) else kC Pr fw K Q (.exit j,e,st):=nrfl rfl
end
theorem codeC_of {Pr:Prog}{fw:Nat→Bool}{c:SCode}{e:Env}{st:St}{Q:Out→Prop}(h:wC Pr fw c e st [] Q):codeC Pr fw c e st Q:=h
/-! ### Operations, what follows as data -/
def opsD (Pr:Prog)(fw:Nat→Bool)(all l:List SOper)(e:Env)(st:St)(K:List Fr)(Q:Out→Prop):Prop:=opsC Pr fw all l e st fun e' st'=> kC Pr fw K Q (.normal,e',st')
def afterD (Pr:Prog)(fw:Nat→Bool)(all r:List SOper)(dst:Option Nat)(e:Env)(K:List Fr)(Q:Out→Prop)(v:V)(st:St):Prop:=opsD Pr fw all r (put e dst v) st K Q
def guardD (Pr:Prog)(fw:Nat→Bool)(all:List SOper)(o:SOper)(r:List SOper)(e:Env)(st:St)(K:List Fr)(Q:Out→Prop):Option Bool→Prop
  | some true=> opC Pr fw e st o.op (afterD Pr fw all r o.dst e K Q)
  | some false=> opsD Pr fw all r (put e o.dst .un) st K Q
  | none=> False
def resD (A:V→St→Prop):Option (V×St)→Prop
  | some (v,st)=> A v st
  | none=> False
def callD (Pr:Prog)(fw:Nat→Bool)(f:Nat)(st:St)(A:V→St→Prop):Option (List V)→Prop
  | some vs=> if fw f=true then CallW Pr f vs st A else resD A (den Pr f vs st)
  | none=> False
def appD (size bytes:Nat)(z:List D)(st:St)(A:V→St→Prop):Option V→Option V→Prop
  | some vs,some vx=> appW size bytes z st vs vx A
  | _,_=> False
section
variable {Pr:Prog}{fw:Nat→Bool}{all r:List SOper}{e:Env}{st:St}{K:List Fr}{Q:Out→Prop}{A:V→St→Prop}
@[simp] theorem opsD_nil:opsD Pr fw all [] e st K Q=kC Pr fw K Q (.normal,e,st):=nrfl rfl
@[simp] theorem opsD_cons {o:SOper}:opsD Pr fw all (o::r) e st K Q=guardD Pr fw all o r e st K Q (wants all e o.guard):=nrfl rfl
@[simp] theorem guardD_t {o:SOper}:guardD Pr fw all o r e st K Q (some true)=opC Pr fw e st o.op (afterD Pr fw all r o.dst e K Q):=nrfl rfl
@[simp] theorem guardD_f {o:SOper}:guardD Pr fw all o r e st K Q (some false)=opsD Pr fw all r (put e o.dst .un) st K Q:=nrfl rfl
@[simp] theorem afterD_eq {dst:Option Nat}{v:V}:afterD Pr fw all r dst e K Q v st=opsD Pr fw all r (put e dst v) st K Q:=nrfl rfl
@[simp] theorem resD_some {v:V}:resD A (some (v,st))=A v st:=nrfl rfl
@[simp] theorem callD_some {f:Nat}{vs:List V}:callD Pr fw f st A (some vs)=if fw f=true then CallW Pr f vs st A else resD A (den Pr f vs st):=nrfl rfl
@[simp] theorem appD_some {size bytes:Nat}{z:List D}{vs vx:V}:appD size bytes z st A (some vs) (some vx)=appW size bytes z st vs vx A:=nrfl rfl
@[simp] theorem wC_regionD {ops:List SOper}{B:List Nat}:wC Pr fw (.region ops false B) e st K Q=opsD Pr fw ops ops e st K Q:=nrfl rfl
theorem opC_callD {f:Nat}{args:List Opd}:opC Pr fw e st (.call f args) A=callD Pr fw f st A (evs Pr e args):=nrfl rfl
theorem opC_appD {size bytes:Nat}{z:List D}{s x:Opd}:opC Pr fw e st (.appR size bytes z s x) A=appD size bytes z st A (s.ev Pr e) (x.ev Pr e):=nrfl rfl
theorem opC_mov {x:Opd}:opC Pr fw e st (.mov x) A=resD A (opS Pr (den Pr) e st (.mov x)):=nrfl rfl
theorem opC_tok {size:Nat}{x:Opd}:opC Pr fw e st (.tok size x) A=resD A (opS Pr (den Pr) e st (.tok size x)):=nrfl rfl
theorem opC_pick {c a b:Opd}:opC Pr fw e st (.pick c a b) A=resD A (opS Pr (den Pr) e st (.pick c a b)):=nrfl rfl
theorem opC_bin {op:BinOp}{x y:Opd}:opC Pr fw e st (.bin op x y) A=resD A (opS Pr (den Pr) e st (.bin op x y)):=nrfl rfl
theorem opC_eqv {neg:Bool}{ks:List Nat}{x y:Opd}:opC Pr fw e st (.eqv neg ks x y) A=resD A (opS Pr (den Pr) e st (.eqv neg ks x y)):=nrfl rfl
theorem opC_un {op:UnOp}{x:Opd}:opC Pr fw e st (.un op x) A=resD A (opS Pr (den Pr) e st (.un op x)):=nrfl rfl
theorem opC_conv {k:IntKind}{x:Opd}:opC Pr fw e st (.conv k x) A=resD A (opS Pr (den Pr) e st (.conv k x)):=nrfl rfl
theorem opC_s2b {x:Opd}:opC Pr fw e st (.s2b x) A=resD A (opS Pr (den Pr) e st (.s2b x)):=nrfl rfl
theorem opC_b2s {x:Opd}:opC Pr fw e st (.b2s x) A=resD A (opS Pr (den Pr) e st (.b2s x)):=nrfl rfl
theorem opC_build {zero:List D}{parts:List (Nat×Nat×Opd)}:opC Pr fw e st (.build zero parts) A=resD A (opS Pr (den Pr) e st (.build zero parts)):=nrfl rfl
theorem opC_lits {n:Nat}{zero:List D}{parts:List (Nat×Nat×Opd)}:opC Pr fw e st (.lits n zero parts) A=resD A (opS Pr (den Pr) e st (.lits n zero parts)):=nrfl rfl
theorem opC_litsR {n:Nat}{zero:List D}{parts:List (Nat×Nat×Opd)}:opC Pr fw e st (.litsR n zero parts) A=resD A (opS Pr (den Pr) e st (.litsR n zero parts)):=nrfl rfl
theorem opC_litsO {n:Nat}{zero:List D}{parts:List (Nat×Nat×Opd)}:opC Pr fw e st (.litsO n zero parts) A=resD A (opS Pr (den Pr) e st (.litsO n zero parts)):=nrfl rfl
theorem opC_box {x:Opd}:opC Pr fw e st (.box x) A=resD A (opS Pr (den Pr) e st (.box x)):=nrfl rfl
theorem opC_boxI {x:Opd}:opC Pr fw e st (.boxI x) A=resD A (opS Pr (den Pr) e st (.boxI x)):=nrfl rfl
theorem opC_alloc {zero:List D}:opC Pr fw e st (.alloc zero) A=resD A (opS Pr (den Pr) e st (.alloc zero)):=nrfl rfl
theorem opC_load {size:Nat}{agg:Bool}{p:Opd}:opC Pr fw e st (.load size agg p) A=resD A (opS Pr (den Pr) e st (.load size agg p)):=nrfl rfl
theorem opC_storeX {size:Nat}{p x:Opd}{qs:List Nat}:opC Pr fw e st (.storeX size p x qs) A=resD A (opS Pr (den Pr) e st (.storeX size p x qs)):=nrfl rfl
theorem opC_store {size:Nat}{p x:Opd}:opC Pr fw e st (.store size p x) A=resD A (opS Pr (den Pr) e st (.store size p x)):=nrfl rfl
theorem opC_faddr {off:Nat}{p:Opd}:opC Pr fw e st (.faddr off p) A=resD A (opS Pr (den Pr) e st (.faddr off p)):=nrfl rfl
theorem opC_field {off size:Nat}{agg:Bool}{x:Opd}:opC Pr fw e st (.field off size agg x) A=resD A (opS Pr (den Pr) e st (.field off size agg x)):=nrfl rfl
theorem opC_iaddr {size:Nat}{x i:Opd}:opC Pr fw e st (.iaddr size x i) A=resD A (opS Pr (den Pr) e st (.iaddr size x i)):=nrfl rfl
theorem opC_iaddrA {len size:Nat}{p i:Opd}:opC Pr fw e st (.iaddrA len size p i) A=resD A (opS Pr (den Pr) e st (.iaddrA len size p i)):=nrfl rfl
theorem opC_idx {len size:Nat}{agg:Bool}{x i:Opd}:opC Pr fw e st (.idx len size agg x i) A=resD A (opS Pr (den Pr) e st (.idx len size agg x i)):=nrfl rfl
theorem opC_idxS {x i:Opd}:opC Pr fw e st (.idxS x i) A=resD A (opS Pr (den Pr) e st (.idxS x i)):=nrfl rfl
theorem opC_slc {size:Nat}{x:Opd}{lo hi mx:Option Opd}:opC Pr fw e st (.slc size x lo hi mx) A=resD A (opS Pr (den Pr) e st (.slc size x lo hi mx)):=nrfl rfl
theorem opC_slcS {x:Opd}{lo hi:Option Opd}:opC Pr fw e st (.slcS x lo hi) A=resD A (opS Pr (den Pr) e st (.slcS x lo hi)):=nrfl rfl
theorem opC_slcA {len size:Nat}{p:Opd}{lo hi mx:Option Opd}:opC Pr fw e st (.slcA len size p lo hi mx) A=resD A (opS Pr (den Pr) e st (.slcA len size p lo hi mx)):=nrfl rfl
theorem opC_mkR {bytes:Nat}{zero:List D}{len cap:Opd}:opC Pr fw e st (.mkR bytes zero len cap) A=resD A (opS Pr (den Pr) e st (.mkR bytes zero len cap)):=nrfl rfl
theorem opC_mkD {bytes:Nat}{zero:List D}{len cap:Opd}:opC Pr fw e st (.mkD bytes zero len cap) A=resD A (opS Pr (den Pr) e st (.mkD bytes zero len cap)):=nrfl rfl
theorem opC_mkO {bytes size:Nat}{zero:List D}{len cap:Opd}:opC Pr fw e st (.mkO bytes size zero len cap) A=resD A (opS Pr (den Pr) e st (.mkO bytes size zero len cap)):=nrfl rfl
theorem opC_len {str:Bool}{x:Opd}:opC Pr fw e st (.len str x) A=resD A (opS Pr (den Pr) e st (.len str x)):=nrfl rfl
theorem opC_lenA {n:Nat}:opC Pr fw e st (.lenA n) A=resD A (opS Pr (den Pr) e st (.lenA n)):=nrfl rfl
theorem opC_app {size bytes:Nat}{s x:Opd}:opC Pr fw e st (.app size bytes s x) A=resD A (opS Pr (den Pr) e st (.app size bytes s x)):=nrfl rfl
theorem opC_appZ {size bytes:Nat}{zero:List D}{s x:Opd}:opC Pr fw e st (.appZ size bytes zero s x) A=resD A (opS Pr (den Pr) e st (.appZ size bytes zero s x)):=nrfl rfl
theorem opC_cpy {size:Nat}{dst src:Opd}:opC Pr fw e st (.cpy size dst src) A=resD A (opS Pr (den Pr) e st (.cpy size dst src)):=nrfl rfl
theorem opC_clr {size:Nat}{zero:List D}{x:Opd}:opC Pr fw e st (.clr size zero x) A=resD A (opS Pr (den Pr) e st (.clr size zero x)):=nrfl rfl
theorem opC_mkMap {r:Option Opd}:opC Pr fw e st (.mkMap r) A=resD A (opS Pr (den Pr) e st (.mkMap r)):=nrfl rfl
theorem opC_lenM {m:Opd}:opC Pr fw e st (.lenM m) A=resD A (opS Pr (den Pr) e st (.lenM m)):=nrfl rfl
theorem opC_look {str ok:Bool}{zero:List D}{zagg:Bool}{m k:Opd}:opC Pr fw e st (.look str ok zero zagg m k) A=resD A (opS Pr (den Pr) e st (.look str ok zero zagg m k)):=nrfl rfl
theorem opC_mapSet {str:Bool}{m k x:Opd}:opC Pr fw e st (.mapSet str m k x) A=resD A (opS Pr (den Pr) e st (.mapSet str m k x)):=nrfl rfl
theorem opC_mkI {tag:Nat}{agg:Bool}{x:Opd}:opC Pr fw e st (.mkI tag agg x) A=resD A (opS Pr (den Pr) e st (.mkI tag agg x)):=nrfl rfl
theorem opC_assertT {tag:Nat}{others:List Nat}{ok:Bool}{zero:List D}{zagg:Bool}{x:Opd}:opC Pr fw e st (.assertT tag others ok zero zagg x) A=resD A (opS Pr (den Pr) e st (.assertT tag others ok zero zagg x)):=nrfl rfl
theorem opC_extract {i:Nat}{x:Opd}:opC Pr fw e st (.extract i x) A=resD A (opS Pr (den Pr) e st (.extract i x)):=nrfl rfl
theorem opC_nilChk {x:Opd}:opC Pr fw e st (.nilChk x) A=resD A (opS Pr (den Pr) e st (.nilChk x)):=nrfl rfl
theorem opC_invoke {table:List (Nat×Nat)}{recv:Opd}{args:List Opd}:opC Pr fw e st (.invoke table recv args) A=resD A (opS Pr (den Pr) e st (.invoke table recv args)):=nrfl rfl
theorem opC_mx {x y:Opd}:opC Pr fw e st (.mx x y) A=resD A (opS Pr (den Pr) e st (.mx x y)):=nrfl rfl
theorem opC_mn {x y:Opd}:opC Pr fw e st (.mn x y) A=resD A (opS Pr (den Pr) e st (.mn x y)):=nrfl rfl
theorem opC_mkFn {f:Nat}{caps:List Opd}:opC Pr fw e st (.mkFn f caps) A=resD A (opS Pr (den Pr) e st (.mkFn f caps)):=nrfl rfl
theorem opC_callC {fs:List Nat}{x:Opd}{args:List Opd}:opC Pr fw e st (.callC fs x args) A=resD A (opS Pr (den Pr) e st (.callC fs x args)):=nrfl rfl
attribute [simp] opC_mkFn opC_callC opC_callD opC_appD opC_mov opC_tok opC_pick opC_bin opC_eqv opC_un opC_conv opC_s2b opC_b2s opC_build opC_lits opC_litsR opC_litsO opC_box opC_boxI opC_alloc opC_load opC_store opC_storeX opC_faddr opC_field opC_iaddr opC_iaddrA opC_idx opC_idxS opC_slc opC_slcS opC_slcA opC_mkR opC_mkD opC_mkO opC_len opC_lenA opC_app opC_appZ opC_cpy opC_clr opC_mkMap opC_lenM opC_look opC_mapSet opC_mkI opC_assertT opC_extract opC_nilChk opC_invoke opC_mx opC_mn
end
/-! ### Regions whose order is drawn -/
def callE (Pr:Prog)(f:Nat)(st:St)(A:V→St→Prop):Option (List V)→Prop
  | some vs=> CallW Pr f vs st A
  | none=> False
def detG (Pr:Prog)(all:List SOper)(o:SOper)(r:List SOper)(e:Env)(st:St)(Q:Env→Prop):Option Bool→Prop
  | some true=> ∃ v,OpW Pr e st o.op (fun v' s'=> v'=v∧s'=st)∧DetW Pr all r (put e o.dst v) st Q
  | some false=> DetW Pr all r (put e o.dst .un) st Q
  | none=> False
section
variable {Pr:Prog}{fw:Nat→Bool}{all r:List SOper}{e:Env}{st:St}{K:List Fr}{Q:Out→Prop}{A:V→St→Prop}{R:Env→Prop}
@[simp] theorem callE_some {f:Nat}{vs:List V}:callE Pr f st A (some vs)=CallW Pr f vs st A:=nrfl rfl
@[simp] theorem OpW_callE {f:Nat}{args:List Opd}:OpW Pr e st (.call f args) A=callE Pr f st A (evs Pr e args):=nrfl rfl
@[simp] theorem detG_t {o:SOper}:detG Pr all o r e st R (some true)=∃ v,OpW Pr e st o.op (fun v' s'=> v'=v∧s'=st)∧DetW Pr all r (put e o.dst v) st R:=nrfl rfl
@[simp] theorem DetW_nil:DetW Pr all [] e st R=R e:=nrfl rfl
@[simp] theorem DetW_cons {o:SOper}:DetW Pr all (o::r) e st R=detG Pr all o r e st R (wants all e o.guard):=nrfl rfl
@[simp] theorem OpW_mov {x:Opd}:OpW Pr e st (.mov x) A=resD A (opS Pr (den Pr) e st (.mov x)):=nrfl rfl
@[simp] theorem OpW_bin {op:BinOp}{x y:Opd}:OpW Pr e st (.bin op x y) A=resD A (opS Pr (den Pr) e st (.bin op x y)):=nrfl rfl
@[simp] theorem OpW_lits {n:Nat}{zero:List D}{parts:List (Nat×Nat×Opd)}:OpW Pr e st (.lits n zero parts) A=resD A (opS Pr (den Pr) e st (.lits n zero parts)):=nrfl rfl
@[simp] theorem OpW_litsR {n:Nat}{zero:List D}{parts:List (Nat×Nat×Opd)}:OpW Pr e st (.litsR n zero parts) A=resD A (opS Pr (den Pr) e st (.litsR n zero parts)):=nrfl rfl
@[simp] theorem OpW_load {size:Nat}{agg:Bool}{p:Opd}:OpW Pr e st (.load size agg p) A=resD A (opS Pr (den Pr) e st (.load size agg p)):=nrfl rfl
@[simp] theorem OpW_faddr {off:Nat}{p:Opd}:OpW Pr e st (.faddr off p) A=resD A (opS Pr (den Pr) e st (.faddr off p)):=nrfl rfl
@[simp] theorem OpW_iaddr {size:Nat}{x i:Opd}:OpW Pr e st (.iaddr size x i) A=resD A (opS Pr (den Pr) e st (.iaddr size x i)):=nrfl rfl
@[simp] theorem OpW_nilChk {x:Opd}:OpW Pr e st (.nilChk x) A=resD A (opS Pr (den Pr) e st (.nilChk x)):=nrfl rfl
theorem drawn2 {ops:List SOper}{B:List Nat}(M:Nat)(lz:List Nat)(hs:sufOk ops B M lz=true)(hM:M≤ops.length)(h:DetW Pr ops (ops.take M) e st fun e'=> opsD Pr fw ops (ops.drop M) e' st K Q):CodeW Pr (.region ops true B) e st (kC Pr fw K Q):=by
  refine .drawn2 M lz hs hM ?_
  have key:∀ (l:List SOper) (e:Env),DetW Pr ops l e st (fun e'=> opsD Pr fw ops (ops.drop M) e' st K Q)→DetW Pr ops l e st fun e'=> OpsW Pr ops (ops.drop M) e' st fun e'' st''=> kC Pr fw K Q (.normal,e'',st''):=by
    intro l
    induction l with
    | nil=> intro e h;exact opsC_W h
    | cons o l ih=>
      intro e h
      simp only[DetW]at h ⊢
      split at h
      · obtain⟨v,h1,h2⟩:=h
        exact⟨v,h1,ih _ h2⟩
      · exact ih _ h
      · exact h.elim
  exact key _ _ h
end
/-! ### Loops -/
theorem loopW_j {Pr:Prog}(fw:Nat→Bool){live:List Nat}{tr:Bool}{c:SCode}{Q:Out→Prop}(J:Nat→Env→St→Prop)
    (h:∀ n e st,J n e st→wC Pr fw c e (enterR st tr) [] fun r=> JStep live n J Q (some (cutR st tr r))) {n:Nat} {e:Env} {st:St} (hJ:J n (mask live e) st):CodeW Pr (.loop live tr c) e st Q:=by
  refine .loop (fun n e st=> J n (mask live e) st) (fun n e st hJ=> codeC_W (fw:=fw) (codeC_mono (h n (mask live e) st hJ) fun r hr=> ?_)) hJ
  have hr:JStep live n J Q (some (cutR st tr r)):=hr
  generalize cutR st tr r=r' at hr
  obtain⟨x,e',s'⟩:=r'
  cases x <;> exact hr
end Go.Sh
namespace Go.Sh
open Go.RowKit
def D.flat:D→Bool
  | .i _ _ | .b _ | .s _ | .np | .nm | .ni | .nf | .any=> true
  | .sl n nz cs=> decide (n=0) && !nz && cs.isEmpty
  | _=> false
theorem D.flat_rep {L:Link}{I J:Imm}{d:D}{v:Value}(hd:d.flat=true)(h:RepD L I d v):RepD L J d v:=by
  cases d <;> simp only[RepD]at h ⊢ <;> first | exact h | skip
  · simp only[D.flat,Bool.and_eq_true,List.isEmpty_iff]at hd
    obtain⟨_,rfl⟩:=hd
    obtain⟨A,cap,h1,h2,h3,h4,h5⟩:=h
    exact⟨A,cap,h1,h2,h3,h4,.inl rfl⟩
  · simp[D.flat]at hd
def pushO (st:St):Option Blk→St
  | none=> st
  | some b=> st.push b
def FreshV (s:St)(h:Nat):V→(V→Option Blk→Prop)→Prop
  | .own sz n true cs t,Q=> s.tips[t]? =some n∧cs.all D.flat=true∧cs.length=n * sz∧(Q (.d (.sl n true cs)) none∨∀ k,Q (.rsl sz h 0 n (n+k)) (some (.row (ofDs cs++List.replicate (k * sz) (.d .any)))))
  | .own sz n false cs t,Q=> n=0∧cs= []∧Q (.d (.sl 0 false [])) none
  | .d d,Q=> d.flat=true∧Q (.d d) none
  | _,_=> False
def V.flat:V→Bool
  | .d x=> D.flat x
  | _=> false
def FreshL (s:St)(h:Nat):List V→(List V→Option Blk→Prop)→Prop
  | [],Q=> Q [] none
  | x::xs,Q=> FreshV s h x fun y b=> match b with
    | some b=> xs.all V.flat=true∧Q (y::xs) (some b)
    | none=> FreshL s h xs fun ys b=> (b.isSome=true→y.flat=true)∧Q (y::ys) b
def FreshR (s st:St):V→(V→St→Prop)→Prop
  | .tup xs,Q=> FreshL s st.heap.length xs fun ys b=> Q (.tup ys) (pushO st b)
  | x,Q=> FreshV s st.heap.length x fun y b=> Q y (pushO st b)
section
variable {Pr:Prog}{κ κ':K}{st s:St}
theorem Inv.adopt (hi:Inv Pr κ st)(hL:κ'.L=κ.L)(hw0:κ'.w0=κ.w)(hi':Inv Pr κ' s){g:Nat}{arr:Array Value}{e:TypeId}(hg:κ.w.heap.size≤g)(hc:κ'.w.heap[g]? =some (.cells arr e (0,0))){cs:List V}(ha:∀ κ2:K,κ2.L=κ.L→All2 (RepC κ2) cs arr.toList):
    ∃ κ2:K,κ2.w=κ'.w∧κ.le κ2∧Inv Pr κ2 (st.push (.row cs))∧κ2.ρ[st.heap.length]? =some g:=by
  have hb:Below κ.w.heap.size κ.w κ'.w:=by
    have:=hi'.below
    rw[hw0]at this
    exact this
  have hgr:κ.w.grownBy κ'.w none:=⟨hb.os,hb.tape,hb.output,hb.size,fun k hk _=> hb.block k hk⟩
  have hold:∀ k,k < κ.w.heap.size→κ'.w.heap[k]? =κ.w.heap[k]? :=fun k h=> hb.block k h
  have hglt:g < κ'.w.heap.size:=(Array.getElem?_eq_some_iff.1 hc).1
  let κ2:K:={κ with w:=κ'.w,wr:=fun b o=> κ.wr b o∨b=g,ρ:=κ.ρ++ [g]}
  have hle:κ.le κ2:=by
    refine⟨rfl,rfl,fun b o x h=> ?_,fun i b h=> ?_,fun _ tok h=> ⟨tok,h,rfl,Nat.le_refl _,fun _=> rfl⟩,fun _ _ _ h=> .inl h⟩
    · have hlt:=lt_of_cell h.1
      exact⟨(cell_block (hold b hlt)).trans h.1,fun hw=> hw.elim h.2 (fun e=> by omega)⟩
    · show(κ.ρ++ [_])[i]? =_
      rw[List.getElem?_append_left (List.getElem?_eq_some_iff.1 h).1]
      exact h
  have get2:∀ {i b:Nat},κ2.ρ[i]? =some b→(i < κ.ρ.length∧κ.ρ[i]? =some b)∨(i=κ.ρ.length∧b=g):=by
    intro i b h
    have h:(κ.ρ++ [g])[i]? =some b:=h
    rw[List.getElem?_append]at h
    split at h
    · exact .inl ⟨by assumption,h⟩
    · rename_i hge
      have:=(List.getElem?_eq_some_iff.1 h).1
      simp at this
      have he:i=κ.ρ.length:=by omega
      subst he
      simp at h
      exact .inr ⟨rfl,h.symm⟩
  have hlast:κ2.ρ[st.heap.length]? =some g:=by
    show(κ.ρ++ [g])[_]? =_
    rw[← hi.len]
    simp
  refine⟨κ2,rfl,hle,⟨hi.below.grown hgr hi.below.size (by simp),?_,hi.tips,?_,?_,?_,?_,?_,hi.tdis,?_,fun n c h=> RepL.mono hle.imm _ _ _ (hi.globs n c h),hi.wok⟩,hlast⟩
  · show(κ.ρ++ [_]).length=(st.heap++ [_]).length
    simp[hi.len]
  · intro i j c h1 h2
    rcases get2 h1 with⟨_,h1⟩ | ⟨h1,h1'⟩ <;> rcases get2 h2 with⟨_,h2⟩ | ⟨h2,h2'⟩
    · exact hi.nd i j c h1 h2
    · have:=(hi.ρb _ _ h1).2;omega
    · have:=(hi.ρb _ _ h2).2;omega
    · omega
  · intro i c h
    show _≤_∧_ < κ'.w.heap.size
    have h0:=hi.below.size
    rcases get2 h with⟨_,h⟩ | ⟨_,h⟩
    · have:=hi.ρb _ _ h;exact⟨this.1,Nat.lt_of_lt_of_le this.2 hb.size⟩
    · subst h;exact⟨Nat.le_trans h0 hg,hglt⟩
  · intro id cs' h
    rw[row_push]at h
    split at h
    · rename_i he
      simp only[Option.some.injEq]at h
      subst h
      refine⟨g,arr,e,?_,hc,ha κ2 rfl,fun _=> .inr rfl⟩
      rw[he]
      exact hlast
    · obtain⟨c,arr',e',h1,h2,h3,h4⟩:=hi.rows id cs' h
      exact⟨c,arr',e',hle.ρ _ _ h1,(hold c (hi.ρb _ _ h1).2).trans h2,h3.mono fun _ _=> RepC.mono hle,fun o=> .inl (h4 o)⟩
  · intro id es h
    rw[mapOf_push]at h
    split at h
    · cases h
    · obtain⟨c,arr',clk,h1,h2,h3,hst⟩:=hi.maps id es h
      exact⟨c,arr',clk,hle.ρ _ _ h1,(hold c (hi.ρb _ _ h1).2).trans h2,h3.mono fun _ _=> RepE.mono hle,hst⟩
  · intro t tok h
    obtain⟨⟨xs,h1⟩,h2⟩:=hi.toks t tok h
    refine⟨⟨xs,h1.kept hgr (by cases tok.v.ownBlock <;> simp)⟩,fun g' hg'=> ⟨fun i hh=> ?_,fun o' ho=> .inl ((h2 g' hg').2 o' ho)⟩⟩
    rcases get2 hh with⟨_,hh⟩ | ⟨_,hh⟩
    · exact(h2 g' hg').1 i hh
    · have:=(own_lt' h1.1 hg').2;omega
  · intro c o' h
    show c < κ'.w.heap.size
    rcases h with h | h
    · exact Nat.lt_of_lt_of_le (hi.muts c o' h) hb.size
    · omega
theorem flats_rep:∀ {cs:List D} {l:List Value} {κ κ2:K},κ2.L=κ.L→cs.all D.flat=true→All2 (RepD κ.L κ.imm) cs l→All2 (RepC κ2) (ofDs cs) l
  | [],_,_,_,_,_,h=> by cases h;exact .nil
  | c::cs,_,κ,κ2,hL,hf,h=> by
    cases h with
    | cons h1 h2=>
      simp only[List.all_cons,Bool.and_eq_true]at hf
      refine .cons ?_ (flats_rep hL hf.2 h2)
      show RepD κ2.L κ2.imm c _
      rw[hL]
      exact D.flat_rep hf.1 h1
theorem one_any {κ:K}:∀ {l:List Value},(∀ x∈l,x.oneCell'=true)→All2 (RepC κ) (List.replicate l.length (.d .any)) l
  | [],_=> .nil
  | x::l,h=> by
    rw[List.length_cons,List.replicate_succ]
    refine .cons ?_ (one_any fun y hy=> h y (List.mem_cons_of_mem _ hy))
    have:=h x List.mem_cons_self
    show RepD κ.L κ.imm .any x
    simp only[RepD]
    exact⟨by cases x <;> first | rfl | simp[Value.oneCell']at this,this⟩
theorem vflat_rep {κ κ2:K}(hL:κ2.L=κ.L){x:V}{v:Value}(hx:x.flat=true)(h:Rep1 κ x v):Rep1 κ2 x v:=by
  cases x with
  | d d=>
    have h:RepD κ.L κ.imm d v:=h
    show RepD κ2.L κ2.imm d v
    rw[hL]
    exact D.flat_rep hx h
  | _=> simp[V.flat]at hx
theorem vflats_rep {κ κ2:K}(hL:κ2.L=κ.L):∀ {xs:List V} {l:List Value},xs.all V.flat=true→All2 (Rep1 κ) xs l→All2 (Rep1 κ2) xs l
  | [],_,_,h=> by cases h;exact .nil
  | x::xs,_,hf,h=> by
    cases h with
    | cons h1 h2=>
      simp only[List.all_cons,Bool.and_eq_true]at hf
      exact .cons (vflat_rep hL hf.1 h1) (vflats_rep hL hf.2 h2)
theorem freshV_sound (hi:Inv Pr κ st)(hL:κ'.L=κ.L)(hw0:κ'.w0=κ.w)(hi':Inv Pr κ' s){x:V}{v:Value}{Q:V→Option Blk→Prop}(hr:Rep1 κ' x v)(h:FreshV s st.heap.length x Q):
    ∃ y b,Q y b∧((b=none∧∀ κ2:K,κ2.L=κ.L→κ2.w=κ'.w→(∀ b o,κ2.wr b o→b < κ.w.heap.size)→RepC κ2 y v)∨∃ b',b=some b'∧∃ κ2:K,κ2.w=κ'.w∧κ.le κ2∧Inv Pr κ2 (st.push b')∧RepC κ2 y v):=by
  cases x with
  | d d=>
    have hr:RepD κ'.L κ'.imm d v:=hr
    refine⟨_,_,h.2,.inl ⟨rfl,fun κ2 h2 _ _=> ?_⟩⟩
    show RepD κ2.L κ2.imm d v
    rw[h2,← hL]
    exact D.flat_rep h.1 hr
  | own sz n nz cs t=>
    have hr:RepC κ' (.own sz n nz cs t) v:=hr
    obtain⟨hd,tok,htok,hsz,hn,hcur⟩:=hr
    cases nz with
    | false=>
      obtain⟨rfl,rfl,hQ⟩:=h
      refine⟨_,_,hQ,.inl ⟨rfl,fun κ2 h2 _ _=> ?_⟩⟩
      show RepD κ2.L κ2.imm _ v
      rw[h2,← hL]
      exact D.flat_rep rfl hd
    | true=>
      obtain⟨htip,hfl,hcl,hQ⟩:=h
      have htn:tok.n=n:=by
        rw[hi'.tips,List.getElem?_map,htok]at htip
        simpa using htip
      subst htn
      obtain rfl:=hcur rfl
      subst hsz
      obtain⟨⟨xs,hown,hone⟩,htk⟩:=hi'.toks t tok htok
      have hd':=hd
      simp only[RepD]at hd'
      obtain⟨A,cap0,hv,hcap0,hA,_,hcs⟩:=hd'
      rcases hown.2 with⟨hnil,_⟩ | ⟨g,cap,cur,hv2,hbase,hg,hnc,hcm,hcsz,htake⟩
      · rw[hnil]at hv
        simp only[Value.slice.injEq]at hv
        rw[← hv.1]at hA
        simp at hA
      · rw[hw0]at hbase
        have hob:tok.v.ownBlock=some g:=by rw[hv2];rfl
        have hones:=hone g cur tok.e (0,0) hob hg
        -- the cells that are known
        have hknown:All2 (RepD κ'.L κ'.imm) cs (cur.toList.take (tok.n * tok.size)):=by
          rcases hcs with rfl | ⟨b,o,hAe,hl⟩
          · simp only[List.length_nil]at hcl
            rw[← hcl,List.take_zero]
            exact .nil
          · rw[hv2]at hv
            simp only[Value.slice.injEq]at hv
            rw[hAe]at hv
            simp only[Option.some.injEq,Addr.mk.injEq]at hv
            obtain⟨⟨rfl,rfl,_⟩,_⟩:=hv
            have hlen:cs.length≤cur.size:=by
              have:tok.n * tok.size≤cap * tok.size:=Nat.mul_le_mul_right _ hnc
              omega
            refine All2.of_get (by simp;omega) fun j c y' hj hy'=> ?_
            obtain⟨y,hy,hyr⟩:=hl.get hj
            have hjl:=(List.getElem?_eq_some_iff.1 hj).1
            rw[List.getElem?_take,if_pos (by omega),Array.getElem?_toList]at hy'
            have:=hy.1
            rw[cell_of_row κ'.w g (0+j) cur tok.e (0,0) hg,Nat.zero_add,hy']at this
            rw[Option.some.inj this]
            exact hyr
        rcases hQ with hQ | hQ
        · -- as data
          refine⟨_,_,hQ,.inl ⟨rfl,fun κ2 h2 h3 h4=> ?_⟩⟩
          show RepD κ2.L κ2.imm _ _
          simp only[RepD]
          refine⟨_,cap,hv2,hnc,rfl,by simp,.inr ⟨g,0,rfl,RepL.of fun j c hj=> ?_⟩⟩
          obtain⟨y,hy,hyr⟩:=hknown.get hj
          have hjl:=(List.getElem?_eq_some_iff.1 hj).1
          rw[List.getElem?_take,if_pos (by omega),Array.getElem?_toList]at hy
          refine⟨y,⟨?_,fun hw=> by have:=h4 _ _ hw;omega⟩,?_⟩
          · rw[h3,cell_of_row κ'.w g (0+j) cur tok.e (0,0) hg,Nat.zero_add]
            exact hy
          · rw[h2,← hL]
            exact D.flat_rep (List.all_eq_true.1 hfl _ (List.mem_of_getElem? hj)) hyr
        obtain⟨k,hk⟩:∃ k,cap=tok.n+k:=⟨cap - tok.n,by omega⟩
        subst hk
        have hdrop:(cur.toList.drop (tok.n * tok.size)).length=k * tok.size:=by
          rw[List.length_drop,Array.length_toList,hcsz,Nat.add_mul]
          omega
        have hrow:∀ κ2:K,κ2.L=κ.L→All2 (RepC κ2) (ofDs cs++List.replicate (k * tok.size) (.d .any)) cur.toList:=fun κ2 h2=> by
          have q1:=flats_rep (κ:=κ') (κ2:=κ2) (h2.trans hL.symm) hfl hknown
          have q2:=one_any (κ:=κ2) (l:=cur.toList.drop (tok.n * tok.size)) fun x hx=> hones x (List.mem_of_mem_drop hx)
          rw[hdrop]at q2
          have:=q1.append q2
          rwa [List.take_append_drop]at this
        obtain⟨κ2,a1,a2,a3,a4⟩:=hi.adopt hL hw0 hi' (g:=g) hbase hg hrow
        refine⟨_,_,hQ k,.inr ⟨_,rfl,κ2,a1,a2,a3,g,0,a4,hv2,by omega,.inr rfl⟩⟩
  | _=> exact h.elim
theorem freshL_sound (hi:Inv Pr κ st)(hL:κ'.L=κ.L)(hw0:κ'.w0=κ.w)(hi':Inv Pr κ' s):∀ {xs:List V} {l:List Value} {Q:List V→Option Blk→Prop},All2 (Rep1 κ') xs l→FreshL s st.heap.length xs Q→
    ∃ κ2 ys b,κ2.w=κ'.w∧κ.le κ2∧Inv Pr κ2 (pushO st b)∧All2 (Rep1 κ2) ys l∧(b=none→∀ b o,κ2.wr b o→b < κ.w.heap.size)∧Q ys b
  | [],_,Q,hr,h=> by
    cases hr
    have hb:Below κ.w.heap.size κ.w κ'.w:=by
      have:=hi'.below
      rw[hw0]at this
      exact this
    obtain⟨g1,g2⟩:=hi.grow (w':=κ'.w) ⟨hb.os,hb.tape,hb.output,hb.size,fun k hk _=> hb.block k hk⟩
    exact⟨κ.to κ'.w,[],none,rfl,g1,g2,.nil,fun _ b o h=> hi.muts b o h,h⟩
  | x::xs,_,Q,hr,h=> by
    cases hr with
    | cons h1 h2=>
      obtain⟨y,b,hq,⟨rfl,hy⟩ | ⟨b',rfl,κ2,a1,a2,a3,a4⟩⟩:=freshV_sound hi hL hw0 hi' h1 h
      · obtain⟨κ2,ys,b,c1,c2,c3,c4,c6,c7,c5⟩:=freshL_sound hi hL hw0 hi' h2 hq
        refine⟨κ2,_,b,c1,c2,c3,.cons ?_ c4,c6,c5⟩
        cases b with
        | none=> exact Rep1.ofC (hy κ2 c2.L c1 (c6 rfl))
        | some b=> exact vflat_rep (κ:=κ.to κ'.w) c2.L (c7 rfl) (Rep1.ofC (hy (κ.to κ'.w) rfl rfl fun b o h=> hi.muts b o h))
      · obtain⟨hfl,hq⟩:=hq
        exact⟨κ2,_,some b',a1,a2,a3,.cons (Rep1.ofC a4) (vflats_rep (a2.L.trans hL.symm) hfl h2),(by simp),hq⟩
theorem freshR_sound (hi:Inv Pr κ st)(hL:κ'.L=κ.L)(hw0:κ'.w0=κ.w)(hi':Inv Pr κ' s){x:V}{v:Value}{Q:V→St→Prop}(hr:Rep κ' x v)(h:FreshR s st x Q):
    ∃ κ2 y st2,κ2.w=κ'.w∧κ.le κ2∧Inv Pr κ2 st2∧Rep κ2 y v∧Fl st st2∧Q y st2:=by
  have hfl:∀ b,Fl st (pushO st b):=fun b=> by
    cases b with
    | none=> exact Fl.refl _
    | some b=> exact Fl.push _ _
  have one:∀ {x:V},Rep1 κ' x v→(FreshV s st.heap.length x fun y b=> Q y (pushO st b))→∃ κ2 y st2,κ2.w=κ'.w∧κ.le κ2∧Inv Pr κ2 st2∧Rep κ2 y v∧Fl st st2∧Q y st2:=by
    intro x hr h
    obtain⟨κ2,ys,b,c1,c2,c3,c4,_,c5⟩:=freshL_sound hi hL hw0 hi' (xs:= [x]) (l:= [v]) (Q:=fun ys b=> ∃ y,ys= [y]∧Q y (pushO st b)) (.cons hr .nil) (by
      unfold FreshL
      refine(?_:FreshV _ _ _ _)
      revert h
      cases x with
      | own sz n nz cs t=>
        cases nz with
        | true=> exact fun⟨a,b,c,d⟩=> ⟨a,b,c,d.imp (fun c=> ⟨by simp,_,rfl,c⟩) fun d k=> ⟨rfl,_,rfl,d k⟩⟩
        | false=> exact fun⟨a,b,c⟩=> ⟨a,b,by simp,_,rfl,c⟩
      | d d=> exact fun⟨a,b⟩=> ⟨a,by simp,_,rfl,b⟩
      | _=> exact fun h=> h.elim)
    obtain⟨y,rfl,hq⟩:=c5
    cases c4 with
    | cons c4 _=> exact⟨κ2,y,_,c1,c2,c3,Rep.of1 c4,hfl b,hq⟩
  cases x with
  | tup xs=>
    obtain⟨l,rfl,hl⟩:=hr
    obtain⟨κ2,ys,b,c1,c2,c3,c4,_,c5⟩:=freshL_sound hi hL hw0 hi' hl h
    exact⟨κ2,.tup ys,_,c1,c2,c3,⟨l,rfl,c4⟩,hfl b,c5⟩
  | d d=> exact one (Rep.to1 hr (by simp)) h
  | own sz n nz cs t=> exact one (Rep.to1 hr (by simp)) h
  | _=> exact h.elim
end
def RawW (fn:SFn)(R:V→St→Prop)(r:Out):Prop:=match r with
  | (.exit _,_,_)=> False
  | (_,e,s)=> ∃ v,resV e s fn.results=some v∧R v s
theorem CallW.raw {Pr:Prog}{f:Nat}{fn:SFn}{as:List V}{R:V→St→Prop}(hf:Pr.fn f=some fn)(hn:as.length=fn.nparams)(h:CodeW Pr fn.body (initE 0 as) (s0 [] [] 0 0) (RawW fn R)):CallW Pr f as st0 R:=by
  intro P L ht κ vals hL hi ha
  obtain⟨gf,h1,h2⟩:=ht.t.fn f fn hf
  unfold okFn at h2
  split at h2
  case h_2=> cases h2
  rename_i c hc
  simp only[Bool.and_eq_true,decide_eq_true_eq]at h2
  obtain⟨⟨b1,b2⟩,b3⟩:=h2
  refine calls_of_wp h1 hc ?_
  have hlen:=ha.length
  refine h P L ht gf.ntmps c b1 κ _ _ hL hi ?_ ?_ ?_
  · intro i v hv
    obtain⟨_,hv⟩:=initE_get hv
    simp only[Nat.sub_zero]at hv
    obtain⟨y,hy,hrep⟩:=ha.get hv
    have hlt:=(List.getElem?_eq_some_iff.1 hy).1
    refine⟨by simp;omega,?_⟩
    rw[Array.getD_eq_getD_getElem?,Array.getElem?_append_left (by simpa using hlt)]
    simpa[hy]using hrep
  · simp;omega
  · rintro⟨x,e1,s1⟩ κ' a' hq hfl' k1 k2 k3 k4 k5
    have main:∀ v,resV e1 s1 fn.results=some v→R v s1→∃ u,(results gf a'.tmps).run P κ'.w= .ok u κ'.w∧Ends Pr κ st0 R (.returned u) κ'.w:=by
      intro v hv hres
      obtain⟨u,g1,g2⟩:=results_sound k2 k3 b2 hv
      exact⟨u,g1,κ',u,v,s1,rfl,rfl,k1,k2,g2,hfl',hres⟩
    cases x with
    | exit i=> exact hq.elim
    | normal=>
      obtain⟨v,hv,hq⟩:=hq
      obtain⟨u,m1,m2⟩:=main v hv hq
      exact⟨k5,u,m1,m2⟩
    | ret=>
      obtain⟨v,hv,hq⟩:=hq
      obtain⟨u,m1,m2⟩:=main v hv hq
      exact⟨k5,u,m1,m2⟩
/-! ### Arguments that lie in rows, seen as data -/
def seeL (f:V→Option D):List V→Option (List D)
  | []=> some []
  | x::xs=> match f x,seeL f xs with
    | some d,some ds=> some (d::ds)
    | _,_=> none
def seeD (st:St):Nat→V→Option D
  | _,.d x=> some x
  | _,.own _ n nz cs _=> some (.sl n nz cs)
  | k+1,.rsl sz id off n _=> match st.row id with
    | some cs=> if off+n * sz≤cs.length then(seeL (seeD st k) ((cs.drop off).take (n * sz))).map fun ds=> .sl n true ds else none
    | none=> none
  | _,_=> none
def see1 (st:St)(k:Nat):V→Option V
  | .ep cs=> some (.ep cs)
  | .agg cs=> (seeL (seeD st k) cs).map fun ds=> .agg (ofDs ds)
  | x=> (seeD st k x).map .d
def seeA (st:St)(k:Nat):List V→Option (List V)
  | []=> some []
  | x::xs=> match see1 st k x,seeA st k xs with
    | some y,some ys=> some (y::ys)
    | _,_=> none
def K.seen (κ:K):K:={L:=κ.L,w0:=κ.w,w:=κ.w,wr:=fun _ _=> False,ρ:= [],tk:= []}
section
variable {Pr:Prog}{κ:K}{st:St}
theorem K.seen_imm {b o:Nat}{x:Value}(h:κ.imm b o x):κ.seen.imm b o x:=⟨h.1,fun h=> h⟩
theorem Inv.seen (hi:Inv Pr κ st):Inv Pr κ.seen st0:=
  ⟨Below.refl _ _,rfl,rfl,fun i j b h=> by simp[K.seen]at h,fun i b h=> by simp[K.seen]at h,fun id cs h=> by simp[St.row,st0]at h,fun id cs h=> by simp[St.mapOf,st0]at h,fun t tok h=> by simp[K.seen]at h,
    fun t t' tok tok' g h=> by simp[K.seen]at h,fun b o h=> h.elim,fun n c h=> RepL.mono (fun _ _ _=> K.seen_imm) _ _ _ (hi.globs n c h),hi.wok'⟩
theorem seeL_rep {f:V→Option D}(hf:∀ x d v,f x=some d→RepC κ x v→RepD κ.L κ.seen.imm d v):∀ {xs:List V} {ds:List D} {l:List Value},seeL f xs=some ds→All2 (RepC κ) xs l→All2 (RepD κ.L κ.seen.imm) ds l
  | [],ds,l,h,ha=> by
    simp only[seeL,Option.some.injEq]at h
    subst h
    cases ha
    exact .nil
  | x::xs,ds,l,h,ha=> by
    simp only[seeL]at h
    split at h
    · rename_i d ds' h1 h2
      simp only[Option.some.injEq]at h
      subst h
      cases ha with
      | cons a1 a2=> exact .cons (hf _ _ _ h1 a1) (seeL_rep hf h2 a2)
    · cases h
theorem seeD_rep (hi:Inv Pr κ st):∀ (k:Nat) (x:V) (d:D) (v:Value),seeD st k x=some d→RepC κ x v→RepD κ.L κ.seen.imm d v:=by
  have hd:∀ (x d:D) (v:Value),some x=some d→RepC κ (.d x) v→RepD κ.L κ.seen.imm d v:=by
    intro x d v h hr
    simp only[Option.some.injEq]at h
    subst h
    have hr:RepD κ.L κ.imm x v:=hr
    exact RepD.mono (fun _ _ _=> K.seen_imm) _ _ hr
  have ho:∀ (sz n:Nat) (nz:Bool) (cs:List D) (t:Nat) (d:D) (v:Value),some (D.sl n nz cs)=some d→RepC κ (.own sz n nz cs t) v→RepD κ.L κ.seen.imm d v:=by
    intro sz n nz cs t d v h hr
    simp only[Option.some.injEq]at h
    subst h
    exact RepD.mono (fun _ _ _=> K.seen_imm) _ _ hr.1
  intro k
  induction k with
  | zero=>
    intro x d v h hr
    cases x with
    | d y=> exact hd y d v h hr
    | own sz n nz cs t=> exact ho sz n nz cs t d v h hr
    | _=> simp[seeD]at h
  | succ k ih=>
    intro x d v h hr
    cases x with
    | d y=> exact hd y d v h hr
    | own sz n nz cs t=> exact ho sz n nz cs t d v h hr
    | rsl sz id off n cap=>
      simp only[seeD]at h
      split at h
      case h_2=> cases h
      rename_i cs hrow
      split at h
      case isFalse=> cases h
      rename_i hfit
      simp only[Option.map_eq_some_iff]at h
      obtain⟨ds,hds,rfl⟩:=h
      obtain⟨b,o,h1,rfl,hcap,ho⟩:=hr
      obtain⟨b',arr,e,h2,h3,h4,h5⟩:=hi.rows id cs hrow
      obtain rfl:b=b':=by rw[h1]at h2;exact Option.some.inj h2
      have ha:=seeL_rep ih hds ((h4.drop off).take (n * sz))
      simp only[RepD]
      refine⟨some ⟨b,o,none⟩,cap,rfl,hcap,rfl,(by simp),?_⟩
      rcases ho with rfl | rfl
      · left
        have hn:n=0:=by omega
        subst hn
        simp only[Nat.zero_mul,List.take_zero,seeL,Option.some.injEq]at hds
        exact hds.symm
      · right
        refine⟨b,o,rfl,RepL.of fun j c hj=> ?_⟩
        obtain⟨y,hy,hyr⟩:=ha.get hj
        refine⟨y,⟨?_,fun h=> h⟩,hyr⟩
        obtain⟨_,hy⟩:=take_get hy
        rw[List.getElem?_drop,Array.getElem?_toList]at hy
        show κ.w.cell? ⟨b,o+j,none⟩=some y
        rw[cell_of_row κ.w b (o+j) arr e (0,0) h3]
        exact hy
    | _=> simp[seeD]at h
theorem see1_rep (hi:Inv Pr κ st){k:Nat}{x y:V}{v:Value}(h:see1 st k x=some y)(hr:Rep κ x v):Rep κ.seen y v:=by
  have hL:κ.seen.L=κ.L:=rfl
  have one:∀ {x:V},(seeD st k x).map V.d=some y→RepC κ x v→Rep κ.seen y v:=by
    intro x h hr
    simp only[Option.map_eq_some_iff]at h
    obtain⟨d,h1,rfl⟩:=h
    exact Rep.of1 (Rep1.ofC (x:= .d d) (seeD_rep hi k x d v h1 hr))
  cases x with
  | ep cs=>
    simp only[see1,Option.some.injEq]at h
    subst h
    obtain⟨A,h1,h2⟩:=hr
    exact⟨A,h1,h2.imp id fun⟨b,o,h3,h4⟩=> ⟨b,o,h3,RepL.mono (fun _ _ _=> K.seen_imm) _ _ _ h4⟩⟩
  | agg cs=>
    simp only[see1,Option.map_eq_some_iff]at h
    obtain⟨ds,h1,rfl⟩:=h
    obtain⟨l,rfl,h2⟩:=hr
    refine⟨l,rfl,all2_ofDs (κ:=κ.seen) ?_⟩
    exact seeL_rep (fun x d v=> seeD_rep hi k x d v) h1 h2
  | d d=> exact one h hr
  | own sz n nz cs t=> exact one h hr
  | rsl sz id off n cap=> exact one h hr
  | ptr=> simp[see1,seeD]at h
  | map=> simp[see1,seeD]at h
  | fn=> simp[see1,seeD]at h
  | tup=> simp[see1,seeD]at h
  | un=> simp[see1,seeD]at h
theorem seeA_rep (hi:Inv Pr κ st){k:Nat}:∀ {xs ys:List V} {vs:List Value},seeA st k xs=some ys→All2 (Rep κ) xs vs→All2 (Rep κ.seen) ys vs
  | [],ys,vs,h,hr=> by
    simp only[seeA,Option.some.injEq]at h
    subst h
    cases hr
    exact .nil
  | x::xs,ys,vs,h,hr=> by
    simp only[seeA]at h
    split at h
    · rename_i y ys' h1 h2
      simp only[Option.some.injEq]at h
      subst h
      cases hr with
      | cons a1 a2=> exact .cons (see1_rep hi h1 a1) (seeA_rep hi h2 a2)
    · cases h
end
theorem CallW.seen {Pr:Prog}{f:Nat}{args as:List V}{st:St}{Q:V→St→Prop}{k:Nat}(hc:seeA st k args=some as)(h:CallW Pr f as st0 fun v s=> FreshR s st v Q):CallW Pr f args st Q:=by
  intro P L ht κ vals hL hi ha
  have hb:=seeA_rep hi hc ha
  refine(h P L ht κ.seen vals hL hi.seen hb).mono ?_
  rintro e w' ⟨κ',v,r,s,rfl,rfl,h1,h2,h3,h4,hQ⟩
  obtain⟨κ2,y,st2,c1,c2,c3,c4,c5,c6⟩:=freshR_sound hi h1.L h1.w0 h2 h3 hQ
  exact⟨κ2,v,y,st2,c1,rfl,c2,c3,c4,c5,c6⟩
/-! ### Functional runs, before their answers are seen as data -/
def RawD (Pr:Prog)(fn:SFn)(as:List V)(R:V→St→Prop):Prop:=match cden Pr fn.body (initE 0 as) (s0 [] [] 0 0) with
  | some r=> RawW fn R r
  | none=> False
theorem RawD.callW {Pr:Prog}{f:Nat}{fn:SFn}{as:List V}{R:V→St→Prop}(hf:Pr.fn f=some fn)(hn:as.length=fn.nparams)(h:RawD Pr fn as R):CallW Pr f as st0 R:=by
  unfold RawD at h
  split at h
  · rename_i r hr
    exact .raw hf hn (.of_cden hr h)
  · exact h.elim
@[simp] theorem RawW_ret {fn:SFn}{R:V→St→Prop}{e:Env}{s:St}:RawW fn R (.ret,e,s)=∃ v,resV e s fn.results=some v∧R v s:=rfl
@[simp] theorem RawW_normal {fn:SFn}{R:V→St→Prop}{e:Env}{s:St}:RawW fn R (.normal,e,s)=∃ v,resV e s fn.results=some v∧R v s:=rfl
def rawD (fn:SFn)(R:V→St→Prop):Option Out→Prop
  | some r=> RawW fn R r
  | none=> False
@[simp] theorem rawD_some {fn:SFn}{R:V→St→Prop}{r:Out}:rawD fn R (some r)=RawW fn R r:=rfl
theorem RawD.of {Pr:Prog}{fn:SFn}{as:List V}{R:V→St→Prop}(h:rawD fn R (cden Pr fn.body (initE 0 as) (s0 [] [] 0 0))):RawD Pr fn as R:=by
  unfold RawD
  unfold rawD at h
  split at h
  · exact h
  · exact h.elim
end Go.Sh
namespace Go.Sh
theorem seeL_ofDs (st:St)(k:Nat):∀ ds:List D,seeL (seeD st k) (ofDs ds)=some ds
  | []=> rfl
  | d::ds=> by
    have:=seeL_ofDs st k ds
    have h1:seeD st k (.d d)=some d:=by cases k <;> rfl
    simp only[ofDs,List.map_cons,seeL]at this ⊢
    rw[this,h1]
theorem bsl_d (nz:Bool)(L:List UInt8):SlD 1 (bsl nz L) (L.map byC):=⟨byC_1 L,nz,by simp[bsl,byC_flat]⟩
theorem bytes_flat (L:List UInt8):(byteCells L).all D.flat=true:=by simp[byteCells,D.flat]
theorem iaddr_row {size sz id off n cap i:Nat}{k:IntKind}(h:i < n):iaddrV size (.rsl sz id off n cap) (.d (.i k (i:Int)))=some (.ptr id (off+i * size)):=by
  have h1:(0:Int)≤i∧(i:Int) < n:=by omega
  simp only[iaddrV,intV,h1,and_self,if_true,Int.toNat_natCast]
theorem seeA_one {st:St}{m:Nat}{x y:V}(h:see1 st m x=some y):seeA st m [x]=some [y]:=by simp only[seeA,h]
theorem seeA_two {st:St}{m:Nat}{x y x' y':V}(h:see1 st m x=some y)(h':see1 st m x'=some y'):seeA st m [x,x']=some [y,y']:=by simp only[seeA,h,h']
end Go.Sh
namespace Go.Sh
def St.put (st:St)(id:Nat)(cs:List V):St:={st with heap:=st.heap.set id (some (.row cs))}
section
variable {st:St}{id j:Nat}{cs cs':List V}
@[simp] theorem put_len:(st.put id cs).heap.length=st.heap.length:=by simp[St.put]
@[simp] theorem put_floor:(st.put id cs).floor=st.floor:=rfl
@[simp] theorem put_tfloor:(st.put id cs).tfloor=st.tfloor:=rfl
@[simp] theorem put_tips:(st.put id cs).tips=st.tips:=rfl
theorem row_put:(st.put id cs).row j=if j=id∧id < st.heap.length then some cs else st.row j:=by
  unfold St.put St.row
  simp only[List.getElem?_set]
  by_cases h:id=j
  · subst h
    by_cases hl:id < st.heap.length
    · simp[hl]
    · simp[hl]
  · have h':¬ j=id:=fun e=> h e.symm
    simp[h,h']
theorem row_put_eq (h:id < st.heap.length):(st.put id cs).row id=some cs:=by rw[row_put,if_pos ⟨rfl,h⟩]
theorem row_put_ne (h:j≠id):(st.put id cs).row j=st.row j:=by rw[row_put,if_neg (fun e=> h e.1)]
theorem setBlk_put (h:st.floor=0):st.setBlk id (.row cs)=some (st.put id cs):=by
  unfold St.setBlk
  rw[if_pos (by omega)]
  rfl
theorem put_put:(st.put id cs).put id cs'=st.put id cs':=by
  unfold St.put
  simp
theorem put_self (h:st.row id=some cs):st.put id cs=st:=by
  unfold St.row at h
  split at h
  · rename_i c hc
    simp only[Option.some.injEq]at h
    subst h
    unfold St.put
    have:st.heap.set id (some (.row c))=st.heap:=by
      apply List.ext_getElem?
      intro i
      rw[List.getElem?_set]
      by_cases hi:id=i
      · subst hi
        rw[if_pos rfl,hc,if_pos (List.getElem?_eq_some_iff.1 hc).1]
      · rw[if_neg hi]
    rw[this]
  · cases h
theorem row_lt (h:st.row id=some cs):id < st.heap.length:=St.row_lt h
end
theorem row_old {st:St}{b:Blk}{i:Nat}(h:i < st.heap.length):(st.push b).row i=st.row i:=by rw[row_push,if_neg (by omega)]
theorem mapOf_lt {st:St}{i:Nat}{es:List (D×V)}(h:st.mapOf i=some es):i < st.heap.length:=by
  unfold St.mapOf at h
  split at h
  · rename_i hc
    exact(List.getElem?_eq_some_iff.1 hc).1
  · cases h
theorem mapOf_putR {st:St}{id i:Nat}{c c':List V}{es:List (D×V)}(h:st.row id=some c)(hm:st.mapOf i=some es):(st.put id c').mapOf i=some es:=by
  have hne:id≠i:=by
    rintro rfl
    unfold St.row at h
    unfold St.mapOf at hm
    split at h
    · rename_i hc
      rw[hc]at hm
      simp at hm
    · cases h
  unfold St.mapOf at hm ⊢
  unfold St.put
  simp only[List.getElem?_set]
  rw[if_neg hne]
  exact hm
structure Gr (st st':St)(A:Nat→Prop)(P:V→Prop):Prop where
  floor:st'.floor=st.floor
  len:st.heap.length≤st'.heap.length
  keep:∀ i,i < st.heap.length→¬ A i→st'.row i=st.row i
  cell:∀ i c,st.row i=some c→∃ c',st'.row i=some c'∧c'.length=c.length∧∀ (k:Nat) x,c'[k]? =some x→c[k]? =some x∨P x
  maps:∀ i es,st.mapOf i=some es→st'.mapOf i=some es
  tfl:st'.tfloor=st.tfloor
  tlen:st.tips.length≤st'.tips.length
  tips:∀ t,t < st.tips.length→st'.tips[t]? =st.tips[t]?
section
variable {st s1 s2:St}{A A':Nat→Prop}{P P':V→Prop}
theorem Gr.refl (st:St)(A:Nat→Prop)(P:V→Prop):Gr st st A P:=⟨rfl,Nat.le_refl _,fun _ _ _=> rfl,fun i c h=> ⟨c,h,rfl,fun _ _ h=> .inl h⟩,fun _ _ h=> h,rfl,Nat.le_refl _,fun _ _=> rfl⟩
theorem Gr.trans (h:Gr st s1 A P)(k:Gr s1 s2 A P):Gr st s2 A P:=by
  refine⟨k.floor.trans h.floor,Nat.le_trans h.len k.len,fun i hi ha=> (k.keep i (Nat.lt_of_lt_of_le hi h.len) ha).trans (h.keep i hi ha),fun i c hc=> ?_,fun i es e=> k.maps i es (h.maps i es e),k.tfl.trans h.tfl,Nat.le_trans h.tlen k.tlen,fun t ht=> (k.tips t (Nat.lt_of_lt_of_le ht h.tlen)).trans (h.tips t ht)⟩
  obtain⟨c1,k1,k2,k3⟩:=h.cell i c hc
  obtain⟨c2,h1,h2,h3⟩:=k.cell i c1 k1
  refine⟨c2,h1,h2.trans k2,fun j x hx=> ?_⟩
  rcases h3 j x hx with h | h
  · exact k3 j x h
  · exact .inr h
theorem Gr.mono (h:Gr st s1 A P)(ha:∀ i,i < st.heap.length→A i→A' i)(hp:∀ x,P x→P' x):Gr st s1 A' P':=
  ⟨h.floor,h.len,fun i hi hn=> h.keep i hi fun hA=> hn (ha i hi hA),fun i c hc=> by
    obtain⟨c',h1,h2,h3⟩:=h.cell i c hc
    exact⟨c',h1,h2,fun k x hx=> (h3 k x hx).imp id (hp x)⟩,h.maps,h.tfl,h.tlen,h.tips⟩
theorem Gr.push (b:Blk):Gr st (st.push b) A P:=⟨rfl,by simp,fun i hi _=> row_old hi,fun i c h=> ⟨c,by rw[row_old (row_lt h)];exact h,rfl,fun _ _ h=> .inl h⟩,fun i es h=> by rw[mapOf_push,if_neg (by have:=mapOf_lt h;omega)];exact h,rfl,Nat.le_refl _,fun _ _=> rfl⟩
theorem Gr.put {id:Nat}{c c':List V}(h:st.row id=some c)(hl:c'.length=c.length)(hA:A id)(hP:∀ (k:Nat) x,c'[k]? =some x→c[k]? =some x∨P x):Gr st (st.put id c') A P:=by
  refine⟨rfl,by simp,fun i hi hn=> row_put_ne fun e=> hn (e ▸ hA),fun i d hd=> ?_,fun i es hm=> mapOf_putR h hm,rfl,Nat.le_refl _,fun _ _=> rfl⟩
  by_cases he:i=id
  · subst he
    rw[h]at hd
    obtain rfl:=Option.some.inj hd
    exact⟨c',row_put_eq (row_lt h),hl,hP⟩
  · exact⟨d,by rw[row_put_ne he];exact hd,rfl,fun _ _ h=> .inl h⟩
end
def LR (st:St)(sz:Nat)(v:V)(n:Nat)(cells:List V)(j:Option Nat):Prop:=
  cells.length=n * sz∧((j=none∧v= .d (.sl 0 false [])∧n=0)∨∃ j0 cap tail,j=some j0∧v= .rsl sz j0 0 n cap∧n≤cap∧st.row j0=some (cells++tail)∧tail.length+n * sz=cap * sz)
section
variable {st s1:St}{A:Nat→Prop}{P:V→Prop}{sz n:Nat}{v:V}{cells:List V}{j:Option Nat}
theorem LR.nil (st:St)(sz:Nat):LR st sz (.d (.sl 0 false [])) 0 [] none:=⟨by simp,.inl ⟨rfl,rfl,rfl⟩⟩
theorem LR.lt (h:LR st sz v n cells j){j0:Nat}(hj:j=some j0):j0 < st.heap.length:=by
  obtain⟨_,⟨rfl,_⟩ | ⟨j1,cap,tail,rfl,_,_,h1,_⟩⟩:=h
  · cases hj
  · obtain rfl:=Option.some.inj hj
    exact row_lt h1
theorem LR.row (h:LR st sz v n cells j)(he:∀ j0,j=some j0→s1.row j0=st.row j0):LR s1 sz v n cells j:=by
  obtain⟨h0,h | ⟨j0,cap,tail,rfl,h1,h2,h3,h4⟩⟩:=h
  · exact⟨h0,.inl h⟩
  · exact⟨h0,.inr ⟨j0,cap,tail,rfl,h1,h2,(he j0 rfl).trans h3,h4⟩⟩
theorem LR.gr (h:LR st sz v n cells j)(g:Gr st s1 A P)(ha:∀ j0,j=some j0→¬ A j0):LR s1 sz v n cells j:=
  h.row fun j0 hj=> g.keep j0 (h.lt hj) (ha j0 hj)
theorem LR.len (h:LR st sz v n cells j):lenV v=some n:=by
  obtain⟨_,⟨rfl,rfl,rfl⟩ | ⟨j0,cap,tail,rfl,rfl,_⟩⟩:=h <;> rfl
theorem LR.iaddr (h:LR st sz v n cells j){i:Nat}{k:IntKind}(hi:i < n):∃ j0,j=some j0∧iaddrV sz v (.d (.i k (i:Int)))=some (.ptr j0 (i * sz)):=by
  obtain⟨_,⟨rfl,rfl,rfl⟩ | ⟨j0,cap,tail,rfl,rfl,_⟩⟩:=h
  · omega
  · exact⟨j0,rfl,by rw[iaddr_row hi,Nat.zero_add]⟩
theorem LR.inRow (h:LR st sz v n cells j){j0:Nat}(hj:j=some j0):∃ tail,st.row j0=some (cells++tail):=by
  obtain⟨_,⟨rfl,_⟩ | ⟨j1,cap,tail,rfl,_,_,h1,_⟩⟩:=h
  · cases hj
  · obtain rfl:=Option.some.inj hj
    exact⟨tail,h1⟩
theorem lay_get {α:Type}{c ys:List α}{o k:Nat}{x:α}(h:(lay c o ys)[k]? =some x)(ho:o≤c.length):c[k]? =some x∨x∈ys:=by
  unfold lay at h
  rw[List.append_assoc,List.getElem?_append]at h
  split at h
  · left
    rename_i hk
    rw[List.length_take]at hk
    rwa [List.getElem?_take,if_pos (by omega)]at h
  · rw[List.getElem?_append]at h
    split at h
    · exact .inr (List.mem_of_getElem? h)
    · left
      rename_i h1 h2
      rw[List.length_take]at h1 h2 h
      rw[List.getElem?_drop]at h
      rwa [show o+ys.length+(k - min o c.length - ys.length)=k by omega]at h
theorem lay_len' {α:Type}{c ys:List α}{o:Nat}(h:o+ys.length≤c.length):(lay c o ys).length=c.length:=by
  unfold lay
  simp
  omega
theorem appW_LR2 {x:V}{m:Nat}{ys:List V}{zero:List D}{bytes:Nat}{Q:V→St→Prop}(hf:st.floor=0)(h:LR st sz v n cells j)(hx:vwV sz st x=some (m,ys))(hy:ys.length=m * sz)(hz:zero.length=sz)(hb:(n+m) * bytes≤140737488355328)(hn:n+m≤140737488355328)
    (hQ:∀ st' v' j',LR st' sz v' (n+m) (cells++ys) j'→Gr st st' (fun i=> j=some i) (· ∈ys)→(j'=j∨∃ i,j'=some i∧st.heap.length≤i∧i < st'.heap.length)→LR st' sz v n cells j→(∀ r,j=some r→∃ c,st.row r=some c∧(st'.row r=some c∨st'.row r=some (lay c (n * sz) ys)))→Q v' st'):appW sz bytes zero st v x Q:=by
  have hl:=h.1
  have hsame:∀ st',(∀ r,j=some r→st'.row r=st.row r)→LR st' sz v n cells j∧∀ r,j=some r→∃ c,st.row r=some c∧(st'.row r=some c∨st'.row r=some (lay c (n * sz) ys)):=by
    intro st' he
    refine⟨h.row he,fun r hr=> ?_⟩
    obtain⟨tail,ht⟩:=h.inRow hr
    exact⟨_,ht,.inl ((he r hr).trans ht)⟩
  have hreps:∀ k,(ofDs (reps k zero)).length=k * sz:=fun k=> by rw[ofDs,List.length_map,reps_len,hz]
  have hlen:(cells++ys).length=(n+m) * sz:=by rw[List.length_append,hl,hy,Nat.add_mul]
  obtain⟨_,⟨rfl,rfl,rfl⟩ | ⟨j0,cap,tail,rfl,rfl,hcap,hrow,htl⟩⟩:=h
  · have hc0:cells= []:=List.eq_nil_of_length_eq_zero (by simpa using hl)
    subst hc0
    refine⟨m,ys,hx,hy,by simpa using hb,by simpa using hn,fun hm=> ?_,fun hm k=> ?_⟩
    · subst hm
      have:ys= []:=List.eq_nil_of_length_eq_zero (by simpa using hy)
      subst this
      exact hQ st _ none ⟨by simp,.inl ⟨rfl,rfl,rfl⟩⟩ (.refl _ _ _) (.inl rfl) (hsame st fun _ _=> rfl).1 (hsame st fun _ _=> rfl).2
    · refine hQ _ _ (some st.heap.length) ⟨hlen,.inr ⟨st.heap.length,m+k,ofDs (reps k zero),rfl,by simp,by simp,?_,?_⟩⟩ (.push _) (.inr ⟨_,rfl,Nat.le_refl _,by simp⟩) (hsame _ fun _ h=> by cases h).1 (hsame _ fun _ h=> by cases h).2
      · rw[row_push_new rfl]
        rfl
      · rw[hreps,Nat.zero_add,Nat.add_mul]
        omega
  · have hfit:n * sz≤(cells++tail).length:=by rw[List.length_append];omega
    have hclen:(cells++tail).length=cap * sz:=by rw[List.length_append];omega
    refine⟨rfl,cells++tail,m,ys,hrow,hx,hy,by rw[hclen];simp,hb,hn,fun _ hm=> ?_,fun hroom hm=> ?_,fun hroom k=> ?_⟩
    · subst hm
      have:ys= []:=List.eq_nil_of_length_eq_zero (by simpa using hy)
      subst this
      exact hQ st _ (some j0) ⟨by simpa using hl,.inr ⟨j0,cap,tail,rfl,rfl,hcap,by simpa using hrow,htl⟩⟩ (.refl _ _ _) (.inl rfl) (hsame st fun _ _=> rfl).1 (hsame st fun _ _=> rfl).2
    · have hms:(n+m) * sz≤cap * sz:=Nat.mul_le_mul_right _ hroom
      rw[Nat.add_mul]at hms
      refine⟨_,setBlk_put hf,hQ _ _ (some j0) ⟨hlen,.inr ⟨j0,cap,tail.drop (m * sz),rfl,rfl,hroom,?_,?_⟩⟩ (.put hrow (lay_len' (by rw[hclen,hy];omega)) rfl fun k x hk=> lay_get hk (by rw[hclen];omega)) (.inl rfl) ⟨hl,.inr ⟨j0,cap,ys++tail.drop (m * sz),rfl,rfl,hcap,?_,?_⟩⟩ fun r hr=> ⟨_,(by obtain rfl:=Option.some.inj hr;exact hrow),.inr (by obtain rfl:=Option.some.inj hr;rw[row_put_eq (row_lt hrow),Nat.zero_add])⟩⟩
      · rw[row_put_eq (row_lt hrow),Nat.zero_add]
        unfold lay
        rw[← hl,List.take_left',List.drop_append,List.drop_of_length_le (by omega),hy,show cells.length+m * sz - cells.length=m * sz by omega]
        · simp
        · rfl
      · rw[List.length_drop,Nat.add_mul]
        omega
      · rw[row_put_eq (row_lt hrow),Nat.zero_add]
        unfold lay
        rw[← hl,List.take_left',List.drop_append,List.drop_of_length_le (by omega),hy,show cells.length+m * sz - cells.length=m * sz by omega]
        · simp
        · rfl
      · rw[List.length_append,List.length_drop,hy]
        omega
    · refine hQ _ _ (some st.heap.length) ⟨hlen,.inr ⟨st.heap.length,n+m+k,ofDs (reps k zero),rfl,by simp,by simp,?_,?_⟩⟩ (.push _) (.inr ⟨_,rfl,Nat.le_refl _,by simp⟩) (hsame _ fun r hr=> by obtain rfl:=Option.some.inj hr;exact row_old (row_lt hrow)).1 (hsame _ fun r hr=> by obtain rfl:=Option.some.inj hr;exact row_old (row_lt hrow)).2
      · rw[row_push_new rfl,List.drop_zero,← hl,List.take_left' rfl]
      · rw[hreps,Nat.add_mul (n+m)]
        omega
theorem appW_LR {x:V}{m:Nat}{ys:List V}{zero:List D}{bytes:Nat}{Q:V→St→Prop}(hf:st.floor=0)(h:LR st sz v n cells j)(hx:vwV sz st x=some (m,ys))(hy:ys.length=m * sz)(hz:zero.length=sz)(hb:(n+m) * bytes≤140737488355328)(hn:n+m≤140737488355328)
    (hQ:∀ st' v' j',LR st' sz v' (n+m) (cells++ys) j'→Gr st st' (fun i=> j=some i) (· ∈ys)→(j'=j∨∃ i,j'=some i∧st.heap.length≤i∧i < st'.heap.length)→Q v' st'):appW sz bytes zero st v x Q:=
  appW_LR2 hf h hx hy hz hb hn fun st' v' j' h1 h2 h3 _ _=> hQ st' v' j' h1 h2 h3
end
/-! ### Bytes -/
def ByC (x:V):Prop:=∃ b:UInt8,x= .d (.i .u8 b.toNat)
def Byt (st:St)(v:V)(L:List UInt8):Prop:=match v with
  | .d (.sl n _ cs)=> n=L.length∧cs=byteCells L
  | .own _ n _ cs _=> n=L.length∧cs=byteCells L
  | .rsl sz id off n _=> sz=1∧off=0∧n=L.length∧∃ c,st.row id=some c∧n≤c.length∧c.take n=ofDs (byteCells L)
  | _=> False
def foot:V→Option Nat
  | .rsl _ id _ _ _=> some id
  | _=> none
section
variable {st s1:St}{A:Nat→Prop}{P:V→Prop}{v:V}{L:List UInt8}
theorem Byt.lt (h:Byt st v L){j:Nat}(hj:foot v=some j):j < st.heap.length:=by
  cases v with
  | rsl sz id off n cap=>
    obtain⟨_,_,_,c,h1,_⟩:=h
    obtain rfl:=Option.some.inj hj
    exact row_lt h1
  | _=> cases hj
theorem Byt.row (h:Byt st v L)(he:∀ j,foot v=some j→s1.row j=st.row j):Byt s1 v L:=by
  cases v with
  | rsl sz id off n cap=>
    obtain⟨h1,h2,h3,c,h4,h5⟩:=h
    exact⟨h1,h2,h3,c,(he id rfl).trans h4,h5⟩
  | d d=> cases d <;> exact h
  | _=> exact h
theorem Byt.gr (h:Byt st v L)(g:Gr st s1 A P)(ha:∀ j,foot v=some j→¬ A j):Byt s1 v L:=h.row fun j hj=> g.keep j (h.lt hj) (ha j hj)
theorem Byt.vw (h:Byt st v L):vw 1 st v=some (L.length,byteCells L):=by
  cases v with
  | d d=>
    cases d with
    | sl n nz cs=> obtain⟨rfl,rfl⟩:=h;rfl
    | _=> exact h.elim
  | own sz n nz cs t=> obtain⟨rfl,rfl⟩:=h;rfl
  | rsl sz id off n cap=>
    obtain⟨rfl,rfl,rfl,c,h4,h5,h6⟩:=h
    simp only[Go.Sh.vw,if_true,Nat.mul_one,cellsAt,h4,Nat.zero_add,h5,List.drop_zero,h6,toDs_of,Option.map_some]
  | _=> exact h.elim
theorem Byt.b2s (h:Byt st v L):b2sV st v=some (.d (.s L)):=by
  have hv:=h.vw
  have hl:(byteCells L).length=L.length:=by simp[byteCells]
  have key:(match Go.Sh.vw 1 st v with
    | some (n,ds)=> if ds.length=n then(bytesOf ds).map fun l=> V.d (.s l) else none
    | none=> none)=some (.d (.s L)):=by rw[hv];simp only[hl,if_true,bytesOf_cells,Option.map_some]
  cases v with
  | d d=>
    cases d with
    | s l=> exact h.elim
    | _=> exact key
  | _=> exact key
theorem LR.byt {n:Nat}{j:Option Nat}(h:LR st 1 v n (ofDs (byteCells L)) j):Byt st v L∧foot v=j∧n=L.length:=by
  have hl:(ofDs (byteCells L)).length=L.length:=by simp[ofDs,byteCells]
  obtain⟨h0,⟨rfl,rfl,rfl⟩ | ⟨j0,cap,tail,rfl,rfl,h1,h2,h3⟩⟩:=h
  · have:L= []:=List.eq_nil_of_length_eq_zero (by omega)
    subst this
    exact⟨⟨rfl,rfl⟩,rfl,rfl⟩
  · have hn:n=L.length:=by omega
    subst hn
    exact⟨⟨rfl,rfl,rfl,_,h2,by rw[List.length_append];omega,by rw[List.take_left' hl]⟩,rfl,rfl⟩
end
theorem Byt.known {st s1:St}{A:Nat→Prop}{v:V}{L:List UInt8}(h:Byt st v L)(g:Gr st s1 A ByC):∃ L',Byt s1 v L':=by
  cases v with
  | rsl sz id off n cap=>
    obtain⟨h1,h2,h3,c,h4,h5,h6⟩:=h
    have hlt:=row_lt h4
    by_cases hA:A id
    · obtain⟨c',k1,k2,k3⟩:=g.cell id c h4
      have hall:∀ x∈c'.take n,ByC x:=by
        intro x hx
        obtain⟨i,hi⟩:=List.mem_iff_getElem?.1 hx
        have hin:i < n:=by
          have:=(List.getElem?_eq_some_iff.1 hi).1
          rw[List.length_take]at this
          omega
        rw[List.getElem?_take,if_pos hin]at hi
        rcases k3 i x hi with h | h
        · have:(c.take n)[i]? =some x:=by rw[List.getElem?_take,if_pos hin];exact h
          rw[h6]at this
          simp only[ofDs,byteCells,List.getElem?_map,Option.map_eq_some_iff]at this
          obtain⟨d,⟨b,_,rfl⟩,rfl⟩:=this
          exact⟨b,rfl⟩
        · exact h
      have:∀ l:List V,(∀ x∈l,ByC x)→∃ L:List UInt8,l=ofDs (byteCells L)∧L.length=l.length:=by
        intro l
        induction l with
        | nil=> intro _;exact⟨[],rfl,rfl⟩
        | cons x l ih=>
          intro hl
          obtain⟨b,rfl⟩:=hl x List.mem_cons_self
          obtain⟨L,h1,h2⟩:=ih fun y hy=> hl y (List.mem_cons_of_mem _ hy)
          exact⟨b::L,by rw[h1];rfl,by simp[h2]⟩
      obtain⟨L',e1,e2⟩:=this _ hall
      refine⟨L',h1,h2,?_,c',k1,by omega,e1⟩
      rw[e2,List.length_take]
      omega
    · exact⟨L,h1,h2,h3,c,(g.keep id hlt hA).trans h4,h5,h6⟩
  | d d=> exact⟨L,by cases d <;> exact h⟩
  | own sz n nz cs t=> exact⟨L,h⟩
  | _=> exact h.elim
end Go.Sh
namespace Go.Sh
open Go.RowKit
def Ans (Q:V→St→Prop):Option (V×St)→Prop
  | some (v,s)=> Q v s
  | none=> False
@[simp] theorem Ans_some {Q:V→St→Prop}{v:V}{s:St}:Ans Q (some (v,s))=Q v s:=rfl
theorem Ans.ex {Q:V→St→Prop}{o:Option (V×St)}(h:Ans Q o):∃ v s,o=some (v,s)∧Q v s:=by
  cases o with
  | none=> exact h.elim
  | some y=> exact⟨y.1,y.2,rfl,h⟩
def notStr:V→Bool
  | .d (.s _)=> false
  | _=> true
def pIdxS:List V→St→Option V
  | [.d (.s l),.d (.i .u8 c)],_=> some (.d (.i .i64 (Lib.indexByte l (UInt8.ofNat c.toNat))))
  | _,_=> none
def pIdxB:List V→St→Option V
  | [x,.d (.i .u8 c)],st=> if notStr x then match vw 1 st x with
    | some (n,ds)=> if ds.length=n then(bytesOf ds).map fun l=> .d (.i .i64 (Lib.indexByte l (UInt8.ofNat c.toNat))) else none
    | none=> none
    else none
  | _,_=> none
def pCln:List V→St→Option V
  | [.d (.s l)],_=> if l.length≤281474976710656 then some (.d (.s l)) else none
  | _,_=> none
section
variable {P:Program}{Pr:Prog}{L:Link}{f:Nat}
theorem PrimOk.same {g:List V→St→Option V}(h:∀ (κ:K) (st:St) (args:List V) (vals:List Value) (r:V),κ.L=L→Inv Pr κ st→All2 (Rep κ) args vals→g args st=some r→
    ∃ v,Rep κ r v∧Calls P (L.fn f) vals.toArray κ.w fun e w'=> e= .returned v∧w'=κ.w):PrimOk P Pr L f g:=by
  intro κ st args vals r hL hi ha hg
  obtain⟨v,hv,hc⟩:=h κ st args vals r hL hi ha hg
  refine hc.mono ?_
  rintro e w' ⟨rfl,rfl⟩
  exact⟨κ,v,rfl,rfl,K.le.refl _,hi,hv⟩
theorem PrimOk.below {g:List V→St→Option V}(h:∀ (κ:K) (st:St) (args:List V) (vals:List Value) (r:V),κ.L=L→Inv Pr κ st→All2 (Rep κ) args vals→g args st=some r→
    Calls P (L.fn f) vals.toArray κ.w fun e w'=> Below κ.w.heap.size κ.w w'∧∃ v,e= .returned v∧Rep (κ.to w') r v):PrimOk P Pr L f g:=by
  intro κ st args vals r hL hi ha hg
  refine(h κ st args vals r hL hi ha hg).mono ?_
  rintro e w' ⟨hb,v,rfl,hv⟩
  obtain⟨g1,g2⟩:=hi.grow (w':=w') ⟨hb.os,hb.tape,hb.output,hb.size,fun k hk _=> hb.block k hk⟩
  exact⟨κ.to w',v,rfl,rfl,g1,g2,hv⟩
theorem primOk_idxS (h:∀ (s:ByteArray) (c:Int) (w:World),Calls P (L.fn f) #[.string s,.int .u8 c] w fun e w'=> e= .returned (.int .i64 (Lib.indexByte s.data.toList c.toNat.toUInt8))∧w'=w):PrimOk P Pr L f pIdxS:=by
  refine .same fun κ st args vals r hL hi ha hg=> ?_
  unfold pIdxS at hg
  split at hg
  case h_2=> cases hg
  rename_i l c
  obtain rfl:=Option.some.inj hg
  obtain⟨a,b,rfl,h1,h2⟩:=all2_two ha
  obtain rfl:a= .string ⟨l.toArray⟩:=by simpa[Rep,Rep1,RepC,RepD]using h1
  obtain rfl:b= .int .u8 c:=by simpa[Rep,Rep1,RepC,RepD]using h2
  refine⟨_,?_,h _ c κ.w⟩
  simp[Rep,Rep1,RepC,RepD]
theorem primOk_cln (h:∀ (s:ByteArray) (w:World),s.size≤281474976710656→Calls P (L.fn f) #[.string s] w fun e w'=> e= .returned (.string s)∧Below w.heap.size w w'):PrimOk P Pr L f pCln:=by
  refine .below fun κ st args vals r hL hi ha hg=> ?_
  unfold pCln at hg
  split at hg
  case h_2=> cases hg
  rename_i l
  split at hg
  case isFalse=> cases hg
  rename_i hl
  obtain rfl:=Option.some.inj hg
  obtain⟨a,rfl,h1⟩:=all2_one ha
  obtain rfl:a= .string ⟨l.toArray⟩:=by simpa[Rep,Rep1,RepC,RepD]using h1
  refine(h _ κ.w (by simpa[ByteArray.size]using hl)).mono ?_
  rintro e w' ⟨rfl,hb⟩
  refine⟨hb,_,rfl,?_⟩
  simp[Rep,Rep1,RepC,RepD]
theorem run_idxB {w:World}{A:Option Addr}{n cap:Nat}{xs:List Int}{c:Int}(hx:xs.length=n)(hA:n=0∨∃ b o,A=some ⟨b,o,none⟩∧∀ (i:Nat) x,xs[i]? =some x→w.cell? ⟨b,o+i,none⟩=some (.int .u8 x)):
    (Extern.BytealgIndexByte.indexByte #[.slice A n cap,.int .u8 c]).run P w= .ok (.int .i64 (Lib.indexByte (xs.map fun x=> UInt8.ofNat x.toNat) c.toNat.toUInt8)) w:=by
  have hb:∀ xs:List Int,Lib.bytesOf xs=xs.map fun x=> UInt8.ofNat x.toNat:=fun xs=> rfl
  rcases hA with rfl | ⟨b,o,rfl,hc⟩
  · have:xs= []:=List.eq_nil_of_length_eq_zero hx
    subst this
    cases A with
    | none=> exact Lib.run_indexByteNil w 0 cap c
    | some a=>
      have hs:=Lib.run_indexByteString (P:=P) .empty c w
      exact hs
  · have:=Lib.run_indexByteSlice (P:=P) w b o n cap xs hx (fun i hi=> by
      obtain⟨x,hxi⟩:∃ x,xs[i]? =some x:=⟨_,List.getElem?_eq_getElem (by omega)⟩
      rw[hc i x hxi]
      simp[List.getD,hxi]) c
    rw[hb]at this
    exact this
theorem bytesOf_ints:∀ {ds:List D} {l:List UInt8},bytesOf ds=some l→∃ xs:List Int,ds=xs.map (D.i .u8)∧l=xs.map fun x=> UInt8.ofNat x.toNat
  | [],l,h=> ⟨[],rfl,by simpa[bytesOf]using h.symm⟩
  | d::ds,l,h=> by
    cases d with
    | i k n=>
      cases k <;> simp only[bytesOf]at h <;> try cases h
      split at h
      · rename_i l' hl
        obtain⟨xs,rfl,rfl⟩:=bytesOf_ints hl
        exact⟨n::xs,rfl,by simpa using h.symm⟩
      · cases h
    | _=> simp[bytesOf]at h
theorem primOk_idxB (h:∀ (A:Option Addr) (n cap:Nat) (xs:List Int) (c:Int) (w:World),xs.length=n→(n=0∨∃ b o,A=some ⟨b,o,none⟩∧∀ (i:Nat) x,xs[i]? =some x→w.cell? ⟨b,o+i,none⟩=some (.int .u8 x))→
      Calls P (L.fn f) #[.slice A n cap,.int .u8 c] w fun e w'=> e= .returned (.int .i64 (Lib.indexByte (xs.map fun x=> UInt8.ofNat x.toNat) c.toNat.toUInt8))∧w'=w):PrimOk P Pr L f pIdxB:=by
  refine .same fun κ st args vals r hL hi ha hg=> ?_
  unfold pIdxB at hg
  split at hg
  case h_2=> cases hg
  rename_i x c
  split at hg
  case isFalse=> cases hg
  rename_i hns
  split at hg
  case h_2=> cases hg
  rename_i n ds hv
  split at hg
  case isFalse=> cases hg
  rename_i hlen
  simp only[Option.map_eq_some_iff]at hg
  obtain⟨l,hl,rfl⟩:=hg
  obtain⟨xs,rfl,rfl⟩:=bytesOf_ints hl
  rw[List.length_map]at hlen
  obtain⟨a,b,rfl,h1,h2⟩:=all2_two ha
  obtain rfl:b= .int .u8 c:=by simpa[Rep,Rep1,RepC,RepD]using h2
  have data:∀ {m:Nat} {nz:Bool},RepD κ.L κ.imm (.sl m nz (xs.map (D.i .u8))) a→m=n→∃ A cap,a= .slice A n cap∧(n=0∨∃ b o,A=some ⟨b,o,none⟩∧∀ (i:Nat) x,xs[i]? =some x→κ.w.cell? ⟨b,o+i,none⟩=some (.int .u8 x)):=by
    intro m nz hr hm
    subst hm
    simp only[RepD]at hr
    obtain⟨A,cap,rfl,_,_,_,hc⟩:=hr
    refine⟨A,cap,rfl,?_⟩
    rcases hc with hc | ⟨b,o,rfl,hc⟩
    · left
      have:xs= []:=by simpa using hc
      rw[← hlen,this]
      rfl
    · right
      refine⟨b,o,rfl,fun i x hx=> ?_⟩
      obtain⟨y,hy,hyr⟩:=hc.get (j:=i) (c:= .i .u8 x) (by simp[hx])
      rw[hy.1]
      simp only[RepD]at hyr
      rw[hyr]
  have main:∃ A cap,a= .slice A n cap∧(n=0∨∃ b o,A=some ⟨b,o,none⟩∧∀ (i:Nat) x,xs[i]? =some x→κ.w.cell? ⟨b,o+i,none⟩=some (.int .u8 x)):=by
    cases x with
    | d d=>
      cases d with
      | sl m nz cs=>
        simp only[vw,Option.some.injEq,Prod.mk.injEq]at hv
        obtain⟨rfl,rfl⟩:=hv
        exact data h1 rfl
      | s l=> simp[notStr]at hns
      | _=> simp[vw]at hv
    | own sz m nz cs t=>
      simp only[vw,Option.some.injEq,Prod.mk.injEq]at hv
      obtain⟨rfl,rfl⟩:=hv
      have h1:RepC κ (.own sz m nz (xs.map (D.i .u8)) t) a:=h1
      exact data h1.1 rfl
    | rsl sz id off m cap=>
      simp only[vw]at hv
      split at hv
      case isFalse=> cases hv
      rename_i hsz
      subst hsz
      simp only[Option.map_eq_some_iff,Prod.mk.injEq]at hv
      obtain⟨ds,hca,rfl,rfl⟩:=hv
      have h1:RepC κ (.rsl 1 id off m cap) a:=h1
      obtain⟨b,o,hρ,rfl,hcap,ho⟩:=h1
      refine⟨_,_,rfl,?_⟩
      unfold cellsAt at hca
      split at hca
      case h_2=> cases hca
      rename_i cs hrow
      split at hca
      case isFalse=> cases hca
      rename_i hfit
      obtain⟨b',arr,e,q1,q2,q3,q4⟩:=hi.rows id cs hrow
      obtain rfl:b=b':=by rw[hρ]at q1;exact Option.some.inj q1
      rcases Nat.eq_zero_or_pos m with hm | hm
      · exact .inl hm
      right
      have hoo:o=off:=by
        rcases ho with rfl | ho
        · omega
        · exact ho
      subst hoo
      refine⟨b,o,rfl,fun i x hx=> ?_⟩
      rw[cell_of_row κ.w b (o+i) arr e (0,0) q2]
      have hd:=toDs_rep hca ((q3.drop o).take (m * 1))
      obtain⟨y,hy,hyr⟩:=hd.get (i:=i) (x:= .i .u8 x) (by simp[hx])
      rw[List.getElem?_take]at hy
      split at hy
      case isFalse=> cases hy
      rw[List.getElem?_drop,Array.getElem?_toList]at hy
      rw[hy]
      simp only[RepD]at hyr
      rw[hyr]
    | _=> simp[vw]at hv
  obtain⟨A,cap,rfl,hA⟩:=main
  refine⟨_,?_,h A n cap xs c κ.w hlen hA⟩
  simp[Rep,Rep1,RepC,RepD]
end
end Go.Sh
namespace Go.Sh
def appE (size bytes:Nat)(z:List D)(st:St)(A:V→St→Prop):Option V→Option V→Prop
  | some vs,some vx=> appW size bytes z st vs vx A
  | _,_=> False
section
variable {Pr:Prog}{e:Env}{st:St}{A:V→St→Prop}{size bytes:Nat}{z:List D}
@[simp] theorem appE_some {v w:V}:appE size bytes z st A (some v) (some w)=appW size bytes z st v w A:=nrfl rfl
@[simp] theorem OpW_appRE {s x:Opd}:OpW Pr e st (.appR size bytes z s x) A=appE size bytes z st A (s.ev Pr e) (x.ev Pr e):=by
  refine nrfl ?_
  simp only[OpW]
  cases s.ev Pr e <;> cases x.ev Pr e <;> rfl
end
section
variable {Pr:Prog}{fw:Nat→Bool}{e:Env}{st:St}{Q:Env→St→Prop}{rd:List SOper}
@[simp] theorem semiW_nil:SemiW Pr rd [] e st Q=(Stab Pr e st rd∧Q e st):=nrfl rfl
@[simp] theorem semiW_cons {o:SOper}{r:List SOper}:SemiW Pr rd (o::r) e st Q=(Stab Pr e st rd∧OpW Pr e st o.op fun v st'=> SemiW Pr rd r (put e o.dst v) st' Q):=nrfl rfl
@[simp] theorem stab_nil:Stab Pr e st []=True:=nrfl rfl
@[simp] theorem stab_cons {s:SOper}{r:List SOper}:Stab Pr e st (s::r)=((∃ d v,s.dst=some d∧e.get d=some v∧OpW Pr e st s.op (fun v' s'=> v'=v∧s'=st))∧Stab Pr e st r):=nrfl rfl
theorem SemiW.mono {Q':Env→St→Prop}:∀ {c:List SOper} {e:Env} {st:St},SemiW Pr rd c e st Q→(∀ e st,Q e st→Q' e st)→SemiW Pr rd c e st Q'
  | [],e,st,h,hq=> ⟨h.1,hq _ _ h.2⟩
  | o::r,e,st,h,hq=> ⟨h.1,OpW.mono h.2 fun v st' h=> SemiW.mono h hq⟩
theorem DetW.mono {all:List SOper}{Q Q':Env→Prop}:∀ {l:List SOper} {e:Env},DetW Pr all l e st Q→(∀ e,Q e→Q' e)→DetW Pr all l e st Q'
  | [],e,h,hq=> hq _ h
  | o::r,e,h,hq=> by
    simp only[DetW]at h ⊢
    split at h
    · obtain⟨v,h1,h2⟩:=h
      exact⟨v,h1,DetW.mono h2 hq⟩
    · exact DetW.mono h hq
    · exact h.elim
theorem drawn3 {ops:List SOper}{B:List Nat}{K:List Fr}{Q:Out→Prop}(M:Nat)(rd ch lz:List Nat)(hs:semiOk ops B M rd ch lz=true)(h:DetW Pr ops (picks ops rd) e st fun e'=> SemiW Pr (picks ops rd) (picks ops ch) e' st fun e' st'=> opsD Pr fw ops (ops.drop M) e' st' K Q):CodeW Pr (.region ops true B) e st (kC Pr fw K Q):=by
  refine .drawn3 M rd ch lz hs ?_
  exact h.mono fun e' h=> h.mono fun e st h=> opsC_W h
end
end Go.Sh
