/- Part of the proof. -/
import Derived.Test.YtpgipjjhapapjaaShBb
import Derived.Orders
set_option linter.unusedVariables false
set_option linter.unusedSimpArgs false
namespace Go.Sh
open Go.RowKit
def okOo (L:Link):Option Operand→Option Opd→Bool
  | none,none=> true
  | some x,some y=> okO L x y
  | _,_=> false
def okOs (L:Link):List Operand→List Opd→Bool
  | [],[]=> true
  | x::xs,y::ys=> okO L x y && okOs L xs ys
  | _,_=> false
def okCall (P:Program)(f:FuncId):Bool:=match P.funcs[f]? with
  | some fn=> fn.name != "runtime.NumGoroutine" && fn.body.isSome
  | none=> false
def okMeth (P:Program)(t:TypeId)(name:String)(f:FuncId):Bool:=match P.info? t with
  | some i=> match i.methods.find? (·.name==name) with
    | some m=> m.path.isEmpty && decide (m.func=some (f,false)) && (match P.underlying t with | some (.pointer _)=> false | some _=> true | none=> false)
    | none=> false
  | none=> false
def okTable (P:Program)(L:Link)(name:String):List (Nat×Nat)→Bool
  | []=> true
  | (tag,f)::r=> okMeth P (L.ty tag) name (L.fn f) && okCall P (L.fn f) && okTable P L name r
def elemOk (P:Program)(t:TypeId)(p:TypeId→Bool):Bool:=match P.underlying t with
  | some (.slice e)=> p e
  | _=> false
def appSrc (P:Program)(t:TypeId):Bool:=match P.underlying t with
  | some (.slice _)=> true
  | some .string=> true
  | _=> false
def mapTy (P:Program)(t:TypeId)(p:TypeId→TypeId→Bool):Bool:=match P.underlying t with
  | some (.map k e)=> p k e
  | _=> false
theorem mapTy_spec {P:Program}{t:TypeId}{p:TypeId→TypeId→Bool}(h:mapTy P t p=true):∃ k e,P.underlying t=some (.map k e)∧p k e=true:=by
  unfold mapTy at h
  split at h
  · exact⟨_,_,by assumption,h⟩
  · cases h
def okOp (P:Program)(L:Link)(o:Op):SOp→Bool
  | .mov x=> match o with
    | .move y=> okO L y x
    | .assign y=> okO L y x
    | _=> false
  | .tok _ x=> match o with
    | .move y=> okO L y x
    | .assign y=> okO L y x
    | _=> false
  | .pick c a b=> match o with
    | .pick c' a' b'=> okO L c' c && okO L a' a && okO L b' b
    | _=> false
  | .bin op x y=> match o with
    | .binOp op' _ a b _=> decide (op'=op) && okO L a x && okO L b y
    | _=> false
  | .eqv neg ks x y=> match o with
    | .binOp op t a b _=> decide (op=if neg then .neq else .eql) && okEqTy P t a b ks && okO L a x && okO L b y
    | _=> false
  | .un op x=> match o with
    | .unOp op' _ a=> decide (op'=op) && okO L a x
    | _=> false
  | .conv k x=> match o with
    | .convert src dst a=> (P.underlying src).isSome && intIs P dst k && okO L a x
    | _=> false
  | .s2b x=> match o with
    | .convert src dst a=> strIs P src && elemOk P dst (intIs P · .u8) && okO L a x
    | _=> false
  | .b2s x=> match o with
    | .convert src dst a=> strIs P dst && elemOk P src (intIs P · .u8) && okO L a x
    | _=> false
  | .build z ps=> match o with
    | .build t parts=> zeroIs P t z && (match bPlace P t with | some place=> okParts L place parts.toList ps | none=> false)
    | _=> false
  | .lits n z ps=> match o with
    | .buildSlice t len parts=> decide (len=n) && elemOk P t (zeroIs P · z) && decide (n * z.length≤16777216) && okParts L (fun i=> some (i * z.length,z.length)) parts.toList ps
    | _=> false
  | .litsO n z ps=> match o with
    | .buildSlice t len parts=> decide (len=n) && elemOk P t (zeroIs P · z) && decide (n * z.length≤16777216) && decide (n≤16777216) && okParts L (fun i=> some (i * z.length,z.length)) parts.toList ps
    | _=> false
  | .litsR n z ps=> match o with
    | .buildSlice t len parts=> decide (len=n) && elemOk P t (zeroIs P · z) && decide (n * z.length≤16777216) && okParts L (fun i=> some (i * z.length,z.length)) parts.toList ps
    | _=> false
  | .box x=> match o with
    | .box _ a=> okO L a x
    | _=> false
  | .boxI x=> match o with
    | .box _ a=> okO L a x
    | _=> false
  | .alloc z=> match o with
    | .alloc e=> zeroIs P e z
    | _=> false
  | .load size agg p=> match o with
    | .load t a=> szIs P t size && aggIs P t agg && okO L a p
    | _=> false
  | .store size p x=> match o with
    | .store t a b=> szIs P t size && okO L a p && okO L b x
    | _=> false
  | .storeX size p x _=> match o with
    | .store t a b=> szIs P t size && okO L a p && okO L b x
    | _=> false
  | .faddr off p=> match o with
    | .fieldAddr s a f=> (match fieldIs P s f off with | some fd=> (match P.info? fd.type with | some i=> i.size !=0 | none=> false) | none=> false) && okO L a p
    | _=> false
  | .field off size agg x=> match o with
    | .field s a f=> (match fieldIs P s f off with | some fd=> szIs P fd.type size && aggIs P fd.type agg | none=> false) && okO L a x
    | _=> false
  | .iaddr size x i=> match o with
    | .indexAddr t a b=> slIs P t size && okO L a x && okO L b i
    | _=> false
  | .iaddrA len size p i=> match o with
    | .indexAddr t a b=> arrIs P t len size && okO L a p && okO L b i
    | _=> false
  | .idx len size agg x i=> match o with
    | .index t a b=> (match P.underlying t with | some (.array n e)=> n==len && szIs P e size && aggIs P e agg | _=> false) && okO L a x && okO L b i
    | _=> false
  | .idxS x i=> match o with
    | .index t a b=> strIs P t && okO L a x && okO L b i
    | _=> false
  | .slc size x lo hi mx=> match o with
    | .slice t a l h m=> slIs P t size && okO L a x && okOo L l lo && okOo L h hi && okOo L m mx && (!mx.isSome || hi.isSome)
    | _=> false
  | .slcS x lo hi=> match o with
    | .slice t a l h m=> strIs P t && okO L a x && okOo L l lo && okOo L h hi && !m.isSome
    | _=> false
  | .slcA len size x lo hi mx=> match o with
    | .slice t a l h m=> (arrIs P t len size || (match P.underlying t with | some (.pointer a)=> arrIs P a len size | _=> false)) && okO L a x && okOo L l lo && okOo L h hi && okOo L m mx && (!mx.isSome || hi.isSome)
    | _=> false
  | .mkR bytes z l c=> match o with
    | .makeSlice t a b=> elemOk P t (fun e=> zeroIs P e z && bytesIs P e bytes) && okO L a l && okO L b c
    | _=> false
  | .mkD bytes z l c=> match o with
    | .makeSlice t a b=> elemOk P t (fun e=> zeroIs P e z && bytesIs P e bytes) && okO L a l && okO L b c
    | _=> false
  | .mkO bytes _ z l c=> match o with
    | .makeSlice t a b=> elemOk P t (fun e=> zeroIs P e z && bytesIs P e bytes) && okO L a l && okO L b c
    | _=> false
  | .len str x=> match o with
    | .call {callee:= .builtin .len,args:=⟨[a]⟩,argTypes:=⟨[t]⟩}=> (if str then strIs P t else elemOk P t (fun _=> true)) && okO L a x
    | _=> false
  | .lenA n=> match o with
    | .call {callee:= .builtin .len,args:=⟨[a]⟩,argTypes:=⟨[t]⟩}=> match P.underlying t with
      | some (.array m _)=> m==n
      | some (.pointer u)=> (match P.underlying u with | some (.array m _)=> m==n | _=> false)
      | _=> false
    | _=> false
  | .app size bytes s x=> match o with
    | .call {callee:= .builtin .append,args:=⟨[a,b]⟩,argTypes:=⟨[t,u]⟩}=> elemOk P t (fun e=> zeroHas P e && szIs P e size && bytesIs P e bytes) && appSrc P u && okO L a s && okO L b x
    | _=> false
  | .appR size bytes z s x=> match o with
    | .call {callee:= .builtin .append,args:=⟨[a,b]⟩,argTypes:=⟨[t,u]⟩}=> elemOk P t (fun e=> zeroIs P e z && szIs P e size && bytesIs P e bytes) && appSrc P u && okO L a s && okO L b x
    | _=> false
  | .appZ size bytes z s x=> match o with
    | .call {callee:= .builtin .append,args:=⟨[a,b]⟩,argTypes:=⟨[t,u]⟩}=> elemOk P t (fun e=> zeroIs P e z && szIs P e size && bytesIs P e bytes) && (match P.underlying u with | some (.int _)=> true | _=> false) && okO L a s && okO L b x
    | _=> false
  | .clr size z x=> match o with
    | .call {callee:= .builtin .clear,args:=⟨[a]⟩,argTypes:=⟨[t]⟩}=> elemOk P t (fun e=> zeroIs P e z && szIs P e size) && okO L a x
    | _=> false
  | .cpy size s x=> match o with
    | .call {callee:= .builtin .copy,args:=⟨[a,b]⟩,argTypes:=⟨[t,u]⟩}=> elemOk P t (szIs P · size) && okO L a s && okO L b x
    | _=> false
  | .mkI tag agg x=> match o with
    | .makeInterface t a=> decide (L.ty tag=t) && concIs P t agg && okO L a x
    | _=> false
  | .assertT tag others ok z za x=> match o with
    | .typeAssert a _ t ok'=> decide (L.ty tag=t) && (others.all fun a=> decide (L.ty a≠t)) && (ok'==ok) && zeroOk P t z za && (match P.underlying t with | some (.interface _)=> false | some _=> true | none=> false) && okO L a x
    | _=> false
  | .extract i x=> match o with
    | .extract a j=> j==i && okO L a x
    | _=> false
  | .nilChk x=> match o with
    | .nilCheck a=> okO L a x
    | _=> false
  | .call f args=> match o with
    | .call {callee:= .value (.func g),args:=as,argTypes:=_}=> g==L.fn f && okCall P g && okOs L as.toList args
    | _=> false
  | .invoke table r args=> match o with
    | .call {callee:= .invoke a name,args:=as,argTypes:=_}=> okO L a r && okTable P L name table && okOs L as.toList args
    | _=> false
  | .mkFn f caps=> match o with
    | .makeFunc (.func g) ⟨[]⟩ as=> g==L.fn f && okOs L as.toList caps
    | _=> false
  | .callC fs x args=> match o with
    | .call {callee:= .value a,args:=as,argTypes:=_}=> okO L a x && (fs.all fun f=> okCall P (L.fn f)) && okOs L as.toList args
    | _=> false
  | .mx x y=> match o with
    | .call {callee:= .builtin .max,args:=⟨[a,b]⟩,argTypes:=_}=> okO L a x && okO L b y
    | _=> false
  | .mn x y=> match o with
    | .call {callee:= .builtin .min,args:=⟨[a,b]⟩,argTypes:=_}=> okO L a x && okO L b y
    | _=> false
  | .mkMap r=> match o with
    | .makeMap t r'=> okOo L r' r && (!r.isSome || mapTy P t (fun _ _=> true))
    | _=> false
  | .lenM m=> match o with
    | .call {callee:= .builtin .len,args:=⟨[a]⟩,argTypes:=⟨[t]⟩}=> mapTy P t (fun _ _=> true) && okO L a m
    | _=> false
  | .look str ok z za m k=> match o with
    | .lookup t a b ok'=> mapTy P t (fun ky e=> keyTy P ky str && zeroOk P e z za) && ok'==ok && okO L a m && okO L b k
    | _=> false
  | .mapSet str m k x=> match o with
    | .mapUpdate t a b c=> mapTy P t (fun ky _=> keyTy P ky str) && okO L a m && okO L b k && okO L c x
    | _=> false
def CallOk (P:Program)(Pr:Prog)(L:Link)(call:CallF):Prop:=∀ (κ:K) (st:St) (f:Nat) (args:List V) (vals:List Value) (r:V) (st':St),κ.L=L→Inv Pr κ st→All2 (Rep κ) args vals→call f args st=some (r,st')→
  Calls P (L.fn f) vals.toArray κ.w fun e w'=> ∃ κ' v,κ'.w=w'∧e= .returned v∧κ.le κ'∧Inv Pr κ' st'∧Rep κ' r v
section
variable {P:Program}{Pr:Prog}{κ:K}{st st':St}{o:Oper}{a:Act}{next:Act→World→Prop}{Q:Exit→Act→World→Prop}{x:V}
def Then (Pr:Prog)(κ:K)(st':St)(x:V)(o:Oper)(a:Act)(next:Act→World→Prop):Prop:=∀ κ' v,κ.le κ'→Inv Pr κ' st'→Rep κ' x v→next (a.put o.dst v) κ'.w
theorem wp_mem {s:Sem Value}(he:execOp a.eval o=(do pure (.value (← s))))(hm:Mem P Pr κ st' x s)(hn:Then Pr κ st' x o a next):o.wp P a κ.w next Q:=by
  obtain⟨κ',v,h1,h2,h3,h4⟩:=hm
  unfold Oper.wp
  rw[he]
  simp only[Sem.run_bind,h1,Result.andThen_ok,Sem.run_pure,Oper.upon]
  exact hn κ' v h2 h3 h4
theorem wp_mem' {s:Sem Value}(he:(execOp a.eval o).run P κ.w=(s.run P κ.w).andThen fun v w=> .ok (.value v) w)(hm:Mem P Pr κ st' x s)(hn:Then Pr κ st' x o a next):o.wp P a κ.w next Q:=by
  obtain⟨κ',v,h1,h2,h3,h4⟩:=hm
  unfold Oper.wp
  rw[he,h1]
  simp only[Result.andThen_ok,Oper.upon]
  exact hn κ' v h2 h3 h4
theorem wp_skip' {s:Sem Unit}(he:execOp a.eval o=(do s;pure .skip))(hm:∃ κ',s.run P κ.w= .ok () κ'.w∧κ.le κ'∧Inv Pr κ' st')(hn:Then Pr κ st' .un o a next):o.wp P a κ.w next Q:=by
  obtain⟨κ',h1,h2,h3⟩:=hm
  unfold Oper.wp
  rw[he]
  simp only[Sem.run_bind,h1,Result.andThen_ok,Sem.run_pure,Oper.upon]
  exact hn κ' undef h2 h3 rfl
theorem opds_sound (hi:Inv Pr κ st){e:Env}(hE:ERel κ e a):∀ {as:List Operand} {args:List Opd} {vs:List V},okOs κ.L as args=true→evs Pr e args=some vs→All2 (Rep κ) vs (as.map a.eval)
  | [],[],vs,_,h=> by
    simp only[evs,Option.some.injEq]at h
    subst h
    exact .nil
  | x::as,y::args,vs,hok,h=> by
    simp only[okOs,Bool.and_eq_true]at hok
    simp only[evs]at h
    split at h
    · rename_i v hv
      split at h
      · rename_i vs' hvs
        simp only[Option.some.injEq]at h
        subst h
        exact .cons (opd_sound hi hE hok.1 hv) (opds_sound hi hE hok.2 hvs)
      · cases h
    · cases h
  | [],_::_,vs,hok,_=> by simp[okOs]at hok
  | _::_,[],vs,hok,_=> by simp[okOs]at hok
theorem opo_sound (hi:Inv Pr κ st){e:Env}(hE:ERel κ e a){x:Option Operand}{y:Option Opd}(hok:okOo κ.L x y=true){v:Option V}(h:evo Pr e y=some v):ORep κ v (x.map a.eval):=by
  cases x <;> cases y <;> simp only[okOo]at hok <;> try (cases hok;done)
  · simp only[evo,Option.some.injEq]at h
    subst h
    trivial
  · simp only[evo,Option.map_eq_some_iff]at h
    obtain⟨u,hu,rfl⟩:=h
    exact opd_sound hi hE hok hu
theorem evo_some {Pr:Prog}{e:Env}{y:Option Opd}{v:Option V}(h:evo Pr e y=some v):v.isSome=y.isSome:=by
  cases y with
  | none=> simp only[evo,Option.some.injEq]at h;subst h;rfl
  | some y=>
    simp only[evo,Option.map_eq_some_iff]at h
    obtain⟨u,hu,rfl⟩:=h
    rfl
theorem elemOk_spec {t:TypeId}{p:TypeId→Bool}(h:elemOk P t p=true):∃ e,P.underlying t=some (.slice e)∧p e=true:=by
  unfold elemOk at h
  split at h
  · exact⟨_,by assumption,h⟩
  · cases h
theorem okCall_run {f:FuncId}(h:okCall P f=true)(args:Array Value)(w:World):(callFunc f args).run P w= .ok (.enter f args) w:=by
  unfold okCall at h
  split at h
  · rename_i fn hfn
    simp only[Bool.and_eq_true,bne_iff_ne,ne_eq]at h
    obtain⟨b,hb⟩:=Option.isSome_iff_exists.1 h.2
    simp[callFunc,hfn,h.1,hb]
  · cases h
theorem wp_call {f:Nat}{args:List V}{vals:List Value}{call:CallF}(hc:CallOk P Pr κ.L call)(hi:Inv Pr κ st)(ha:All2 (Rep κ) args vals)(h:call f args st=some (x,st'))
    (he:(execOp a.eval o).run P κ.w= .ok (.enter (κ.L.fn f) vals.toArray) κ.w) (hn:Then Pr κ st' x o a next):o.wp P a κ.w next Q:=by
  unfold Oper.wp
  rw[he,Oper.upon_enter]
  refine(hc κ st f args vals x st' rfl hi ha h).mono ?_
  rintro e w' ⟨κ',v,rfl,rfl,h1,h2,h3⟩
  exact hn κ' v h1 h2 h3
theorem okTable_spec {L:Link}{name:String}:∀ {table:List (Nat×Nat)} {tag f:Nat},okTable P L name table=true→table.lookup tag=some f→okMeth P (L.ty tag) name (L.fn f)=true∧okCall P (L.fn f)=true
  | [],tag,f,_,h=> by simp at h
  | (t,g)::r,tag,f,hok,h=> by
    simp only[okTable,Bool.and_eq_true]at hok
    simp only[List.lookup_cons]at h
    split at h
    · rename_i he
      simp only[Option.some.injEq]at h
      subst h
      have:tag=t:=by simpa using he
      subst this
      exact hok.1
    · exact okTable_spec hok.2 h
theorem run_method_plain {t:TypeId}{name:String}{f:FuncId}(h:okMeth P t name f=true)(v:Value)(w:World)(n:Nat):(method (n+1) t v name).run P w= .ok (f,v) w:=by
  unfold okMeth at h
  split at h
  · rename_i i hi
    split at h
    · rename_i m hm
      simp only[Bool.and_eq_true,decide_eq_true_eq]at h
      obtain⟨⟨h1,h2⟩,h3⟩:=h
      have hp:m.path.toList= []:=by
        have:=Array.isEmpty_iff.1 h1
        rw[this]
      cases hu:P.underlying t with
      | none=> rw[hu]at h3;cases h3
      | some d=>
        rw[hu]at h3
        simp only[method,typeInfo,Sem.run_bind,run_program,Result.andThen_ok,hi,Sem.run_pure,hm,hp,follow,h2,receiverAt,run_underlying hu]
        cases d <;> first
          | (simp at h3;done)
          | simp[Place.get]
    · cases h
  · cases h
end
end Go.Sh
namespace Go.Sh
open Go.RowKit
theorem fillV_len:∀ {ps:List (Nat×Nat×V)} {cs r:List V},fillV cs ps=some r→r.length=cs.length
  | [],cs,r,h=> by
    simp only[fillV,Option.some.injEq]at h
    rw[h]
  | (o,s,v)::ps,cs,r,h=> by
    simp only[fillV]at h
    split at h
    · rename_i hc
      rw[fillV_len h,lay_len (by omega)]
    · cases h
section
variable {P:Program}{Pr:Prog}{κ:K}{st st':St}{o:Oper}{a:Act}{next:Act→World→Prop}{Q:Exit→Act→World→Prop}{x:V}
theorem run_len_arr {w:World}{t:TypeId}{n:Nat}(h:(match P.underlying t with
      | some (.array m _)=> m==n
      | some (.pointer u)=> (match P.underlying u with | some (.array m _)=> m==n | _=> false)
      | _=> false)=true) (ty:TypeId) (v:Value):(Builtin.len_ #[t] ty #[v]).run P w= .ok (goInt n) w:=by
  split at h
  · rename_i m e hu
    have:m=n:=by simpa using h
    subst this
    cases v <;> simp[Builtin.len_,run_underlying hu]
  · rename_i u hu
    split at h
    · rename_i m e hu'
      have:m=n:=by simpa using h
      subst this
      cases v <;> simp[Builtin.len_,run_underlying hu,run_underlying hu']
    · cases h
  · cases h
theorem minmax_rep {lt:Int→Int→Bool}{x y z:V}(h:minV lt x y=some z){vx vy:Value}(hx:Rep κ x vx)(hy:Rep κ y vy):∃ k p q,vx= .int k p∧vy= .int k q∧Rep κ z (.int k (if lt q p then q else p)):=by
  unfold minV at h
  split at h
  · split at h
    · rename_i k p k' q hk
      subst hk
      simp only[Option.some.injEq]at h
      subst h
      rw[rep_i]at hx hy
      exact⟨k,p,q,hx,hy,rep_i.2 rfl⟩
    · cases h
  · cases h
theorem capsV_rep:∀ {vs:List V} {cs:List (Nat×Nat)} {l:List Value},capsV vs=some cs→All2 (Rep κ) vs l→All2 (RepP κ) cs l
  | [],cs,l,h,hr=> by
    simp only[capsV,Option.some.injEq]at h
    subst h
    cases hr
    exact .nil
  | x::vs,cs,l,h,hr=> by
    unfold capsV at h
    split at h
    · rename_i he;cases he
    · rename_i id off r he
      obtain⟨rfl,rfl⟩:=List.cons.inj he
      split at h
      case h_2=> cases h
      rename_i cs' hcs
      simp only[Option.some.injEq]at h
      subst h
      cases hr with
      | cons h1 h2=>
        obtain⟨b,q1,q2⟩:=show RepC κ (.ptr id off) _ from h1
        exact .cons ⟨b,q1,q2⟩ (capsV_rep hcs h2)
    · cases h
theorem capPs_rep:∀ {cs:List (Nat×Nat)} {l:List Value},All2 (RepP κ) cs l→All2 (Rep κ) (capPs cs) l
  | [],_,.nil=> .nil
  | _::_,_,.cons h1 h2=> .cons (Rep.of1 (Rep1.ofC h1)) (capPs_rep h2)
theorem op_sound {call:CallF}(hcall:CallOk P Pr κ.L call)(hi:Inv Pr κ st){e:Env}(hE:ERel κ e a){s:SOp}(hok:okOp P κ.L o.op s=true)(h:opS Pr call e st s=some (x,st'))(hn:Then Pr κ st' x o a next):o.wp P a κ.w next Q:=by
  obtain⟨dst,op,ty,pos,after,guard⟩:=o
  simp only at hok
  have val:∀ {z:V} {u:Operand} {y:Opd},okO κ.L u y=true→y.ev Pr e=some z→Rep κ z (a.eval u):=fun h1 h2=> opd_sound hi hE h1 h2
  cases s <;> simp only[okOp]at hok <;> simp only[opS]at h
  case mov y=>
    obtain⟨h1,rfl⟩:=pureR_st h
    split at hok
    · unfold Oper.wp;exact hn κ _ (K.le.refl _) hi (val hok h1)
    · unfold Oper.wp;exact hn κ _ (K.le.refl _) hi (val hok h1)
    · cases hok
  case tok size y=>
    obtain⟨v,hv,h⟩:=bind1_some h
    split at h
    case h_2=> cases h
    simp only[Option.some.injEq,Prod.mk.injEq]at h
    obtain⟨rfl,rfl⟩:=h
    obtain⟨k1,k2⟩:=hi.tip size
    have key:∀ u,okO κ.L u y=true→next (a.put dst (a.eval u)) κ.w:=fun u hu=> by
      have hr:=val hu hv
      have hr:RepD _ _ _ _:=hr
      simp only[RepD]at hr
      obtain⟨A,cap,hv',_,d2,d3,_⟩:=hr
      have hA:A=none:=by cases A <;> simp at d2;rfl
      subst hA
      have:=d3 rfl
      subst this
      rw[hv']
      exact hn (κ.tip size) _ k1 k2 (tip_rep hi size)
    split at hok
    · unfold Oper.wp;exact key _ hok
    · unfold Oper.wp;exact key _ hok
    · cases hok
  case pick c y z=>
    obtain⟨vc,hc,h⟩:=bind1_some h
    split at h
    case h_2=> cases h
    rename_i b
    obtain⟨vy,hy,h⟩:=bind1_some h
    obtain⟨vz,hz,h⟩:=bind1_some h
    simp only[Option.some.injEq,Prod.mk.injEq]at h
    obtain⟨rfl,rfl⟩:=h
    split at hok
    case h_2=> cases hok
    rename_i c' a' b'
    simp only[Bool.and_eq_true]at hok
    have rc:=val hok.1.1 hc
    have ry:=val hok.1.2 hy
    have rz:=val hok.2 hz
    rw[rep_b]at rc
    refine wp_mem' (s:=do pure (if ← asBool (a.eval c') then a.eval a' else a.eval b')) (by simp[execOp,rc,asBool]) (Mem.pure hi ?_) hn
    refine⟨_,by simp[rc,asBool];rfl,?_⟩
    cases b
    · simpa using rz
    · simpa using ry
  case bin op' y z=>
    obtain⟨vy,hy,h⟩:=bind1_some h
    obtain⟨vz,hz,h⟩:=bind1_some h
    obtain⟨h1,rfl⟩:=pureR_st h
    split at hok
    case h_2=> cases hok
    simp only[Bool.and_eq_true,decide_eq_true_eq]at hok
    obtain⟨⟨rfl,o1⟩,o2⟩:=hok
    exact wp_mem rfl (Mem.pure hi (bin_sound h1 (val o1 hy) (val o2 hz))) hn
  case eqv neg ks y z=>
    obtain⟨vy,hy,h⟩:=bind1_some h
    obtain⟨vz,hz,h⟩:=bind1_some h
    obtain⟨h1,rfl⟩:=pureR_st h
    simp only[Option.map_eq_some_iff]at h1
    obtain⟨b,h1,rfl⟩:=h1
    split at hok
    case h_2=> cases hok
    simp only[Bool.and_eq_true,decide_eq_true_eq]at hok
    obtain⟨⟨⟨rfl,o0⟩,o1⟩,o2⟩:=hok
    exact wp_mem rfl (Mem.pure hi ⟨_,eqv_sound o0 h1 (val o1 hy) (val o2 hz),rep_b.2 rfl⟩) hn
  case un op' y=>
    obtain⟨vy,hy,h⟩:=bind1_some h
    obtain⟨h1,rfl⟩:=pureR_st h
    split at hok
    case h_2=> cases hok
    simp only[Bool.and_eq_true,decide_eq_true_eq]at hok
    obtain⟨rfl,o1⟩:=hok
    exact wp_mem rfl (Mem.pure hi (un_sound h1 (val o1 hy))) hn
  case conv k y=>
    obtain⟨vy,hy,h⟩:=bind1_some h
    obtain⟨h1,rfl⟩:=pureR_st h
    split at hok
    case h_2=> cases hok
    simp only[Bool.and_eq_true]at hok
    exact wp_mem rfl (Mem.pure hi (conv_sound hok.1.1 hok.1.2 h1 (val hok.2 hy))) hn
  case s2b y=>
    obtain⟨vy,hy,h⟩:=bind1_some h
    split at h
    case h_2=> cases h
    simp only[Option.some.injEq,Prod.mk.injEq]at h
    obtain⟨rfl,rfl⟩:=h
    split at hok
    case h_2=> cases hok
    simp only[Bool.and_eq_true]at hok
    obtain⟨el,hu,he⟩:=elemOk_spec hok.1.2
    exact wp_mem rfl (s2b_mem hi hok.1.1 hu he (val hok.2 hy)) hn
  case b2s y=>
    obtain⟨vy,hy,h⟩:=bind1_some h
    obtain⟨h1,rfl⟩:=pureR_st h
    split at hok
    case h_2=> cases hok
    simp only[Bool.and_eq_true]at hok
    obtain⟨el,hu,he⟩:=elemOk_spec hok.1.2
    exact wp_mem rfl (b2s_mem hi hu he hok.1.1 h1 (val hok.2 hy)) hn
  case build z ps=>
    split at h
    case h_2=> cases h
    rename_i vs hvs
    obtain⟨h1,rfl⟩:=pureR_st h
    simp only[Option.map_eq_some_iff]at h1
    obtain⟨zs,hz,rfl⟩:=h1
    split at hok
    case h_2=> cases hok
    simp only[Bool.and_eq_true]at hok
    obtain⟨o1,o2⟩:=hok
    split at o2
    case h_2=> cases o2
    rename_i place hp
    exact wp_mem rfl (Mem.pure hi (build_sound o1 hp o2 hi hE hvs hz)) hn
  case lits n z ps=>
    split at h
    case h_2=> cases h
    rename_i vs hvs
    obtain⟨h1,rfl⟩:=pureR_st h
    split at h1
    case h_2=> cases h1
    rename_i cs hcs
    simp only[Option.map_eq_some_iff]at h1
    obtain⟨ds,hds,rfl⟩:=h1
    split at hok
    case h_2=> cases hok
    simp only[Bool.and_eq_true,decide_eq_true_eq]at hok
    obtain⟨⟨⟨rfl,o1⟩,o2⟩,o3⟩:=hok
    obtain⟨el,hu,hz⟩:=elemOk_spec o1
    obtain⟨arr,hr,ha⟩:=lits_sound (w:=κ.w) hu hz o2 o3 hi hE hvs hcs
    refine wp_mem rfl (slNew_mem hi (Nat.le_refl _) hds (k:=arr.size) ?_ hr) hn
    rw[List.take_of_length_le (by simp)]
    exact ha
  case litsO n z ps=>
    split at h
    case h_2=> cases h
    rename_i vs hvs
    split at h
    case h_2=> cases h
    rename_i cs hcs
    split at h
    case h_2=> cases h
    rename_i ds hds
    simp only[Option.some.injEq,Prod.mk.injEq]at h
    obtain⟨rfl,rfl⟩:=h
    split at hok
    case h_2=> cases hok
    simp only[Bool.and_eq_true,decide_eq_true_eq]at hok
    obtain⟨⟨⟨⟨rfl,o1⟩,o2⟩,o4⟩,o3⟩:=hok
    obtain⟨el,hu,hz⟩:=elemOk_spec o1
    obtain⟨arr,hr,ha⟩:=lits_sound (w:=κ.w) hu hz o2 o3 hi hE hvs hcs
    have hfl:=fillV_len hcs
    refine wp_mem rfl (ownNew_mem hi (toDs_rep hds ha) ?_ (by simp only[maxLen];omega) hr) hn
    have:=ha.length
    rw[hfl]at this
    simp only[ofDs,List.length_map,reps_len,Array.length_toList]at this
    exact this.symm
  case litsR n z ps=>
    split at h
    case h_2=> cases h
    rename_i vs hvs
    split at h
    case h_2=> cases h
    rename_i cs hcs
    simp only[Option.some.injEq,Prod.mk.injEq]at h
    obtain⟨rfl,rfl⟩:=h
    split at hok
    case h_2=> cases hok
    simp only[Bool.and_eq_true,decide_eq_true_eq]at hok
    obtain⟨⟨⟨rfl,o1⟩,o2⟩,o3⟩:=hok
    obtain⟨el,hu,hz⟩:=elemOk_spec o1
    obtain⟨arr,hr,ha⟩:=lits_sound (w:=κ.w) hu hz o2 o3 hi hE hvs hcs
    exact wp_mem rfl (slRef_mem hi (Nat.le_refl _) ha hr) hn
  case box y=>
    obtain⟨vy,hy,h⟩:=bind1_some h
    split at h
    case isFalse=> cases h
    rename_i h1
    simp only[Option.some.injEq,Prod.mk.injEq]at h
    obtain⟨rfl,rfl⟩:=h
    split at hok
    case h_2=> cases hok
    exact wp_mem rfl (box_mem hi h1 (val hok hy)) hn
  case boxI y=>
    obtain⟨vy,hy,h⟩:=bind1_some h
    split at h
    case isFalse=> cases h
    rename_i h1
    obtain⟨h2,rfl⟩:=pureR_st h
    simp only[Option.map_eq_some_iff]at h2
    obtain⟨ds,hds,rfl⟩:=h2
    split at hok
    case h_2=> cases hok
    exact wp_mem rfl (boxI_mem hi h1 hds (val hok hy)) hn
  case alloc z=>
    simp only[Option.some.injEq,Prod.mk.injEq]at h
    obtain⟨rfl,rfl⟩:=h
    split at hok
    case h_2=> cases hok
    exact wp_mem rfl (alloc_mem hi hok) hn
  case load size agg p=>
    obtain⟨vp,hp,h⟩:=bind1_some h
    obtain⟨h1,rfl⟩:=pureR_st h
    split at hok
    case h_2=> cases hok
    simp only[Bool.and_eq_true]at hok
    exact wp_mem rfl (Mem.pure1 hi (load_sound hi hok.1.1 hok.1.2 h1 (val hok.2 hp))) hn
  case store size p y=>
    obtain⟨vp,hp,h⟩:=bind1_some h
    obtain⟨vy,hy,h⟩:=bind1_some h
    obtain⟨h1,rfl⟩:=stR_st h
    split at hok
    case h_2=> cases hok
    simp only[Bool.and_eq_true]at hok
    exact wp_skip' rfl (store_mem hi hok.1.1 h1 (val hok.1.2 hp) (val hok.2 hy)) hn
  case storeX size p y qs=>
    obtain⟨vp,hp,h⟩:=bind1_some h
    obtain⟨vy,hy,h⟩:=bind1_some h
    split at h
    case isFalse=> cases h
    obtain⟨h1,rfl⟩:=stR_st h
    split at hok
    case h_2=> cases hok
    simp only[Bool.and_eq_true]at hok
    exact wp_skip' rfl (store_mem hi hok.1.1 h1 (val hok.1.2 hp) (val hok.2 hy)) hn
  case faddr off p=>
    obtain⟨vp,hp,h⟩:=bind1_some h
    obtain⟨h1,rfl⟩:=pureR_st h
    split at hok
    case h_2=> cases hok
    simp only[Bool.and_eq_true]at hok
    obtain⟨o1,o2⟩:=hok
    split at o1
    case h_2=> cases o1
    rename_i fd hfd
    exact wp_mem rfl (Mem.pure hi (faddr_sound hfd o1 h1 (val o2 hp))) hn
  case field off size agg y=>
    obtain⟨vy,hy,h⟩:=bind1_some h
    obtain⟨h1,rfl⟩:=pureR_st h
    split at hok
    case h_2=> cases hok
    simp only[Bool.and_eq_true]at hok
    obtain⟨o1,o2⟩:=hok
    split at o1
    case h_2=> cases o1
    rename_i fd hfd
    simp only[Bool.and_eq_true]at o1
    exact wp_mem rfl (Mem.pure1 hi (field_sound hfd o1.1 o1.2 h1 (val o2 hy))) hn
  case iaddr size y i=>
    obtain⟨vy,hy,h⟩:=bind1_some h
    obtain⟨vi,hvi,h⟩:=bind1_some h
    obtain⟨h1,rfl⟩:=pureR_st h
    split at hok
    case h_2=> cases hok
    simp only[Bool.and_eq_true]at hok
    exact wp_mem rfl (Mem.pure hi (iaddr_sound hok.1.1 h1 (val hok.1.2 hy) (val hok.2 hvi))) hn
  case iaddrA len size y i=>
    obtain⟨vy,hy,h⟩:=bind1_some h
    obtain⟨vi,hvi,h⟩:=bind1_some h
    obtain⟨h1,rfl⟩:=pureR_st h
    split at hok
    case h_2=> cases hok
    simp only[Bool.and_eq_true]at hok
    exact wp_mem rfl (Mem.pure hi (iaddrA_sound hok.1.1 h1 (val hok.1.2 hy) (val hok.2 hvi))) hn
  case idx len size agg y i=>
    obtain⟨vy,hy,h⟩:=bind1_some h
    obtain⟨vi,hvi,h⟩:=bind1_some h
    obtain⟨h1,rfl⟩:=pureR_st h
    split at hok
    case h_2=> cases hok
    simp only[Bool.and_eq_true]at hok
    obtain⟨⟨o1,o2⟩,o3⟩:=hok
    split at o1
    case h_2=> cases o1
    rename_i n el hu
    simp only[Bool.and_eq_true,beq_iff_eq]at o1
    obtain⟨⟨rfl,o4⟩,o5⟩:=o1
    exact wp_mem rfl (Mem.pure1 hi (idx_sound hu o4 o5 h1 (val o2 hy) (val o3 hvi))) hn
  case idxS y i=>
    obtain⟨vy,hy,h⟩:=bind1_some h
    obtain⟨vi,hvi,h⟩:=bind1_some h
    obtain⟨h1,rfl⟩:=pureR_st h
    split at hok
    case h_2=> cases hok
    simp only[Bool.and_eq_true]at hok
    exact wp_mem rfl (Mem.pure hi (idxS_sound hok.1.1 h1 (val hok.1.2 hy) (val hok.2 hvi))) hn
  case slc size y lo hi' mx=>
    obtain⟨vy,hy,h⟩:=bind1_some h
    split at h
    case h_2=> cases h
    rename_i l1 h1' m1 e1 e2 e3
    obtain⟨h1,rfl⟩:=pureR_st h
    split at hok
    case h_2=> cases hok
    simp only[Bool.and_eq_true,Bool.or_eq_true,Bool.not_eq_true']at hok
    obtain⟨⟨⟨⟨⟨o1,o2⟩,o3⟩,o4⟩,o5⟩,o6⟩:=hok
    refine wp_mem rfl (Mem.pure hi (slc_sound o1 h1 (val o2 hy) (opo_sound hi hE o3 e1) (opo_sound hi hE o4 e2) (opo_sound hi hE o5 e3) ?_)) hn
    rw[evo_some e3,evo_some e2]
    intro hm
    rcases o6 with o6 | o6
    · rw[hm]at o6;cases o6
    · exact o6
  case slcS y lo hi'=>
    obtain⟨vy,hy,h⟩:=bind1_some h
    split at h
    case h_2=> cases h
    rename_i l1 h1' e1 e2
    obtain⟨h1,rfl⟩:=pureR_st h
    split at hok
    case h_2=> cases hok
    rename_i t y' l' h' m'
    simp only[Bool.and_eq_true,Bool.not_eq_true',Option.isSome_eq_false_iff,Option.isNone_iff_eq_none]at hok
    obtain⟨⟨⟨⟨o1,o2⟩,o3⟩,o4⟩,o5⟩:=hok
    subst o5
    exact wp_mem rfl (Mem.pure hi (slcS_sound o1 h1 (val o2 hy) (opo_sound hi hE o3 e1) (opo_sound hi hE o4 e2))) hn
  case slcA len size y lo hi' mx=>
    obtain⟨vy,hy,h⟩:=bind1_some h
    split at h
    case h_2=> cases h
    rename_i l1 h1' m1 e1 e2 e3
    obtain⟨h1,rfl⟩:=pureR_st h
    split at hok
    case h_2=> cases hok
    rw[Bool.and_eq_true,Bool.and_eq_true,Bool.and_eq_true,Bool.and_eq_true,Bool.and_eq_true]at hok
    obtain⟨⟨⟨⟨⟨o1,o2⟩,o3⟩,o4⟩,o5⟩,o6⟩:=hok
    refine wp_mem rfl (Mem.pure hi (slcA_sound o1 h1 (val o2 hy) (opo_sound hi hE o3 e1) (opo_sound hi hE o4 e2) (opo_sound hi hE o5 e3) ?_)) hn
    rw[evo_some e3,evo_some e2]
    intro hm
    rw[hm]at o6
    simpa using o6
  case mkR bytes z l c=>
    obtain⟨vl,hl,h⟩:=bind1_some h
    obtain⟨vc,hc,h⟩:=bind1_some h
    split at h
    case h_2=> cases h
    rename_i n m h1 h2
    split at h
    case isFalse=> cases h
    rename_i hnm
    simp only[Option.some.injEq,Prod.mk.injEq]at h
    obtain⟨rfl,rfl⟩:=h
    split at hok
    case h_2=> cases hok
    simp only[Bool.and_eq_true]at hok
    obtain⟨el,hu,hz⟩:=elemOk_spec hok.1.1
    simp only[Bool.and_eq_true]at hz
    exact wp_mem rfl (mkR_mem hi hu hz.1 hz.2 hnm h1 h2 (val hok.1.2 hl) (val hok.2 hc)) hn
  case mkD bytes z l c=>
    obtain⟨vl,hl,h⟩:=bind1_some h
    obtain⟨vc,hc,h⟩:=bind1_some h
    split at h
    case h_2=> cases h
    rename_i n m h1 h2
    split at h
    case isFalse=> cases h
    rename_i hnm
    simp only[Option.some.injEq,Prod.mk.injEq]at h
    obtain⟨rfl,rfl⟩:=h
    split at hok
    case h_2=> cases hok
    simp only[Bool.and_eq_true]at hok
    obtain⟨el,hu,hz⟩:=elemOk_spec hok.1.1
    simp only[Bool.and_eq_true]at hz
    exact wp_mem rfl (mkD_mem hi hu hz.1 hz.2 hnm h1 h2 (val hok.1.2 hl) (val hok.2 hc)) hn
  case mkO bytes size z l c=>
    obtain⟨vl,hl,h⟩:=bind1_some h
    obtain⟨vc,hc,h⟩:=bind1_some h
    split at h
    case h_2=> cases h
    rename_i n m h1 h2
    split at h
    case isFalse=> cases h
    rename_i hnm
    simp only[Option.some.injEq,Prod.mk.injEq]at h
    obtain⟨rfl,rfl⟩:=h
    split at hok
    case h_2=> cases hok
    simp only[Bool.and_eq_true]at hok
    obtain⟨el,hu,hz⟩:=elemOk_spec hok.1.1
    simp only[Bool.and_eq_true]at hz
    have:=mkO_mem (P:=P) hi hu hz.1 hz.2 hnm.1 h1 h2 (val hok.1.2 hl) (val hok.2 hc)
    rw[hnm.2]at this
    exact wp_mem rfl this hn
  case len str y=>
    obtain⟨vy,hy,h⟩:=bind1_some h
    obtain⟨h1,rfl⟩:=pureR_st h
    simp only[Option.map_eq_some_iff]at h1
    obtain⟨n,h1,rfl⟩:=h1
    split at hok
    case h_2=> cases hok
    rename_i a' t
    simp only[Bool.and_eq_true]at hok
    obtain⟨o1,o2⟩:=hok
    refine wp_mem' (s:=Builtin.len_ #[t] ty #[a.eval a']) (by simp[execOp,resolve,invoke,builtin]) (Mem.pure hi ⟨_,?_,rep_i.2 rfl⟩) hn
    cases str with
    | true=> exact lenS_sound (by simpa using o1) (by simpa using h1) (val o2 hy) ty
    | false=>
      obtain⟨el,hu,_⟩:=elemOk_spec (by simpa using o1)
      exact len_sound hu (by simpa using h1) (val o2 hy) ty
  case lenA n=>
    simp only[Option.some.injEq,Prod.mk.injEq]at h
    obtain⟨rfl,rfl⟩:=h
    split at hok
    case h_2=> cases hok
    rename_i a' t
    exact wp_mem' (s:=Builtin.len_ #[t] ty #[a.eval a']) (by simp[execOp,resolve,invoke,builtin]) (Mem.pure hi ⟨_,run_len_arr hok ty _,rep_i.2 rfl⟩) hn
  case appR=> cases h
  case appZ size bytes z0 y z=>
    obtain⟨vy,hy,h⟩:=bind1_some h
    obtain⟨vz,hz,h⟩:=bind1_some h
    split at hok
    case h_2=> cases hok
    rename_i a' b' t u
    simp only[Bool.and_eq_true]at hok
    obtain⟨⟨⟨o1,o2⟩,o3⟩,o4⟩:=hok
    obtain⟨el,hu,he⟩:=elemOk_spec o1
    simp only[Bool.and_eq_true]at he
    split at o2
    case h_2=> cases o2
    rename_i kn hd
    exact wp_mem' (s:=Builtin.append_ #[t,u] ty #[a.eval a',a.eval b']) (by simp[execOp,resolve,invoke,builtin]) (appZ_mem hi hu hd he.1.1 he.1.2 he.2 h (val o3 hy) (val o4 hz)) hn
  case app size bytes y z=>
    obtain⟨vy,hy,h⟩:=bind1_some h
    obtain⟨vz,hz,h⟩:=bind1_some h
    split at hok
    case h_2=> cases hok
    rename_i a' b' t u
    simp only[Bool.and_eq_true]at hok
    obtain⟨⟨⟨o1,o2⟩,o3⟩,o4⟩:=hok
    obtain⟨el,hu,he⟩:=elemOk_spec o1
    simp only[Bool.and_eq_true]at he
    have hxt:∃ d,P.underlying u=some d∧∀ k,d≠ .int k:=by
      unfold appSrc at o2
      split at o2
      · rename_i hq;exact⟨_,hq,by simp⟩
      · rename_i hq;exact⟨_,hq,by simp⟩
      · cases o2
    exact wp_mem' (s:=Builtin.append_ #[t,u] ty #[a.eval a',a.eval b']) (by simp[execOp,resolve,invoke,builtin]) (app_mem hi hu hxt he.1.1 he.1.2 he.2 h (val o3 hy) (val o4 hz)) hn
  case clr size z0 y=>
    obtain⟨vy,hy,h⟩:=bind1_some h
    split at hok
    case h_2=> cases hok
    rename_i a' t
    simp only[Bool.and_eq_true]at hok
    obtain⟨el,hu,he⟩:=elemOk_spec hok.1
    simp only[Bool.and_eq_true]at he
    exact wp_mem' (s:=Builtin.clear_ #[t] ty #[a.eval a']) (by simp[execOp,resolve,invoke,builtin]) (clr_mem hi hu he.1 he.2 h (val hok.2 hy)) hn
  case cpy size y z=>
    obtain⟨vy,hy,h⟩:=bind1_some h
    obtain⟨vz,hz,h⟩:=bind1_some h
    split at hok
    case h_2=> cases hok
    rename_i a' b' t u
    simp only[Bool.and_eq_true]at hok
    obtain⟨el,hu,he⟩:=elemOk_spec hok.1.1
    exact wp_mem' (s:=Builtin.copy_ #[t,u] ty #[a.eval a',a.eval b']) (by simp[execOp,resolve,invoke,builtin]) (cpy_mem hi hu he h (val hok.1.2 hy) (val hok.2 hz)) hn
  case mkI tag agg y=>
    obtain⟨vy,hy,h⟩:=bind1_some h
    obtain⟨h1,rfl⟩:=pureR_st h
    split at hok
    case h_2=> cases hok
    simp only[Bool.and_eq_true,decide_eq_true_eq]at hok
    exact wp_mem rfl (Mem.pure hi (mkI_sound hok.1.1 hok.1.2 h1 (val hok.2 hy))) hn
  case assertT tag others ok z za y=>
    obtain⟨vy,hy,h⟩:=bind1_some h
    obtain⟨h1,rfl⟩:=pureR_st h
    split at hok
    case h_2=> cases hok
    rename_i a' xt t ok'
    rw[Bool.and_eq_true,Bool.and_eq_true,Bool.and_eq_true,Bool.and_eq_true,Bool.and_eq_true]at hok
    obtain⟨⟨⟨⟨⟨o1,o2⟩,o3⟩,o4⟩,o5⟩,o6⟩:=hok
    have:ok'=ok:=by simpa using o3
    subst this
    exact wp_mem rfl (Mem.pure hi (assert_sound (of_decide_eq_true o1) o2 o4 o5 h1 (val o6 hy))) hn
  case extract i y=>
    obtain⟨vy,hy,h⟩:=bind1_some h
    split at h
    case h_2=> cases h
    obtain⟨h1,rfl⟩:=pureR_st h
    split at hok
    case h_2=> cases hok
    simp only[Bool.and_eq_true,beq_iff_eq]at hok
    obtain⟨rfl,o1⟩:=hok
    exact wp_mem rfl (Mem.pure hi (extract_sound h1 (val o1 hy))) hn
  case nilChk y=>
    obtain⟨vy,hy,h⟩:=bind1_some h
    split at hok
    case h_2=> cases hok
    rename_i a'
    have hr:=val hok hy
    have key:∀ v,a.eval a'=v→(execOp a.eval {dst:=dst,op:=Op.nilCheck a',type:=ty,pos:=pos,after:=after,guard:=guard}=pure (.value v))→Rep κ x v→st'=st→Oper.wp P {dst:=dst,op:=Op.nilCheck a',type:=ty,pos:=pos,after:=after,guard:=guard} a κ.w next Q:=by
      intro v hv he hx hst
      subst hst
      unfold Oper.wp
      rw[he]
      exact hn κ v (K.le.refl _) hi hx
    split at h
    · simp only[Option.some.injEq,Prod.mk.injEq]at h
      obtain⟨rfl,rfl⟩:=h
      obtain⟨b,h1,h2⟩:=hr
      exact key _ h2 (by simp[execOp,h2]) ⟨b,h1,rfl⟩ rfl
    · simp only[Option.some.injEq,Prod.mk.injEq]at h
      obtain⟨rfl,rfl⟩:=h
      obtain⟨A,h1,h2⟩:=hr
      exact key _ h1 (by simp[execOp,h1]) ⟨A,rfl,h2⟩ rfl
    · simp only[Option.some.injEq,Prod.mk.injEq]at h
      obtain⟨rfl,rfl⟩:=h
      have hr':=hr
      have hr:RepD _ _ _ _:=hr
      simp only[RepD]at hr
      obtain⟨l,h1,h2⟩:=hr
      exact key _ h1 (by simp[execOp,h1]) (by rw[← h1];exact hr') rfl
    · cases h
  case call f args=>
    split at h
    case h_2=> cases h
    rename_i vs hvs
    split at hok
    case h_2=> cases hok
    rename_i g as at'
    simp only[Bool.and_eq_true,beq_iff_eq]at hok
    obtain⟨⟨rfl,o1⟩,o2⟩:=hok
    refine wp_call hcall hi (opds_sound hi hE o2 hvs) h ?_ hn
    have harr:Array.map a.eval as=(List.map a.eval as.toList).toArray:=by rw[← Array.toList_map,Array.toArray_toList]
    simp[execOp,resolve,Deferred.ofValue,Act.eval,invoke,okCall_run o1]
    exact harr
  case invoke table r args=>
    obtain⟨vr,hr,h⟩:=bind1_some h
    split at h
    case h_2=> cases h
    rename_i tag agg ds
    split at h
    case h_2=> cases h
    rename_i f v vs hf hv hvs
    split at hok
    case h_2=> cases hok
    rename_i a' name as at'
    simp only[Bool.and_eq_true]at hok
    obtain⟨⟨o1,o2⟩,o3⟩:=hok
    obtain⟨m1,m2⟩:=okTable_spec o2 hf
    have hrr:RepD _ _ _ _:=val o1 hr
    simp only[RepD]at hrr
    obtain⟨l,h1,h2,h3⟩:=hrr
    have hrecv:=mkV_rep hv (ofDs_rep (RepA.all2.1 h3))
    refine wp_call hcall hi (args:=v::vs) (.cons (Rep.of1 hrecv) (opds_sound hi hE o3 hvs)) h ?_ hn
    have hpos:0 < Made.depth:=by decide
    obtain⟨n,hn'⟩:∃ n,P.types.size+Made.depth=n+1:=⟨P.types.size+Made.depth - 1,by omega⟩
    have hext:∀ (x:Value) (l:List Value),((#[x]++l.toArray).extract 1 (#[x]++l.toArray).size)=l.toArray:=fun x l=> by simp
    have harr:Array.map a.eval as=(List.map a.eval as.toList).toArray:=by rw[← Array.toList_map,Array.toArray_toList]
    simp[execOp,resolve,invoke,h1,callMethod,hn',run_method_plain m1,okCall_run m2,harr]
    exact List.take_of_length_le (by simp)
  case mkFn f caps=>
    split at h
    case h_2=> cases h
    rename_i vs hvs
    obtain⟨h1,rfl⟩:=pureR_st h
    simp only[Option.map_eq_some_iff]at h1
    obtain⟨cs,hcs,rfl⟩:=h1
    split at hok
    case h_2=> cases hok
    rename_i g as
    simp only[Bool.and_eq_true,beq_iff_eq]at hok
    obtain⟨rfl,o2⟩:=hok
    refine wp_mem rfl (Mem.pure hi ⟨_,by simp[Instr.makeFunc];rfl,?_⟩) hn
    refine⟨as.toList.map a.eval,?_,capsV_rep hcs (opds_sound hi hE o2 hvs)⟩
    rw[← Array.toList_map,Array.toArray_toList]
  case callC fs y args=>
    obtain⟨vy,hy,h⟩:=bind1_some h
    split at h
    case h_2=> cases h
    rename_i f caps
    split at h
    case isFalse=> cases h
    rename_i hf
    split at h
    case h_2=> cases h
    rename_i vs hvs
    split at hok
    case h_2=> cases hok
    rename_i a' as at'
    simp only[Bool.and_eq_true,List.all_eq_true]at hok
    obtain⟨⟨o1,o2⟩,o3⟩:=hok
    obtain⟨l,h1,h2⟩:=show RepC κ (.fn f caps) _ from val o1 hy
    refine wp_call hcall hi (args:=vs++capPs caps) (vals:=as.toList.map a.eval++l) (All2.append (opds_sound hi hE o3 hvs) (capPs_rep h2)) h ?_ hn
    have harr:Array.map a.eval as=(List.map a.eval as.toList).toArray:=by rw[← Array.toList_map,Array.toArray_toList]
    have hext:(List.map a.eval as.toList).toArray++l.toArray=(List.map a.eval as.toList++l).toArray:=by simp
    simp[execOp,resolve,Deferred.ofValue,h1,invoke,okCall_run (o2 f (by simpa using hf)),harr]
  case mx y z=>
    obtain⟨vy,hy,h⟩:=bind1_some h
    obtain⟨vz,hz,h⟩:=bind1_some h
    obtain⟨h1,rfl⟩:=pureR_st h
    split at hok
    case h_2=> cases hok
    rename_i a' b' at'
    simp only[Bool.and_eq_true]at hok
    obtain⟨k,p,q,e1,e2,e3⟩:=minmax_rep h1 (val hok.1 hy) (val hok.2 hz)
    refine wp_mem' (s:=Builtin.max_ at' ty #[a.eval a',a.eval b']) (by simp[execOp,resolve,invoke,builtin]) (Mem.pure hi ⟨_,?_,e3⟩) hn
    rw[e1,e2]
    simp[Builtin.max_,Builtin.max2]
  case mn y z=>
    obtain⟨vy,hy,h⟩:=bind1_some h
    obtain⟨vz,hz,h⟩:=bind1_some h
    obtain⟨h1,rfl⟩:=pureR_st h
    split at hok
    case h_2=> cases hok
    rename_i a' b' at'
    simp only[Bool.and_eq_true]at hok
    obtain⟨k,p,q,e1,e2,e3⟩:=minmax_rep h1 (val hok.1 hy) (val hok.2 hz)
    refine wp_mem' (s:=Builtin.min_ at' ty #[a.eval a',a.eval b']) (by simp[execOp,resolve,invoke,builtin]) (Mem.pure hi ⟨_,?_,e3⟩) hn
    rw[e1,e2]
    simp[Builtin.min_,Builtin.min2]
  case mkMap r=>
    split at hok
    case h_2=> cases hok
    rename_i t r'
    simp only[Bool.and_eq_true]at hok
    obtain⟨o1,o2⟩:=hok
    have fin:∀ w,evo Pr e r=some w→(∀ v,w=some v→∃ i,intV v=some i)→Mem P Pr κ (st.push (.map [])) (.map st.heap.length) (Instr.makeMap t (r'.map a.eval)):=by
      intro w hw hint
      refine mkMap_mem hi ?_
      have hrep:=opo_sound hi hE o1 hw
      cases w with
      | none=>
        left
        cases hr:r'.map a.eval with
        | none=> rfl
        | some v=> rw[hr]at hrep;exact hrep.elim
      | some v=>
        obtain⟨i,hiv⟩:=hint v rfl
        cases hr:r'.map a.eval with
        | none=> rw[hr]at hrep;exact hrep.elim
        | some u=>
          rw[hr]at hrep
          have hrep:Rep κ v u:=hrep
          have hsome:=evo_some hw
          have hrs:r.isSome=true:=by rw[← hsome];rfl
          rw[hrs]at o2
          obtain⟨ky,el,hu,_⟩:=mapTy_spec (by simpa using o2)
          right
          cases v <;> simp only[intV]at hiv <;> try (cases hiv;done)
          rename_i d _
          cases d <;> simp only[intV]at hiv <;> try (cases hiv;done)
          rw[rep_i]at hrep
          exact⟨_,_,ky,el,by rw[hrep],hu⟩
    split at h
    · rename_i hw
      simp only[Option.some.injEq,Prod.mk.injEq]at h
      obtain⟨rfl,rfl⟩:=h
      exact wp_mem rfl (fin _ hw fun v hv=> by cases hv) hn
    · rename_i v hw
      split at h
      · rename_i i hiv
        simp only[Option.some.injEq,Prod.mk.injEq]at h
        obtain⟨rfl,rfl⟩:=h
        exact wp_mem rfl (fin _ hw fun u hu=> by simp only[Option.some.injEq]at hu;subst hu;exact⟨i,hiv⟩) hn
      · cases h
    · cases h
  case lenM m=>
    obtain⟨vm,hm,h⟩:=bind1_some h
    split at hok
    case h_2=> cases hok
    rename_i a' t
    simp only[Bool.and_eq_true]at hok
    obtain⟨o1,o2⟩:=hok
    obtain⟨ky,el,hu,_⟩:=mapTy_spec o1
    split at h
    · simp only[Option.some.injEq,Prod.mk.injEq]at h
      obtain⟨rfl,rfl⟩:=h
      exact wp_mem' (s:=Builtin.len_ #[t] ty #[a.eval a']) (by simp[execOp,resolve,invoke,builtin]) (Mem.pure hi ⟨_,lenM_run hi hu (n:=0) (.inl ⟨rfl,rfl⟩) (val o2 hm) ty,rep_i.2 rfl⟩) hn
    · rename_i id
      split at h
      · rename_i es hes
        simp only[Option.some.injEq,Prod.mk.injEq]at h
        obtain⟨rfl,rfl⟩:=h
        exact wp_mem' (s:=Builtin.len_ #[t] ty #[a.eval a']) (by simp[execOp,resolve,invoke,builtin]) (Mem.pure hi ⟨_,lenM_run hi hu (.inr ⟨id,es,rfl,hes,rfl⟩) (val o2 hm) ty,rep_i.2 rfl⟩) hn
      · cases h
    · cases h
  case look str ok z za m k=>
    obtain⟨vm,hm,h⟩:=bind1_some h
    obtain⟨vk,hk,h⟩:=bind1_some h
    obtain⟨h1,rfl⟩:=pureR_st h
    split at hok
    case h_2=> cases hok
    simp only[Bool.and_eq_true,beq_iff_eq]at hok
    obtain⟨⟨⟨o1,rfl⟩,o3⟩,o4⟩:=hok
    obtain⟨ky,el,hu,o1⟩:=mapTy_spec o1
    simp only[Bool.and_eq_true]at o1
    exact wp_mem rfl (look_mem hi hu o1.1 o1.2 h1 (val o3 hm) (val o4 hk)) hn
  case mapSet str m k y=>
    obtain⟨vm,hm,h⟩:=bind1_some h
    obtain⟨vk,hk,h⟩:=bind1_some h
    obtain⟨vy,hy,h⟩:=bind1_some h
    split at h
    case isFalse=> cases h
    rename_i hy1
    obtain⟨h1,rfl⟩:=stR_st h
    split at hok
    case h_2=> cases hok
    simp only[Bool.and_eq_true]at hok
    obtain⟨⟨⟨o1,o2⟩,o3⟩,o4⟩:=hok
    obtain⟨ky,el,hu,o1⟩:=mapTy_spec o1
    exact wp_skip' rfl (mapSet_mem hi hu o1 h1 hy1 (val o2 hm) (val o3 hk) (val o4 hy)) hn
end
end Go.Sh
namespace Go.Sh
open Go.RowKit
def okOper (P:Program)(L:Link)(n:Nat)(o:Oper)(s:SOper):Bool:=decide (o.dst=s.dst) && decide (o.guard=s.guard) && (match s.dst with | some d=> decide (d < n) | none=> true) && okOp P L o.op s.op
def okOpers (P:Program)(L:Link)(n:Nat):List Oper→List SOper→Bool
  | [],[]=> true
  | o::os,s::ss=> okOper P L n o s && okOpers P L n os ss
  | _,_=> false
theorem okOpers_get {P:Program}{L:Link}{n:Nat}:∀ {os:List Oper} {ss:List SOper},okOpers P L n os ss=true→os.length=ss.length∧∀ (i:Nat) o s,os[i]? =some o→ss[i]? =some s→okOper P L n o s=true
  | [],[],_=> ⟨rfl,fun i o s h=> by simp at h⟩
  | o::os,s::ss,h=> by
    simp only[okOpers,Bool.and_eq_true]at h
    obtain⟨h1,h2⟩:=okOpers_get h.2
    refine⟨by simp[h1],fun i o' s' ho hs=> ?_⟩
    cases i with
    | zero=>
      simp only[List.getElem?_cons_zero,Option.some.injEq]at ho hs
      subst ho
      subst hs
      exact h.1
    | succ i=> exact h2 i o' s' (by simpa using ho) (by simpa using hs)
  | [],_::_,h=> by simp[okOpers]at h
  | _::_,[],h=> by simp[okOpers]at h
theorem okOper_spec {P:Program}{L:Link}{n:Nat}{o:Oper}{s:SOper}(h:okOper P L n o s=true):o.dst=s.dst∧o.guard=s.guard∧(∀ d,s.dst=some d→d < n)∧okOp P L o.op s.op=true:=by
  simp only[okOper,Bool.and_eq_true,decide_eq_true_eq]at h
  obtain⟨⟨⟨h1,h2⟩,h3⟩,h4⟩:=h
  refine⟨h1,h2,fun d hd=> ?_,h4⟩
  rw[hd]at h3
  simpa using h3
section
variable {P:Program}{Pr:Prog}{κ:K}{st st':St}{a:Act}{x:V}{e:Env}{n:Nat}
theorem put_size (a:Act)(d:Option Tmp)(v:Value):(a.put d v).tmps.size=a.tmps.size:=by
  cases d <;> simp[Act.put]
theorem put_defs (a:Act)(d:Option Tmp)(v:Value):(a.put d v).defers=a.defers:=by
  cases d <;> rfl
theorem erel_put {v:Value}(hE:ERel κ e a)(hx:Rep κ x v){d:Option Nat}(hd:∀ j,d=some j→j < a.tmps.size):ERel κ (put e d x) (a.put d v):=by
  cases d with
  | none=> exact hE
  | some j=>
    intro i u hi
    simp only[put,Env.get]at hi
    rw[put_size]
    split at hi
    · rename_i hj
      subst hj
      simp only[Option.some.injEq]at hi
      subst hi
      refine⟨hd j rfl,?_⟩
      have:=hd j rfl
      simpa[Act.put,Array.getElem?_setIfInBounds,this]using hx
    · rename_i hne
      obtain⟨h1,h2⟩:=hE i u hi
      refine⟨h1,?_⟩
      have:(a.tmps.setIfInBounds j v)[i]? =a.tmps[i]? :=Array.getElem?_setIfInBounds_ne hne
      simpa[Act.put,Array.getD_eq_getD_getElem?,this]using h2
theorem wanted_sound {ops:Array Oper}{ss:List SOper}(hok:okOpers P κ.L n ops.toList ss=true)(hE:ERel κ e a){o:Oper}{s:SOper}(hg:o.guard=s.guard){b:Bool}(h:wants ss e s.guard=some b):Region.wanted o (yielded ops a.tmps)=b:=by
  unfold wants at h
  unfold Region.wanted
  rw[hg]
  split at h
  · rename_i hq
    rw[hq]
    simp only[Option.some.injEq]at h
    exact h
  · rename_i j want hq
    rw[hq]
    simp only
    split at h
    case h_2=> cases h
    rename_i sj hsj
    split at h
    case h_2=> cases h
    rename_i d hd
    obtain⟨hlen,hall⟩:=okOpers_get hok
    have hjlt:=(List.getElem?_eq_some_iff.1 hsj).1
    obtain⟨oj,hoj⟩:∃ oj,ops.toList[j]? =some oj:=⟨ops.toList[j]'(by omega),List.getElem?_eq_getElem (by omega)⟩
    obtain⟨h1,_⟩:=okOper_spec (hall j oj sj hoj hsj)
    have hoj':ops[j]? =some oj:=by simpa using hoj
    have hy:∀ (u:Value),d < a.tmps.size→a.tmps.getD d undef=u→yielded ops a.tmps j=match u with | .bool b=> some b | _=> none:=by
      intro u hlt hu
      have:a.tmps[d]? =some u:=by
        rw[Array.getElem?_eq_getElem hlt]
        rw[← hu]
        simp[hlt]
      unfold yielded
      simp only[hoj',Option.bind_some,h1,hd,this]
      cases u <;> rfl
    split at h
    · rename_i y hy'
      simp only[Option.some.injEq]at h
      obtain⟨k1,k2⟩:=hE d _ hy'
      rw[rep_b]at k2
      rw[hy _ k1 k2]
      simpa using h
    · rename_i hy'
      simp only[Option.some.injEq]at h
      obtain⟨k1,k2⟩:=hE d _ hy'
      have k2:a.tmps.getD d undef=undef:=k2
      rw[hy _ k1 k2]
      subst h
      rfl
    · cases h
/-! ### In the order of the text -/
theorem list_sound {call:CallF}{L:Link}(hcall:CallOk P Pr L call){ops:Array Oper}{ss:List SOper}(hok:okOpers P L n ops.toList ss=true){Q:Exit→Act→World→Prop}:
    ∀ {l:List Oper} {r:List SOper} {κ:K} {e e':Env} {st st':St} {a:Act},κ.L=L→okOpers P L n l r=true→Inv Pr κ st→ERel κ e a→a.tmps.size=n→opsS Pr call ss r e st=some (e',st')→
      (∀ κ' a',κ.le κ'→Inv Pr κ' st'→ERel κ' e' a'→a'.tmps.size=n→a'.defers=a.defers→Q .normal a' κ'.w)→wpList P ops Q l a κ.w
  | [],[],κ,e,e',st,st',a,hL,_,hi,hE,hn,h,hQ=> by
    simp only[opsS,Option.some.injEq,Prod.mk.injEq]at h
    obtain⟨rfl,rfl⟩:=h
    exact hQ κ a (K.le.refl _) hi hE hn rfl
  | o::l,s::r,κ,e,e',st,st',a,hL,hlr,hi,hE,hn,h,hQ=> by
    simp only[okOpers,Bool.and_eq_true]at hlr
    obtain⟨h1,h2,h3,h4⟩:=okOper_spec hlr.1
    simp only[opsS]at h
    split at h
    · rename_i hw
      split at h
      · rename_i v s1 ho
        have hwant:=wanted_sound (κ:=κ) (hL ▸ hok) hE h2 hw
        unfold wpList
        rw[if_pos hwant]
        refine .inl (op_sound (hL ▸ hcall) hi hE (hL ▸ h4) ho ?_)
        intro κ' u k1 k2 k3
        refine list_sound hcall hok (k1.L.trans hL) hlr.2 k2 ?_ (by rw[put_size];exact hn) h (fun κ2 a2 m1 m2 m3 m4 m5=> hQ κ2 a2 (k1.trans m1) m2 m3 m4 (m5.trans (put_defs _ _ _)))
        rw[h1]
        exact erel_put (hE.mono k1) k3 (fun j hj=> by rw[hn];exact h3 j hj)
      · cases h
    · rename_i hw
      have hwant:=wanted_sound (κ:=κ) (hL ▸ hok) hE h2 hw
      unfold wpList
      rw[hwant]
      simp only[Bool.false_eq_true,if_false]
      refine list_sound hcall hok hL hlr.2 hi ?_ (by rw[put_size];exact hn) h (fun κ2 a2 m1 m2 m3 m4 m5=> hQ κ2 a2 m1 m2 m3 m4 (m5.trans (put_defs _ _ _)))
      rw[h1]
      exact erel_put (x:= .un) hE rfl (fun j hj=> by rw[hn];exact h3 j hj)
    · cases h
  | [],_::_,_,_,_,_,_,_,_,h,_,_,_,_,_=> by simp[okOpers]at h
  | _::_,[],_,_,_,_,_,_,_,h,_,_,_,_,_=> by simp[okOpers]at h
end
end Go.Sh
namespace Go.Sh
open Go.RowKit
/-! ### What an operation looks at -/
def Opd.tm:Opd→List Nat
  | .t n=> [n]
  | _=> []
def tmo:Option Opd→List Nat
  | some x=> x.tm
  | none=> []
def tml:List Opd→List Nat
  | []=> []
  | x::r=> x.tm++tml r
def tmp3:List (Nat×Nat×Opd)→List Nat
  | []=> []
  | (_,_,x)::r=> x.tm++tmp3 r
def SOp.tms:SOp→List Nat
  | .mov x=> x.tm
  | .tok _ x=> x.tm
  | .pick c a b=> c.tm++(a.tm++b.tm)
  | .bin _ x y=> x.tm++y.tm
  | .eqv _ _ x y=> x.tm++y.tm
  | .un _ x=> x.tm
  | .conv _ x=> x.tm
  | .s2b x=> x.tm
  | .b2s x=> x.tm
  | .build _ ps=> tmp3 ps
  | .lits _ _ ps=> tmp3 ps
  | .litsR _ _ ps=> tmp3 ps
  | .litsO _ _ ps=> tmp3 ps
  | .box x=> x.tm
  | .boxI x=> x.tm
  | .alloc _=> []
  | .load _ _ p=> p.tm
  | .store _ p x=> p.tm++x.tm
  | .storeX _ p x qs=> p.tm++(x.tm++qs)
  | .faddr _ p=> p.tm
  | .field _ _ _ x=> x.tm
  | .iaddr _ x i=> x.tm++i.tm
  | .iaddrA _ _ p i=> p.tm++i.tm
  | .idx _ _ _ x i=> x.tm++i.tm
  | .idxS x i=> x.tm++i.tm
  | .slc _ x lo hi m=> x.tm++(tmo lo++(tmo hi++tmo m))
  | .slcS x lo hi=> x.tm++(tmo lo++tmo hi)
  | .slcA _ _ x lo hi m=> x.tm++(tmo lo++(tmo hi++tmo m))
  | .mkR _ _ l c=> l.tm++c.tm
  | .mkD _ _ l c=> l.tm++c.tm
  | .mkO _ _ _ l c=> l.tm++c.tm
  | .len _ x=> x.tm
  | .lenA _=> []
  | .app _ _ s x=> s.tm++x.tm
  | .appR _ _ _ s x=> s.tm++x.tm
  | .appZ _ _ _ s x=> s.tm++x.tm
  | .cpy _ a b=> a.tm++b.tm
  | .clr _ _ x=> x.tm
  | .mkMap r=> tmo r
  | .lenM m=> m.tm
  | .look _ _ _ _ m k=> m.tm++k.tm
  | .mapSet _ m k x=> m.tm++(k.tm++x.tm)
  | .mkI _ _ x=> x.tm
  | .assertT _ _ _ _ _ x=> x.tm
  | .extract _ x=> x.tm
  | .nilChk x=> x.tm
  | .call _ args=> tml args
  | .invoke _ r args=> r.tm++tml args
  | .mkFn _ caps=> tml caps
  | .callC _ x args=> x.tm++tml args
  | .mx x y=> x.tm++y.tm
  | .mn x y=> x.tm++y.tm
def Same (l:List Nat)(e e':Env):Prop:=∀ t∈l,e.get t=e'.get t
theorem Same.left {l r:List Nat}{e e':Env}(h:Same (l++r) e e'):Same l e e':=fun t ht=> h t (List.mem_append.2 (.inl ht))
theorem Same.right {l r:List Nat}{e e':Env}(h:Same (l++r) e e'):Same r e e':=fun t ht=> h t (List.mem_append.2 (.inr ht))
theorem ev_same {P:Prog}{x:Opd}{e e':Env}(h:Same x.tm e e'):x.ev P e=x.ev P e':=by
  cases x with
  | t n=> exact h n (by simp[Opd.tm])
  | _=> rfl
theorem evo_same {P:Prog}{x:Option Opd}{e e':Env}(h:Same (tmo x) e e'):evo P e x=evo P e' x:=by
  cases x with
  | none=> rfl
  | some x=> simp only[evo,ev_same (P:=P) h]
theorem evs_same {P:Prog}{e e':Env}:∀ {l:List Opd},Same (tml l) e e'→evs P e l=evs P e' l
  | [],_=> rfl
  | x::l,h=> by simp only[evs,ev_same (P:=P) (x:=x) h.left,evs_same (P:=P) h.right]
theorem parts_same {P:Prog}{e e':Env}:∀ {l:List (Nat×Nat×Opd)},Same (tmp3 l) e e'→partsV P e l=partsV P e' l
  | [],_=> rfl
  | (o,s,x)::l,h=> by simp only[partsV,ev_same (P:=P) (x:=x) h.left,parts_same (P:=P) h.right]
theorem opS_same {P:Prog}{call:CallF}{e e':Env}{st:St}{s:SOp}(h:Same s.tms e e'):opS P call e st s=opS P call e' st s:=by
  cases s <;> simp only[SOp.tms]at h <;> simp only[opS]
  case pick c a b=> rw[ev_same (P:=P) h.left,ev_same (P:=P) h.right.left,ev_same (P:=P) h.right.right]
  case build=> rw[parts_same (P:=P) h]
  case lits=> rw[parts_same (P:=P) h]
  case litsR=> rw[parts_same (P:=P) h]
  case litsO=> rw[parts_same (P:=P) h]
  case slc=> rw[ev_same (P:=P) h.left,evo_same (P:=P) h.right.left,evo_same (P:=P) h.right.right.left,evo_same (P:=P) h.right.right.right]
  case slcS=> rw[ev_same (P:=P) h.left,evo_same (P:=P) h.right.left,evo_same (P:=P) h.right.right]
  case slcA=> rw[ev_same (P:=P) h.left,evo_same (P:=P) h.right.left,evo_same (P:=P) h.right.right.left,evo_same (P:=P) h.right.right.right]
  case mapSet=> rw[ev_same (P:=P) h.left,ev_same (P:=P) h.right.left,ev_same (P:=P) h.right.right]
  case storeX size p x qs=>
    have hq:∀ p,apartE e p qs=apartE e' p qs:=fun p=> by
      have:∀ q∈qs,e.get q=e'.get q:=fun q hq=> h q (by simp[hq])
      clear h
      induction qs with
      | nil=> rfl
      | cons q qs ih=> simp only[apartE];rw[this q List.mem_cons_self,ih fun q hq=> this q (List.mem_cons_of_mem _ hq)]
    rw[ev_same (P:=P) h.left,ev_same (P:=P) h.right.left]
    simp only[hq]
  case mkMap=> rw[evo_same (P:=P) h]
  case call=> rw[evs_same (P:=P) h]
  case invoke=> rw[ev_same (P:=P) h.left,evs_same (P:=P) h.right]
  case mkFn=> rw[evs_same (P:=P) h]
  case callC=> rw[ev_same (P:=P) h.left,evs_same (P:=P) h.right]
  all_goals first
    | rfl
    | rw[ev_same (P:=P) h]
    | rw[ev_same (P:=P) h.left,ev_same (P:=P) h.right]
/-! ### Operations that leave the state alone; such as do not look at it -/
def isPure (Pr:Prog)(f:Nat):Bool:=match Pr.fn f with
  | some fn=> fn.pure || fn.closed
  | none=> (Pr.prim f).isSome
def isShut (Pr:Prog)(f:Nat):Bool:=match Pr.fn f with
  | some fn=> fn.shut
  | none=> false
theorem isShut_pure {Pr:Prog}{f:Nat}(h:isShut Pr f=true):isPure Pr f=true:=by
  unfold isShut at h
  unfold isPure
  split at h
  · unfold SFn.shut at h
    rw[h,Bool.or_true]
  · cases h
def SOp.neutral (Pr:Prog):SOp→Bool
  | .tok .. => false
  | .litsR .. => false
  | .litsO .. => false
  | .box _=> false
  | .alloc _=> false
  | .store .. => false
  | .storeX .. => false
  | .mkR .. => false
  | .mkO .. => false
  | .app .. => false
  | .appR .. => false
  | .appZ .. => false
  | .cpy .. => false
  | .clr .. => false
  | .mkMap _=> false
  | .mapSet .. => false
  | .call f _=> isPure Pr f
  | .invoke t _ _=> t.all fun p=> isPure Pr p.2
  | .callC fs _ _=> fs.all fun f=> isPure Pr f
  | _=> true
def SOp.blind (Pr:Prog):SOp→Bool
  | .mov _=> true
  | .pick .. => true
  | .bin .. => true
  | .eqv .. => true
  | .un .. => true
  | .conv .. => true
  | .s2b _=> true
  | .build .. => true
  | .lits .. => true
  | .boxI _=> true
  | .faddr .. => true
  | .field .. => true
  | .iaddr .. => true
  | .iaddrA .. => true
  | .idx .. => true
  | .idxS .. => true
  | .slc .. => true
  | .slcS .. => true
  | .slcA .. => true
  | .mkD .. => true
  | .len .. => true
  | .lenA _=> true
  | .mkI .. => true
  | .assertT .. => true
  | .extract .. => true
  | .nilChk _=> true
  | .mx .. => true
  | .mn .. => true
  | .call f _=> isShut Pr f
  | .invoke t _ _=> t.all fun p=> isShut Pr p.2
  | .mkFn .. => true
  | .callC fs _ _=> fs.all fun f=> isShut Pr f
  | _=> false
def SOp.grows:SOp→Bool
  | .alloc _=> true
  | .box _=> true
  | .litsR .. => true
  | .mkR .. => true
  | .mkMap _=> true
  | .appR .. => true
  | _=> false
def SOp.loads:SOp→Bool
  | .load .. => true
  | _=> false
def CallPure (Pr:Prog)(call:CallF):Prop:=(∀ f args st r st',isPure Pr f=true→call f args st=some (r,st')→st'=st)∧∀ f args st st2 r st',isShut Pr f=true→call f args st=some (r,st')→call f args st2=some (r,st2)
theorem lookup_all {table:List (Nat×Nat)}{p:Nat×Nat→Bool}:∀ {tag f:Nat},table.all p=true→table.lookup tag=some f→∃ t,p (t,f)=true:=by
  intro tag f
  induction table with
  | nil=> intro _ h;simp at h
  | cons x r ih=>
    intro h1 h2
    simp only[List.all_cons,Bool.and_eq_true]at h1
    obtain⟨t,g⟩:=x
    simp only[List.lookup_cons]at h2
    split at h2
    · simp only[Option.some.injEq]at h2
      subst h2
      exact⟨t,h1.1⟩
    · exact ih h1.2 h2
theorem neutral_st {Pr:Prog}{call:CallF}(hp:CallPure Pr call){e:Env}{st st':St}{s:SOp}{x:V}(hs:s.neutral Pr=true)(h:opS Pr call e st s=some (x,st')):st'=st:=by
  cases s <;> simp only[SOp.neutral]at hs <;> try (cases hs;done)
  all_goals simp only[opS]at h
  case mov=> exact(pureR_st h).2
  case pick=>
    obtain⟨c,_,h⟩:=bind1_some h
    split at h
    · obtain⟨_,_,h⟩:=bind1_some h
      obtain⟨_,_,h⟩:=bind1_some h
      simp only[Option.some.injEq,Prod.mk.injEq]at h
      exact h.2.symm
    · cases h
  case s2b=>
    obtain⟨c,_,h⟩:=bind1_some h
    split at h
    · simp only[Option.some.injEq,Prod.mk.injEq]at h
      exact h.2.symm
    · cases h
  case build=>
    split at h
    · exact(pureR_st h).2
    · cases h
  case lits=>
    split at h
    · exact(pureR_st h).2
    · cases h
  case boxI=>
    obtain⟨c,_,h⟩:=bind1_some h
    split at h
    · exact(pureR_st h).2
    · cases h
  case slc=>
    obtain⟨c,_,h⟩:=bind1_some h
    split at h
    · exact(pureR_st h).2
    · cases h
  case slcS=>
    obtain⟨c,_,h⟩:=bind1_some h
    split at h
    · exact(pureR_st h).2
    · cases h
  case slcA=>
    obtain⟨c,_,h⟩:=bind1_some h
    split at h
    · exact(pureR_st h).2
    · cases h
  case mkD=>
    obtain⟨c,_,h⟩:=bind1_some h
    obtain⟨c,_,h⟩:=bind1_some h
    split at h
    · split at h
      · simp only[Option.some.injEq,Prod.mk.injEq]at h
        exact h.2.symm
      · cases h
    · cases h
  case lenA=>
    simp only[Option.some.injEq,Prod.mk.injEq]at h
    exact h.2.symm
  case lenM=>
    obtain⟨c,_,h⟩:=bind1_some h
    split at h
    · simp only[Option.some.injEq,Prod.mk.injEq]at h
      exact h.2.symm
    · split at h
      · simp only[Option.some.injEq,Prod.mk.injEq]at h
        exact h.2.symm
      · cases h
    · cases h
  case extract=>
    obtain⟨c,_,h⟩:=bind1_some h
    split at h
    · exact(pureR_st h).2
    · cases h
  case nilChk=>
    obtain⟨c,_,h⟩:=bind1_some h
    split at h <;> first
      | (cases h;done)
      | (simp only[Option.some.injEq,Prod.mk.injEq]at h
         exact h.2.symm)
  case call=>
    split at h
    · exact hp.1 _ _ _ _ _ hs h
    · cases h
  case invoke=>
    obtain⟨c,_,h⟩:=bind1_some h
    split at h
    · split at h
      · rename_i hf _ _
        obtain⟨t,ht⟩:=lookup_all hs hf
        exact hp.1 _ _ _ _ _ ht h
      · cases h
    · cases h
  case mkFn=>
    split at h
    · exact(pureR_st h).2
    · cases h
  case callC=>
    obtain⟨c,_,h⟩:=bind1_some h
    split at h
    · split at h
      · rename_i hf
        split at h
        · exact hp.1 _ _ _ _ _ (List.all_eq_true.1 hs _ (by simpa using hf)) h
        · cases h
      · cases h
    · cases h
  all_goals first
    | (obtain⟨_,_,h⟩:=bind1_some h
       first
        | exact(pureR_st h).2
        | (obtain⟨_,_,h⟩:=bind1_some h
           exact(pureR_st h).2))
theorem pureR_any {st st' st2:St}{x:Option V}{v:V}(h:pureR st x=some (v,st')):pureR st2 x=some (v,st2):=by
  rw[(pureR_st h).1]
  rfl
theorem bind1_any {x:Option V}{f g:V→Option (V×St)}{r s:V×St}(h:bind1 x f=some r)(hg:∀ v,f v=some r→g v=some s):bind1 x g=some s:=by
  obtain⟨v,rfl,h⟩:=bind1_some h
  exact hg v h
theorem blind_any {Pr:Prog}{call:CallF}(hp:CallPure Pr call){e:Env}{st st':St}(st2:St){s:SOp}{x:V}(hs:s.blind Pr=true)(h:opS Pr call e st s=some (x,st')):opS Pr call e st2 s=some (x,st2):=by
  cases s <;> simp only[SOp.blind]at hs <;> try (cases hs;done)
  all_goals simp only[opS]at h ⊢
  case mov=> exact pureR_any h
  case call=>
    split at h
    · exact hp.2 _ _ _ _ _ _ hs h
    · cases h
  case invoke=>
    refine bind1_any h fun v h=> ?_
    split at h
    · split at h
      · rename_i hf _ _
        obtain⟨t,ht⟩:=lookup_all hs hf
        exact hp.2 _ _ _ _ _ _ ht h
      · cases h
    · cases h
  case mkFn=>
    split at h
    · exact pureR_any h
    · cases h
  case callC=>
    refine bind1_any h fun v h=> ?_
    split at h
    · split at h
      · rename_i hf
        rw[if_pos hf]
        split at h
        · exact hp.2 _ _ _ _ _ _ (List.all_eq_true.1 hs _ (by simpa using hf)) h
        · cases h
      · cases h
    · cases h
  case pick=>
    refine bind1_any h fun v h=> ?_
    split at h
    · refine bind1_any h fun v h=> bind1_any h fun v h=> ?_
      simp only[Option.some.injEq,Prod.mk.injEq]at h ⊢
      exact⟨h.1,trivial⟩
    · cases h
  case s2b=>
    refine bind1_any h fun v h=> ?_
    split at h
    · simp only[Option.some.injEq,Prod.mk.injEq]at h ⊢
      exact⟨h.1,trivial⟩
    · cases h
  case build=>
    split at h
    · exact pureR_any h
    · cases h
  case lits=>
    split at h
    · exact pureR_any h
    · cases h
  case boxI=>
    refine bind1_any h fun v h=> ?_
    split at h
    · rename_i hv
      rw[if_pos hv]
      exact pureR_any h
    · cases h
  case slc=>
    refine bind1_any h fun v h=> ?_
    split at h
    · exact pureR_any h
    · cases h
  case slcS=>
    refine bind1_any h fun v h=> ?_
    split at h
    · exact pureR_any h
    · cases h
  case slcA=>
    refine bind1_any h fun v h=> ?_
    split at h
    · exact pureR_any h
    · cases h
  case mkD=>
    refine bind1_any h fun v h=> bind1_any h fun u h=> ?_
    split at h
    · rename_i n m e1 e2
      split at h
      · rename_i hnm
        simp only[Option.some.injEq,Prod.mk.injEq]at h
        simp only[e1,e2,hnm,if_true,h.1]
      · cases h
    · cases h
  case lenA=>
    simp only[Option.some.injEq,Prod.mk.injEq]at h
    rw[h.1]
  case extract=>
    refine bind1_any h fun v h=> ?_
    split at h
    · exact pureR_any h
    · cases h
  case nilChk=>
    refine bind1_any h fun v h=> ?_
    split at h <;> first
      | (cases h;done)
      | (simp only[Option.some.injEq,Prod.mk.injEq]at h
         obtain⟨rfl,_⟩:=h
         rfl)
  all_goals first
    | exact bind1_any h fun v h=> pureR_any h
    | exact bind1_any h fun v h=> bind1_any h fun v h=> pureR_any h
def St.grown (a b:St):Prop:=∃ l,b.heap=a.heap++l∧b.tips=a.tips∧b.floor=a.floor∧b.tfloor=a.tfloor
theorem St.grown.push (a:St)(b:Blk):a.grown (a.push b):=⟨[some b],rfl,rfl,rfl,rfl⟩
theorem grows_st {Pr:Prog}{call:CallF}{e:Env}{st st':St}{s:SOp}{x:V}(hs:s.grows=true)(h:opS Pr call e st s=some (x,st')):st.grown st':=by
  cases s <;> simp only[SOp.grows]at hs <;> try (cases hs;done)
  all_goals simp only[opS]at h
  case appR=> cases h
  case litsR=>
    split at h
    · split at h
      · simp only[Option.some.injEq,Prod.mk.injEq]at h
        obtain⟨_,rfl⟩:=h
        exact .push _ _
      · cases h
    · cases h
  case box=>
    obtain⟨c,_,h⟩:=bind1_some h
    split at h
    · simp only[Option.some.injEq,Prod.mk.injEq]at h
      obtain⟨_,rfl⟩:=h
      exact .push _ _
    · cases h
  case alloc=>
    simp only[Option.some.injEq,Prod.mk.injEq]at h
    obtain⟨_,rfl⟩:=h
    exact .push _ _
  case mkR=>
    obtain⟨c,_,h⟩:=bind1_some h
    obtain⟨c,_,h⟩:=bind1_some h
    split at h
    · split at h
      · simp only[Option.some.injEq,Prod.mk.injEq]at h
        obtain⟨_,rfl⟩:=h
        exact .push _ _
      · cases h
    · cases h
  case mkMap=>
    split at h
    · simp only[Option.some.injEq,Prod.mk.injEq]at h
      obtain⟨_,rfl⟩:=h
      exact .push _ _
    · split at h
      · simp only[Option.some.injEq,Prod.mk.injEq]at h
        obtain⟨_,rfl⟩:=h
        exact .push _ _
      · cases h
    · cases h
def likeAt (v:V)(a b:St):Prop:=∀ id off,v= .ptr id off→∀ cs,a.row id=some cs→b.row id=some cs
theorem likeAt.refl (v:V)(a:St):likeAt v a a:=fun _ _ _ _ h=> h
theorem likeAt.trans {v:V}{a b c:St}(h:likeAt v a b)(k:likeAt v b c):likeAt v a c:=fun id off e cs hr=> k id off e cs (h id off e cs hr)
def SOp.lptr (Pr:Prog)(e:Env):SOp→Option V
  | .load _ _ p=> p.ev Pr e
  | _=> none
theorem row_grown {a b:St}(h:a.grown b){id:Nat}{cs:List V}(hr:a.row id=some cs):b.row id=some cs:=by
  obtain⟨l,h1,_⟩:=h
  unfold St.row at hr ⊢
  have:id < a.heap.length:=by
    rcases Nat.lt_or_ge id a.heap.length with hh | hh
    · exact hh
    · rw[List.getElem?_eq_none hh]at hr
      cases hr
  rw[h1,List.getElem?_append_left this]
  exact hr
theorem likeAt.grown {v:V}{a b:St}(h:a.grown b):likeAt v a b:=fun _ _ _ _ hr=> row_grown h hr
theorem loads_any {Pr:Prog}{call:CallF}{e:Env}{st st' st2:St}{s:SOp}{x:V}(hs:s.loads=true)(hg:∀ v,s.lptr Pr e=some v→likeAt v st st2)(h:opS Pr call e st s=some (x,st')):opS Pr call e st2 s=some (x,st2):=by
  cases s <;> simp only[SOp.loads]at hs <;> try (cases hs;done)
  simp only[opS]at h ⊢
  obtain⟨v,hv,h⟩:=bind1_some h
  rw[hv]
  simp only[bind1]
  have hg:=hg v hv
  obtain⟨h1,_⟩:=pureR_st h
  have:∀ {sz agg},loadV sz agg st v=some x→loadV sz agg st2 v=some x:=by
    intro sz agg h
    unfold loadV at h ⊢
    split at h
    · split at h
      · rename_i cs hr
        rw[hg _ _ rfl _ hr]
        exact h
      · cases h
    · exact h
    · cases h
  rw[this h1]
  rfl
def SOp.er:SOp→SOp
  | .storeX size p x _=> .store size p x
  | s=> s
def SOp.isX:SOp→Bool
  | .storeX .. => true
  | _=> false
theorem er_not {s:SOp}(h:s.isX=false):s.er=s:=by cases s <;> first | rfl | (simp[SOp.isX]at h)
theorem er_run {Pr:Prog}{call:CallF}{e:Env}{st:St}{s:SOp}{r:V×St}(h:opS Pr call e st s=some r):opS Pr call e st s.er=some r:=by
  cases s
  case storeX size p x qs=>
    simp only[opS]at h
    obtain⟨vp,hp,h⟩:=bind1_some h
    obtain⟨vx,hx,h⟩:=bind1_some h
    split at h
    case isFalse=> cases h
    simp only[SOp.er,opS,hp,hx,bind1]
    exact h
  all_goals exact h
theorem er_blind (Pr:Prog)(s:SOp):s.er.blind Pr=s.blind Pr:=by cases s <;> rfl
theorem er_loads (s:SOp):s.er.loads=s.loads:=by cases s <;> rfl
theorem er_lptr (Pr:Prog)(e:Env)(s:SOp):s.er.lptr Pr e=s.lptr Pr e:=by cases s <;> rfl
def SOp.far:SOp→SOp→Bool
  | .storeX _ _ _ qs,.load _ _ (.t r)=> qs.contains r
  | _,_=> false
theorem apartE_mem {e:Env}{p:V}:∀ {qs:List Nat} {q:Nat},apartE e p qs=true→q∈qs→∃ v,e.get q=some v∧apartV v p=true
  | x::qs,q,h,hq=> by
    simp only[apartE,Bool.and_eq_true]at h
    rcases List.mem_cons.1 hq with rfl | hq
    · have:=h.1
      split at this
      · rename_i v hv
        exact⟨v,hv,this⟩
      · cases this
    · exact apartE_mem h.2 hq
theorem far_like {Pr:Prog}{call:CallF}{e e':Env}{st st':St}{s s':SOp}{x:V}(hf:s.far s'=true)(h:opS Pr call e st s=some (x,st'))(he:∀ r sz ag,s'= .load sz ag (.t r)→e.get r=e'.get r){v:V}(hv:s'.lptr Pr e'=some v):likeAt v st st':=by
  unfold SOp.far at hf
  split at hf
  case h_2=> cases hf
  rename_i size p y qs sz ag r
  simp only[SOp.lptr,Opd.ev]at hv
  have her:=he r sz ag rfl
  simp only[opS]at h
  obtain⟨vp,hp,h⟩:=bind1_some h
  obtain⟨vx,hx,h⟩:=bind1_some h
  split at h
  case isFalse=> cases h
  rename_i hap
  obtain⟨v',h1,h2⟩:=apartE_mem hap (by simpa using hf)
  rw[her,hv]at h1
  obtain rfl:=Option.some.inj h1
  rintro id off rfl cs hr
  obtain⟨h3,_⟩:=stR_st h
  unfold storeV at h3
  split at h3
  case h_2=> cases h3
  rename_i id' off'
  simp only[apartV,decide_eq_true_eq]at h2
  split at h3
  case h_2=> cases h3
  split at h3
  case isFalse=> cases h3
  unfold St.setBlk at h3
  split at h3
  case isFalse=> cases h3
  obtain rfl:=Option.some.inj h3
  unfold St.row at hr ⊢
  simp only[List.getElem?_set]
  rw[if_neg (fun e=> h2 e.symm)]
  exact hr
end Go.Sh
namespace Go.Sh
open Go.RowKit
/-! ### The run in the order of the text, step by step -/
structure Trace (Pr:Prog)(call:CallF)(all:List SOper)(E:Nat→Env)(S:Nat→St)(X:Nat→V)(l:List SOper)(k:Nat):Prop where
  step:∀ (i:Nat) (s:SOper),l[i]? =some s→E (k+i+1)=put (E (k+i)) s.dst (X (k+i))∧
    ((wants all (E (k+i)) s.guard=some true∧opS Pr call (E (k+i)) (S (k+i)) s.op=some (X (k+i),S (k+i+1)))∨
     (wants all (E (k+i)) s.guard=some false∧X (k+i)= .un∧S (k+i+1)=S (k+i)))
theorem trace_of {Pr:Prog}{call:CallF}{all:List SOper}:∀ {l:List SOper} {e e':Env} {st st':St} (k:Nat),opsS Pr call all l e st=some (e',st')→
    ∃ E S X,E k=e∧S k=st∧E (k+l.length)=e'∧S (k+l.length)=st'∧Trace Pr call all E S X l k
  | [],e,e',st,st',k,h=> by
    simp only[opsS,Option.some.injEq,Prod.mk.injEq]at h
    exact⟨fun _=> e,fun _=> st,fun _=> .un,rfl,rfl,h.1,h.2,⟨fun i s hs=> by simp at hs⟩⟩
  | o::r,e,e',st,st',k,h=> by
    have key:∀ (x:V) (s1:St),opsS Pr call all r (put e o.dst x) s1=some (e',st')→((wants all e o.guard=some true∧opS Pr call e st o.op=some (x,s1))∨(wants all e o.guard=some false∧x= .un∧s1=st))→
     ∃ E S X,E k=e∧S k=st∧E (k+(o::r).length)=e'∧S (k+(o::r).length)=st'∧Trace Pr call all E S X (o::r) k:=by
      intro x s1 hr hs
      obtain⟨E,S,X,h1,h2,h3,h4,ht⟩:=trace_of (k+1) hr
      refine⟨fun i=> if i=k then e else E i,fun i=> if i=k then st else S i,fun i=> if i=k then x else X i,by simp,by simp,?_,?_,⟨?_⟩⟩
      · simp only[List.length_cons]
        rw[if_neg (by omega),← h3]
        congr 1
        omega
      · simp only[List.length_cons]
        rw[if_neg (by omega),← h4]
        congr 1
        omega
      · intro i s hi
        cases i with
        | zero=>
          simp only[List.getElem?_cons_zero,Option.some.injEq]at hi
          subst hi
          simp only[Nat.add_zero,if_true]
          rw[if_neg (by omega),if_neg (by omega),h1,h2]
          exact⟨rfl,hs⟩
        | succ i=>
          have:=ht.step i s (by simpa using hi)
          have e1:k+(i+1)=k+1+i:=by omega
          rw[if_neg (by omega),if_neg (by omega),if_neg (by omega),if_neg (by omega),if_neg (by omega),e1]
          exact this
    simp only[opsS]at h
    split at h
    · rename_i hw
      split at h
      · rename_i v s1 ho
        exact key v s1 h (.inl ⟨hw,ho⟩)
      · cases h
    · rename_i hw
      exact key .un st h (.inr ⟨hw,rfl,rfl⟩)
    · cases h
/-! ### The checker of such a region -/
def needs (o:Oper):List Nat:=(o.after.toList.filter fun e=> Region.binds .any e).map (·.on)
def upTo (B:List Nat):List Nat→Nat
  | []=> 0
  | n::r=> (2 ^ n ||| B.getD n 0) ||| upTo B r
def okAnc (B:List Nat):List Oper→Nat→Bool
  | [],_=> true
  | o::r,j=> (needs o).all (fun n=> decide (n < j)) && ((B.getD j 0 ||| upTo B (needs o))==upTo B (needs o)) && okAnc B r (j+1)
def gslot (ss:List SOper)(s:SOper):List Nat:=match s.guard with
  | some (j,_)=> match ss[j]? with
    | some o=> o.dst.toList
    | none=> []
  | none=> []
def names (ss:List SOper)(s:SOper):List Nat:=s.dst.toList++(gslot ss s++s.op.tms)
def ordered (B:List Nat)(i j:Nat):Bool:=(B.getD (max i j) 0).testBit (min i j)
def okNames (ss:List SOper)(B:List Nat):Bool:=
  (List.range ss.length).all fun j=> match ss[j]? with
    | some s=> (List.range ss.length).all fun i=> i==j || (match ss[i]? with
      | some s'=> (match s'.dst with
        | some d=> !(names ss s).contains d || ordered B i j
        | none=> true)
      | none=> true)
    | none=> true
def namesE (ss:List SOper)(s:SOper):List Nat:=s.dst.toList++(gslot ss s++s.op.er.tms)
def okNamesE (ss:List SOper)(B:List Nat):Bool:=
  (List.range ss.length).all fun j=> match ss[j]? with
    | some s=> (List.range ss.length).all fun i=> i==j || (match ss[i]? with
      | some s'=> (match s'.dst with
        | some d=> !(namesE ss s).contains d || ordered B i j
        | none=> true)
      | none=> true)
    | none=> true
def noX (ss:List SOper):Bool:=ss.all fun s=> !s.op.isX
theorem okNames_of {ss:List SOper}{B:List Nat}(h:okNamesE ss B=true)(hx:noX ss=true):okNames ss B=true:=by
  have:∀ s∈ss,namesE ss s=names ss s:=fun s hs=> by
    have:=List.all_eq_true.1 hx s hs
    unfold namesE names
    rw[er_not (by simpa using this)]
  unfold okNamesE at h
  unfold okNames
  rw[List.all_eq_true]at h ⊢
  intro j hj
  have:=h j hj
  cases hs:ss[j]? with
  | none=> rfl
  | some s=>
    rw[hs]at this
    simp only at this ⊢
    rw[‹∀ s∈ss,namesE ss s=names ss s› s (List.mem_of_getElem? hs)]at this
    exact this
def stays (ss:List SOper)(i l:Nat):SOp→Bool
  | .load _ _ (.t r)=> (List.range l).all fun m=> decide (m < i) || (match ss[m]? with
    | some s=> s.dst !=some r
    | none=> true)
  | _=> false
def okLoud (Pr:Prog)(ss:List SOper)(B:List Nat):Bool:=
  (List.range ss.length).all fun l=> match ss[l]? with
    | some s=> s.op.neutral Pr || (List.range ss.length).all fun i=> i==l || (match ss[i]? with
      | some s'=> s'.op.blind Pr || (ordered B i l || (s.op.grows && s'.op.loads && decide (i < l)) || (s.op.far s'.op && s'.op.loads && decide (i < l) && stays ss i l s'.op))
      | none=> true)
    | none=> true
def okDraw (P:Program)(Pr:Prog)(ops:List Oper)(ss:List SOper)(B:List Nat):Bool:=
  okAnc B ops 0 && okNamesE ss B && okLoud Pr ss B
theorem upTo_bit {B:List Nat}{i:Nat}:∀ {ns:List Nat},(upTo B ns).testBit i=true→∃ n∈ns,n=i∨(B.getD n 0).testBit i=true
  | [],h=> by simp[upTo]at h
  | n::r,h=> by
    unfold upTo at h
    rw[Nat.testBit_or,Nat.testBit_or,Bool.or_eq_true,Bool.or_eq_true]at h
    rcases h with(h | h) | h
    · rw[Nat.testBit_two_pow]at h
      exact⟨n,List.mem_cons_self,.inl (by simpa using h)⟩
    · exact⟨n,List.mem_cons_self,.inr h⟩
    · obtain⟨m,hm,h2⟩:=upTo_bit h
      exact⟨m,List.mem_cons_of_mem _ hm,h2⟩
theorem okAnc_spec {B:List Nat}:∀ {l:List Oper} {k:Nat},okAnc B l k=true→∀ (i:Nat) o,l[i]? =some o→(∀ n∈needs o,n < k+i)∧∀ b,(B.getD (k+i) 0).testBit b=true→(upTo B (needs o)).testBit b=true
  | [],k,_,i,o,h=> by simp at h
  | x::r,k,h,i,o,hi=> by
    simp only[okAnc,Bool.and_eq_true,beq_iff_eq]at h
    cases i with
    | zero=>
      simp only[List.getElem?_cons_zero,Option.some.injEq]at hi
      subst hi
      refine⟨fun n hn=> by simpa using List.all_eq_true.1 h.1.1 n hn,fun b hb=> ?_⟩
      rw[← h.1.2,Nat.testBit_or]
      simp only[Nat.add_zero]at hb
      rw[hb,Bool.true_or]
    | succ i=>
      have:=okAnc_spec h.2 i o (by simpa using hi)
      rwa [show k+1+i=k+(i+1) by omega]at this
theorem needs_after {o:Oper}{e:Edge}(he:e∈o.after)(hb:Region.binds .any e=true):e.on∈needs o:=by
  unfold needs
  exact List.mem_map.2 ⟨e,List.mem_filter.2 ⟨by simpa using he,hb⟩,rfl⟩
theorem needs_mem {o:Oper}{n:Nat}(h:n∈needs o):∃ e∈o.after,Region.binds .any e=true∧e.on=n:=by
  unfold needs at h
  obtain⟨e,he,rfl⟩:=List.mem_map.1 h
  obtain⟨h1,h2⟩:=List.mem_filter.1 he
  exact⟨e,by simpa using h1,h2,rfl⟩
def Closed (ops:Array Oper)(listed:Array Bool):Prop:=∀ (j:Nat) o,ops[j]? =some o→listed.getD j false=true→∀ n∈needs o,listed.getD n false=true
theorem anc_listed {B:List Nat}{ops:Array Oper}{listed:Array Bool}(hB:okAnc B ops.toList 0=true)(hc:Closed ops listed)(hs:listed.size=ops.size){i:Nat}:∀ (j:Nat),listed.getD j false=true→(B.getD j 0).testBit i=true→listed.getD i false=true:=by
  intro j
  induction j using Nat.strongRecOn with
  | _ j ih=>
    intro hj hb
    have hlt:j < ops.size:=by
      rcases Nat.lt_or_ge j listed.size with h | h
      · omega
      · simp[Array.getElem?_eq_none h]at hj
    obtain⟨h1,h2⟩:=okAnc_spec hB j ops[j] (by simp[hlt])
    simp only[Nat.zero_add]at h1 h2
    obtain⟨n,hn,h3⟩:=upTo_bit (h2 i hb)
    have hln:=hc j ops[j] (by simp[hlt]) hj n hn
    rcases h3 with rfl | h3
    · exact hln
    · exact ih n (h1 n hn) hln h3
section
variable {ss:List SOper}{X:Nat→V}{e0:Env}
def cv (ss:List SOper)(X:Nat→V)(e0:Env)(on:Nat→Bool)(s:Nat):Nat→Option V
  | 0=> e0.get s
  | k+1=> if on k=true∧(ss[k]?).bind (·.dst)=some s then some (X k) else cv ss X e0 on s k
theorem cv_succ {on:Nat→Bool}{s k:Nat}:cv ss X e0 on s (k+1)=if on k=true∧(ss[k]?).bind (·.dst)=some s then some (X k) else cv ss X e0 on s k:=rfl
theorem cv_congr {on on':Nat→Bool}{s:Nat}:∀ k,(∀ i,i < k→(ss[i]?).bind (·.dst)=some s→on i=on' i)→cv ss X e0 on s k=cv ss X e0 on' s k
  | 0,_=> rfl
  | k+1,h=> by
    unfold cv
    rw[cv_congr k fun i hi=> h i (by omega)]
    by_cases hd:(ss[k]?).bind (·.dst)=some s
    · rw[h k (by omega) hd]
    · simp[hd]
theorem cv_skip {on:Nat→Bool}{s i:Nat}:∀ d,(∀ j,i≤j→j < i+d→(ss[j]?).bind (·.dst)=some s→on j=false)→cv ss X e0 on s (i+d)=cv ss X e0 on s i
  | 0,_=> rfl
  | d+1,h=> by
    rw[← Nat.add_assoc,cv_succ]
    have:¬ (on (i+d)=true∧(ss[i+d]?).bind (·.dst)=some s):=by
      rintro⟨h1,h2⟩
      rw[h (i+d) (by omega) (by omega) h2]at h1
      cases h1
    rw[if_neg this]
    exact cv_skip d fun j h1 h2=> h j h1 (by omega)
theorem cv_trace {Pr:Prog}{call:CallF}{E:Nat→Env}{S:Nat→St}(ht:Trace Pr call ss E S X ss 0)(h0:E 0=e0)(s:Nat):∀ k,k≤ss.length→(E k).get s=cv ss X e0 (fun _=> true) s k
  | 0,_=> by rw[h0];rfl
  | k+1,hk=> by
    obtain⟨sk,hsk⟩:∃ sk,ss[k]? =some sk:=⟨ss[k]'(by omega),List.getElem?_eq_getElem (by omega)⟩
    have:=(ht.step k sk hsk).1
    simp only[Nat.zero_add]at this
    rw[this]
    unfold cv
    have ih:=cv_trace ht h0 s k (by omega)
    simp only[hsk,Option.bind_some]
    cases hd:sk.dst with
    | none=> simp[put,ih]
    | some d=>
      simp only[put,Env.get,Option.some.injEq,true_and]
      by_cases he:d=s
      · simp[he]
      · simp[he,ih]
end
def loudAt (Pr:Prog)(ss:List SOper)(k:Nat):Bool:=match ss[k]? with
  | some s=> !s.op.neutral Pr
  | none=> false
section
variable {Pr:Prog}{ss:List SOper}{S:Nat→St}
def sv (Pr:Prog)(ss:List SOper)(S:Nat→St)(on:Nat→Bool):Nat→St
  | 0=> S 0
  | k+1=> if on k=true∧loudAt Pr ss k=true then S (k+1) else sv Pr ss S on k
theorem sv_succ {on:Nat→Bool}{k:Nat}:sv Pr ss S on (k+1)=if on k=true∧loudAt Pr ss k=true then S (k+1) else sv Pr ss S on k:=rfl
theorem sv_congr {on on':Nat→Bool}:∀ k,(∀ i,i < k→loudAt Pr ss i=true→on i=on' i)→sv Pr ss S on k=sv Pr ss S on' k
  | 0,_=> rfl
  | k+1,h=> by
    unfold sv
    rw[sv_congr k fun i hi=> h i (by omega)]
    by_cases hd:loudAt Pr ss k=true
    · rw[h k (by omega) hd]
    · simp[hd]
theorem sv_skip {on:Nat→Bool}{i:Nat}:∀ d,(∀ j,i≤j→j < i+d→loudAt Pr ss j=true→on j=false)→sv Pr ss S on (i+d)=sv Pr ss S on i
  | 0,_=> rfl
  | d+1,h=> by
    rw[← Nat.add_assoc,sv_succ]
    have:¬ (on (i+d)=true∧loudAt Pr ss (i+d)=true):=by
      rintro⟨h1,h2⟩
      rw[h (i+d) (by omega) (by omega) h2]at h1
      cases h1
    rw[if_neg this]
    exact sv_skip d fun j h1 h2=> h j h1 (by omega)
theorem sv_last {on:Nat→Bool}:∀ k,(∃ j,j < k∧loudAt Pr ss j=true∧on j=true∧sv Pr ss S on k=S (j+1)∧∀ i,j < i→i < k→loudAt Pr ss i=true→on i=false)∨((∀ i,i < k→loudAt Pr ss i=true→on i=false)∧sv Pr ss S on k=S 0)
  | 0=> .inr ⟨fun i hi=> by omega,rfl⟩
  | k+1=> by
    by_cases hc:on k=true∧loudAt Pr ss k=true
    · exact .inl ⟨k,by omega,hc.2,hc.1,by rw[sv_succ,if_pos hc],fun i h1 h2=> by omega⟩
    · have hk:loudAt Pr ss k=true→on k=false:=fun h=> by
        cases hq:on k with
        | true=> exact absurd ⟨hq,h⟩ hc
        | false=> rfl
      rcases sv_last (on:=on) k with⟨j,h1,h2,h3,h4,h5⟩ | ⟨h1,h2⟩
      · refine .inl ⟨j,by omega,h2,h3,by rw[sv_succ,if_neg hc,h4],fun i q1 q2 q3=> ?_⟩
        rcases Nat.lt_or_ge i k with h | h
        · exact h5 i q1 h q3
        · obtain rfl:i=k:=by omega
          exact hk q3
      · refine .inr ⟨fun i q1 q2=> ?_,by rw[sv_succ,if_neg hc,h2]⟩
        rcases Nat.lt_or_ge i k with h | h
        · exact h1 i h q2
        · obtain rfl:i=k:=by omega
          exact hk q2
theorem sv_trace (hne:∀ (i:Nat) (s:SOper),ss[i]? =some s→s.op.neutral Pr=true→S (i+1)=S i):∀ k,k≤ss.length→sv Pr ss S (fun _=> true) k=S k
  | 0,_=> rfl
  | k+1,hk=> by
    obtain⟨sk,hsk⟩:∃ sk,ss[k]? =some sk:=⟨ss[k]'(by omega),List.getElem?_eq_getElem (by omega)⟩
    unfold sv
    rw[sv_trace hne k (by omega)]
    by_cases hd:loudAt Pr ss k=true
    · simp[hd]
    · rw[if_neg (fun h=> hd h.2)]
      refine(hne k sk hsk ?_).symm
      unfold loudAt at hd
      rw[hsk]at hd
      simpa using hd
end
def unl (listed:Array Bool):Nat→Nat
  | 0=> 0
  | k+1=> unl listed k+if listed.getD k false then 0 else 1
theorem unl_le (listed:Array Bool):∀ k,unl listed k≤k
  | 0=> Nat.le_refl _
  | k+1=> by
    have:=unl_le listed k
    unfold unl
    split <;> omega
theorem unl_zero {listed:Array Bool}:∀ {k:Nat},unl listed k=0→∀ i,i < k→listed.getD i false=true
  | 0,_,i,hi=> by omega
  | k+1,h,i,hi=> by
    unfold unl at h
    by_cases hk:listed.getD k false=true
    · by_cases he:i=k
      · subst he;exact hk
      · exact unl_zero (k:=k) (by omega) i (by omega)
    · rw[if_neg hk]at h
      omega
theorem unl_congr {a b:Array Bool}:∀ {k:Nat},(∀ i,i < k→a.getD i false=b.getD i false)→unl a k=unl b k
  | 0,_=> rfl
  | k+1,h=> by
    unfold unl
    rw[unl_congr fun i hi=> h i (by omega),h k (by omega)]
theorem unl_set {listed:Array Bool}{i:Nat}(hi:listed.getD i false=false):∀ {k:Nat},i < k→k≤listed.size→unl (listed.setIfInBounds i true) k+1=unl listed k
  | 0,h,_=> by omega
  | k+1,h,hs=> by
    unfold unl
    by_cases he:i=k
    · subst he
      have h1:(listed.setIfInBounds i true).getD i false=true:=by
        have:i < listed.size:=by omega
        simp[this]
      rw[h1,hi,unl_congr (a:=listed.setIfInBounds i true) (b:=listed) fun j hj=> getD_set_ne false (by omega)]
      simp
    · rw[getD_set_ne false he]
      have:=unl_set hi (k:=k) (by omega) (by omega)
      omega
theorem mask_get {live:List Nat}{e:Env}{t:Nat}{v:V}(h:(mask live e).get t=some v):t∈live∧e.get t=some v:=by
  unfold mask at h
  induction live with
  | nil=> simp[Env.get]at h
  | cons i r ih=>
    simp only[List.filterMap_cons]at h
    cases hi:e.get i with
    | none=>
      simp only[hi,Option.map_none]at h
      obtain⟨h1,h2⟩:=ih h
      exact⟨List.mem_cons_of_mem _ h1,h2⟩
    | some u=>
      simp only[hi,Option.map_some,Env.get]at h
      split at h
      · rename_i he
        subst he
        exact⟨List.mem_cons_self,by rw[hi];exact h⟩
      · obtain⟨h1,h2⟩:=ih h
        exact⟨List.mem_cons_of_mem _ h1,h2⟩
theorem mask_mem {live:List Nat}{e:Env}{t:Nat}(h:t∈live):(mask live e).get t=e.get t:=by
  unfold mask
  induction live with
  | nil=> cases h
  | cons i r ih=>
    simp only[List.filterMap_cons]
    by_cases he:i=t
    · subst he
      cases hi:e.get i with
      | none=>
        simp only[Option.map_none]
        by_cases hm:i∈r
        · rw[ih hm,hi]
        · cases hq:Env.get (List.filterMap (fun i=> Option.map (fun v=> (i,v)) (e.get i)) r) i with
          | none=> rfl
          | some u=> exact absurd (mask_get (live:=r) hq).1 hm
      | some u=> simp[Env.get]
    · have hm:t∈r:=by
        cases h with
        | head=> exact absurd rfl he
        | tail _ h=> exact h
      cases hi:e.get i with
      | none=> simpa using ih hm
      | some u=>
        simp only[Option.map_some,Env.get,if_neg he]
        exact ih hm
theorem wants_same {ss:List SOper}{e e':Env}{s:SOper}(h:Same (gslot ss s) e e'):wants ss e s.guard=wants ss e' s.guard:=by
  unfold wants
  unfold gslot at h
  cases hg:s.guard with
  | none=> rfl
  | some p=>
    obtain⟨j,b⟩:=p
    rw[hg]at h
    simp only at h ⊢
    cases hj:ss[j]? with
    | none=> rfl
    | some o=>
      rw[hj]at h
      simp only at h ⊢
      cases hd:o.dst with
      | none=> rfl
      | some d=>
        rw[hd]at h
        simp only
        rw[h d (by simp)]
theorem er_ok {P:Program}{L:Link}{o:Op}{s:SOp}(h:okOp P L o s=true):okOp P L o s.er=true:=by cases s <;> exact h
section
variable {P:Program}{Pr:Prog}{L:Link}{call:CallF}{n:Nat}
theorem draw_main (hcall:CallOk P Pr L call)(hpure:CallPure Pr call){ops:Array Oper}{ss:List SOper}{B:List Nat}(hok:okOpers P L n ops.toList ss=true)(hD:okDraw P Pr ops.toList ss B=true)
    {e0 e1:Env} {st0 st1:St} {E:Nat→Env} {S:Nat→St} {X:Nat→V} (hE:E 0=e0) (hS:S 0=st0) (hEN:E ss.length=e1) (hSN:S ss.length=st1) (ht:Trace Pr call ss E S X ss 0) {κ0:K} (hL:κ0.L=L) {d0:List Deferred} {Q:Exit→Act→World→Prop}
    (hQ:∀ κ' a',κ0.le κ'→Inv Pr κ' st1→ERel κ' e1 a'→a'.tmps.size=n→a'.defers=d0→Q .normal a' κ'.w):
    ∀ (fuel:Nat) (listed:Array Bool) (a:Act) (κ:K),listed.size=ops.size→Closed ops listed→unl listed ops.size≤fuel→κ0.le κ→Inv Pr κ (sv Pr ss S (fun i=> listed.getD i false) ss.length)→
      (∀ (s:Nat) (v:V),cv ss X e0 (fun i=> listed.getD i false) s ss.length=some v→s < a.tmps.size∧Rep κ v (a.tmps.getD s undef))→a.tmps.size=n→a.defers=d0→wpAny P .any ops Q fuel listed a κ.w:=by
  simp only[okDraw,Bool.and_eq_true]at hD
  obtain⟨⟨hB,hN⟩,hLd⟩:=hD
  obtain⟨hlen,hops⟩:=okOpers_get hok
  have hlen':ops.size=ss.length:=by simpa using hlen
  have hstep:=ht.step
  simp only[Nat.zero_add]at hstep
  have hcvE:=fun s k hk=> cv_trace (e0:=e0) ht hE s k hk
  -- names are in order
  have hord:∀ (i j:Nat) (si sj:SOper) (d:Nat),ss[i]? =some si→ss[j]? =some sj→i≠j→si.dst=some d→d∈namesE ss sj→ordered B i j=true:=by
    intro i j si sj d hi hj hij hd hm
    have h1:=List.all_eq_true.1 hN j (List.mem_range.2 (List.getElem?_eq_some_iff.1 hj).1)
    rw[hj]at h1
    have h2:=List.all_eq_true.1 h1 i (List.mem_range.2 (List.getElem?_eq_some_iff.1 hi).1)
    rw[hi]at h2
    simp only[hd]at h2
    have hne:(i==j)=false:=by simpa using hij
    have hc:(namesE ss sj).contains d=true:=by simpa using hm
    rw[hne,hc]at h2
    simpa using h2
  have hloud:∀ (l i:Nat) (sl si:SOper),ss[l]? =some sl→ss[i]? =some si→sl.op.neutral Pr=false→i≠l→si.op.blind Pr=true∨ordered B i l=true∨(si.op.loads=true∧i < l∧∀ v,si.op.lptr Pr (E i)=some v→likeAt v (S l) (S (l+1))):=by
    intro l i sl si hl hi hnl hil
    have h1:=List.all_eq_true.1 hLd l (List.mem_range.2 (List.getElem?_eq_some_iff.1 hl).1)
    rw[hl]at h1
    simp only[hnl,Bool.false_or]at h1
    have h2:=List.all_eq_true.1 h1 i (List.mem_range.2 (List.getElem?_eq_some_iff.1 hi).1)
    rw[hi]at h2
    have hne:(i==l)=false:=by simpa using hil
    rw[hne]at h2
    simp only[Bool.false_or,Bool.or_eq_true,Bool.and_eq_true,decide_eq_true_eq]at h2
    rcases h2 with h2 | (h2 | h2) | h2
    · exact .inl h2
    · exact .inr (.inl h2)
    · refine .inr (.inr ⟨h2.1.2,h2.2,fun v hv=> ?_⟩)
      rcases(hstep l sl hl).2 with⟨_,hop⟩ | ⟨_,_,hop⟩
      · exact .grown (grows_st h2.1.1 hop)
      · rw[hop];exact .refl _ _
    · obtain⟨⟨⟨h3,h4⟩,h5⟩,h6⟩:=h2
      refine .inr (.inr ⟨h4,h5,fun v hv=> ?_⟩)
      rcases(hstep l sl hl).2 with⟨_,hop⟩ | ⟨_,_,hop⟩
      · refine far_like h3 hop (fun r sz ag e=> ?_) hv
        rw[e]at h6
        simp only[stays]at h6
        have key:∀ d,i+d≤l→(E (i+d)).get r=(E i).get r:=by
          intro d
          induction d with
          | zero=> intro _;rfl
          | succ d ih=>
            intro hd
            have hll:=(List.getElem?_eq_some_iff.1 hl).1
            have hsm:ss[i+d]? =some (ss[i+d]'(by omega)):=List.getElem?_eq_getElem (by omega)
            have hq:=List.all_eq_true.1 h6 (i+d) (List.mem_range.2 (by omega))
            rw[hsm]at hq
            simp only[Bool.or_eq_true,decide_eq_true_eq]at hq
            rcases hq with hq | hq
            · omega
            · rw[← Nat.add_assoc,(hstep (i+d) _ hsm).1]
              cases hds:(ss[i+d]'(by omega)).dst with
              | none=> exact ih (by omega)
              | some q=>
                rw[hds]at hq
                have hqr:q≠r:=by simpa using hq
                simp only[put,Env.get]
                rw[if_neg hqr]
                exact ih (by omega)
        have:=key (l - i) (by omega)
        rwa [show i+(l - i)=l by omega]at this
      · rw[hop];exact .refl _ _
  -- a step of the text's run,as a run of the one operation
  have hneu:∀ (i:Nat) (s:SOper),ss[i]? =some s→s.op.neutral Pr=true→S (i+1)=S i:=by
    intro i s hs hne
    rcases(hstep i s hs).2 with⟨_,h⟩ | ⟨_,_,h⟩
    · exact neutral_st hpure hne h
    · exact h
  have hblind:∀ (s:SOp),s.blind Pr=true→s.neutral Pr=true:=by
    intro s
    cases s <;> simp[SOp.blind,SOp.neutral]
    · exact isShut_pure
    · exact fun h a b hm=> isShut_pure (h a b hm)
    · exact fun h a hm=> isShut_pure (h a hm)
  have hloudat:∀ (l:Nat),loudAt Pr ss l=true→∃ sl,ss[l]? =some sl∧sl.op.neutral Pr=false:=by
    intro l h
    unfold loudAt at h
    split at h
    · rename_i sl hsl
      exact⟨sl,hsl,by simpa using h⟩
    · cases h
  have hbool:∀ (listed:Array Bool) (i:Nat),i < listed.size→(listed.getD i true=false↔listed.getD i false=false):=by
    intro listed i hi
    simp[hi]
  let on:Array Bool→Nat→Bool:=fun listed i=> listed.getD i false
  -- the state where these have come up
  let SV:Array Bool→St:=fun listed=> sv Pr ss S (on listed) ss.length
  -- when all have come up
  have done:∀ (listed:Array Bool) (a:Act) (κ:K),listed.size=ops.size→(∀ i,i < ops.size→listed.getD i false=true)→κ0.le κ→Inv Pr κ (SV listed)→
   (∀ (s:Nat) (v:V),cv ss X e0 (on listed) s ss.length=some v→s < a.tmps.size∧Rep κ v (a.tmps.getD s undef))→a.tmps.size=n→a.defers=d0→Q .normal a κ.w:=by
    intro listed a κ hsz hall hle hi henv hna hda
    refine hQ κ a hle ?_ ?_ hna hda
    · have:SV listed=st1:=by
        show sv Pr ss S (on listed) ss.length=st1
        rw[← hSN,← sv_trace hneu _ (Nat.le_refl _)]
        exact sv_congr _ fun i hi _=> hall i (by omega)
      rw[this]at hi
      exact hi
    · intro s v hv
      refine henv s v ?_
      rw[← hEN,hcvE s _ (Nat.le_refl _)]at hv
      rw[← hv]
      exact cv_congr _ fun i hi _=> hall i (by omega)
  have main:∀ (fuel:Nat) (listed:Array Bool) (a:Act) (κ:K),listed.size=ops.size→Closed ops listed→unl listed ops.size≤fuel→κ0.le κ→Inv Pr κ (SV listed)→
   (∀ (s:Nat) (v:V),cv ss X e0 (on listed) s ss.length=some v→s < a.tmps.size∧Rep κ v (a.tmps.getD s undef))→a.tmps.size=n→a.defers=d0→wpAny P .any ops Q fuel listed a κ.w:=by
    intro fuel
    induction fuel with
    | zero=>
      intro listed a κ hsz hcl hun hle hi henv hna hda
      have hall:∀ i,i < ops.size→listed.getD i false=true:=fun i hi=> unl_zero (by omega) i hi
      refine⟨?_,done listed a κ hsz hall hle hi henv hna hda⟩
      apply List.eq_nil_iff_forall_not_mem.2
      intro j hj
      obtain⟨h1,oj,h2,_⟩:=mem_ready.1 hj
      have hjl:j < ops.size:=(Array.getElem?_eq_some_iff.1 h2).1
      have h3:=(hbool listed j (by omega)).1 h1
      rw[hall j hjl]at h3
      cases h3
    | succ fuel ih=>
      intro listed a κ hsz hcl hun hle hi henv hna hda
      refine⟨fun hr=> ?_,fun i hri=> ?_⟩
      · refine done listed a κ hsz ?_ hle hi henv hna hda
        intro i
        induction i using Nat.strongRecOn with
        | _ i ih2=>
          intro hil
          cases hq:listed.getD i false with
          | true=> rfl
          | false=>
            exfalso
            have hmem:i∈Region.ready .any ops listed:=by
              refine mem_ready.2 ⟨(hbool listed i (by omega)).2 hq,ops[i],by simp[hil],fun e he hb=> ?_⟩
              have:=(okAnc_spec hB i ops[i] (by simp[hil])).1 e.on (needs_after he hb)
              simp only[Nat.zero_add]at this
              exact ih2 e.on this (by omega)
            rw[hr]at hmem
            cases hmem
      · obtain⟨hun1,o,ho,hall⟩:=mem_ready.1 hri
        have hil:i < ops.size:=(Array.getElem?_eq_some_iff.1 ho).1
        have hiun:listed.getD i false=false:=(hbool listed i (by omega)).1 hun1
        have hneeds:∀ k∈needs o,listed.getD k false=true:=by
          intro k hk
          obtain⟨e,he,hb,rfl⟩:=needs_mem hk
          exact hall e he hb
        obtain⟨s,hs⟩:∃ s,ss[i]? =some s:=⟨ss[i]'(by omega),List.getElem?_eq_getElem (by omega)⟩
        obtain⟨q1,q2,q3,q4⟩:=okOper_spec (hops i o s (by simpa using ho) hs)
        -- who is in order with i
        have hbefore:∀ j:Nat,(B.getD i 0).testBit j=true→listed.getD j false=true:=by
          intro j hb
          have h2:=(okAnc_spec hB i o (by simpa using ho)).2 j
          simp only[Nat.zero_add]at h2
          obtain⟨k,hk,h3⟩:=upTo_bit (h2 hb)
          rcases h3 with rfl | h3
          · exact hneeds _ hk
          · exact anc_listed hB hcl hsz k (hneeds k hk) h3
        have hafter:∀ j:Nat,(B.getD j 0).testBit i=true→listed.getD j false=false:=by
          intro j hb
          cases hq:listed.getD j false with
          | false=> rfl
          | true=>
            have:=anc_listed hB hcl hsz j hq hb
            rw[hiun]at this
            cases this
        have hwriter:∀ (j d:Nat),(ss[j]?).bind (·.dst)=some d→d∈namesE ss s→j≠i→(j < i→listed.getD j false=true)∧(i < j→listed.getD j false=false):=by
          intro j d hd hm hji
          cases hsj:ss[j]? with
          | none=> rw[hsj]at hd;simp at hd
          | some sj=>
            rw[hsj]at hd
            simp only[Option.bind_some]at hd
            have:=hord j i sj s d hsj hs hji hd hm
            unfold ordered at this
            constructor
            · intro hlt
              rw[Nat.max_eq_right (by omega),Nat.min_eq_left (by omega)]at this
              exact hbefore j this
            · intro hlt
              rw[Nat.max_eq_left (by omega),Nat.min_eq_right (by omega)]at this
              exact hafter j this
        have hval:∀ d∈namesE ss s,cv ss X e0 (on listed) d ss.length=(E i).get d:=by
          intro d hd
          obtain⟨m,hm⟩:∃ m,ss.length=i+m:=⟨ss.length - i,by omega⟩
          rw[hm,cv_skip m,hcvE d i (by omega)]
          · refine cv_congr i fun j hj hw=> ?_
            exact(hwriter j d hw hd (by omega)).1 hj
          · intro j hij _ hw
            by_cases hji:j=i
            · subst hji;exact hiun
            · exact(hwriter j d hw hd hji).2 (by omega)
        have hEm:ERel κ (mask (namesE ss s) (E i)) a:=by
          intro t v hv
          obtain⟨h1,h2⟩:=mask_get hv
          exact henv t v (by rw[hval t h1];exact h2)
        have hsame:Same (namesE ss s) (mask (namesE ss s) (E i)) (E i):=fun t ht'=> mask_mem ht'
        obtain⟨hEi,hrunI⟩:=hstep i s hs
        -- the state
        have hquiet:∀ p q,p≤q→q≤ss.length→(∀ j,p≤j→j < q→loudAt Pr ss j=false)→S q=S p:=by
          intro p q hpq hq hno
          obtain⟨d,rfl⟩:∃ d,q=p+d:=⟨q - p,by omega⟩
          induction d with
          | zero=> rfl
          | succ d ihd=>
            have hlt:p+d < ss.length:=by omega
            rw[← Nat.add_assoc,hneu (p+d) ss[p+d] (List.getElem?_eq_getElem hlt)]
            · exact ihd (by omega) (by omega) fun j h1 h2=> hno j h1 (by omega)
            · have:=hno (p+d) (by omega) (by omega)
              unfold loudAt at this
              rw[List.getElem?_eq_getElem hlt]at this
              simpa using this
        have hord2:∀ j,ordered B i j=true→(j < i→listed.getD j false=true)∧(i < j→listed.getD j false=false):=by
          intro j h
          unfold ordered at h
          constructor
          · intro hlt
            rw[Nat.max_eq_left (by omega),Nat.min_eq_right (by omega)]at h
            exact hbefore j h
          · intro hlt
            rw[Nat.max_eq_right (by omega),Nat.min_eq_left (by omega)]at h
            exact hafter j h
        have hSVi:(s.op.blind Pr=true∧s.op.neutral Pr=true)∨SV listed=S i∨(s.op.loads=true∧s.op.neutral Pr=true∧∀ v,s.op.lptr Pr (E i)=some v→likeAt v (S i) (SV listed)):=by
          by_cases hb:s.op.blind Pr=true
          · exact .inl ⟨hb,hblind _ hb⟩
          · right
            by_cases hld:s.op.loads=true
            · right
              have hneut:s.op.neutral Pr=true:=by
                cases hq:s.op <;> rw[hq]at hld <;> simp[SOp.loads]at hld
                rfl
              refine⟨hld,hneut,fun vp hvp=> ?_⟩
              have hi0:loudAt Pr ss i=false:=by unfold loudAt;rw[hs];simp[hneut]
              have hlw:∀ j,loudAt Pr ss j=true→(j < i→listed.getD j false=true)∧(i < j→listed.getD j false=true→likeAt vp (S j) (S (j+1))):=by
                intro j hj
                obtain⟨sj,hsj,hnj⟩:=hloudat j hj
                have hji:j≠i:=by rintro rfl;rw[hj]at hi0;cases hi0
                rcases hloud j i sj s hsj hs hnj (fun e=> hji e.symm) with h | h | h
                · exact absurd h hb
                · refine⟨(hord2 j h).1,fun h1 h2=> ?_⟩
                  rw[(hord2 j h).2 h1]at h2
                  cases h2
                · exact⟨fun hlt=> by omega,fun _ _=> h.2.2 vp hvp⟩
              show likeAt vp (S i) (sv Pr ss S (on listed) ss.length)
              rcases sv_last (Pr:=Pr) (ss:=ss) (S:=S) (on:=on listed) ss.length with⟨j,h1,h2,h3,h4,h5⟩ | ⟨h1,h2⟩
              · rw[h4]
                rcases Nat.lt_or_ge j i with hji | hji
                · have:S i=S (j+1):=hquiet (j+1) i (by omega) (by omega) fun k q1 q2=> by
                    cases hq:loudAt Pr ss k with
                    | false=> rfl
                    | true=>
                      have e1:=h5 k (by omega) (by omega) hq
                      have e2:=(hlw k hq).1 q2
                      rw[show on listed k=listed.getD k false from rfl,e2]at e1
                      cases e1
                  rw[this]
                  exact .refl _ _
                · have hne:j≠i:=by rintro rfl;rw[h2]at hi0;cases hi0
                  have hall2:∀ k,i≤k→k≤j→loudAt Pr ss k=true→likeAt vp (S k) (S (k+1)):=by
                    intro k q1 q2 q3
                    have hki:k≠i:=by rintro rfl;rw[q3]at hi0;cases hi0
                    refine(hlw k q3).2 (by omega) ?_
                    by_cases hkj:k=j
                    · subst hkj;exact h3
                    · obtain⟨sk,e1,e2⟩:=hloudat k q3
                      obtain⟨sj,e3,e4⟩:=hloudat j h2
                      rcases hloud k j sk sj e1 e3 e2 (by omega) with h | h | h
                      · rw[hblind _ h]at e4;cases e4
                      · unfold ordered at h
                        rw[Nat.max_eq_left (by omega),Nat.min_eq_right (by omega)]at h
                        exact anc_listed hB hcl hsz j h3 h
                      · omega
                  have key:∀ m,i+m≤j+1→likeAt vp (S i) (S (i+m)):=by
                    intro m
                    induction m with
                    | zero=> intro _;exact .refl _ _
                    | succ m ihm=>
                      intro hm
                      refine(ihm (by omega)).trans ?_
                      have hlt:i+m < ss.length:=by omega
                      have hsk:ss[i+m]? =some ss[i+m]:=List.getElem?_eq_getElem hlt
                      cases hq:loudAt Pr ss (i+m) with
                      | false=>
                        have:=hquiet (i+m) (i+m+1) (by omega) (by omega) (fun k q1 q2=> by obtain rfl:k=i+m:=(by omega);exact hq)
                        rw[← Nat.add_assoc,this]
                        exact .refl _ _
                      | true=>
                        exact hall2 (i+m) (by omega) (by omega) hq
                  have:=key (j+1 - i) (by omega)
                  rwa [show i+(j+1 - i)=j+1 by omega]at this
              · rw[h2]
                have:S i=S 0:=hquiet 0 i (by omega) (by omega) fun k q1 q2=> by
                  cases hq:loudAt Pr ss k with
                  | false=> rfl
                  | true=>
                    have e1:=h1 k (by omega) hq
                    have e2:=(hlw k hq).1 q2
                    rw[show on listed k=listed.getD k false from rfl,e2]at e1
                    cases e1
                rw[this]
                exact .refl _ _
            · left
              show sv Pr ss S (on listed) ss.length=S i
              have hlw:∀ j,loudAt Pr ss j=true→j≠i→(j < i→listed.getD j false=true)∧(i < j→listed.getD j false=false):=by
                intro j hj hji
                obtain⟨sj,hsj,hnj⟩:=hloudat j hj
                rcases hloud j i sj s hsj hs hnj (fun e=> hji e.symm) with h | h | h
                · exact absurd h hb
                · exact hord2 j h
                · exact absurd h.1 hld
              obtain⟨m,hm⟩:∃ m,ss.length=i+m:=⟨ss.length - i,by omega⟩
              rw[hm,sv_skip m,← sv_trace hneu i (by omega)]
              · refine sv_congr i fun j hj hw=> ?_
                exact(hlw j hw (by omega)).1 hj
              · intro j hij _ hw
                by_cases hji:j=i
                · subst hji;exact hiun
                · exact(hlw j hw hji).2 (by omega)
        have hlist:∀ j,(listed.setIfInBounds i true).getD j false=if j=i then true else listed.getD j false:=by
          intro j
          by_cases hj:j=i
          · subst hj;simp[hsz,hil]
          · rw[if_neg hj,getD_set_ne false (fun e=> hj e.symm)]
        have hSVn:(s.op.neutral Pr=true→SV (listed.setIfInBounds i true)=SV listed)∧(s.op.neutral Pr=false→SV (listed.setIfInBounds i true)=S (i+1)):=by
          have hon:∀ j,on (listed.setIfInBounds i true) j=if j=i then true else on listed j:=hlist
          constructor
          · intro hne
            refine sv_congr _ fun j hj hw=> ?_
            rw[hon,if_neg]
            rintro rfl
            obtain⟨sj,hsj,hnj⟩:=hloudat j hw
            rw[hs]at hsj
            obtain rfl:=Option.some.inj hsj
            rw[hne]at hnj
            cases hnj
          · intro hne
            show sv Pr ss S (on _) ss.length=_
            obtain⟨m,hm⟩:∃ m,ss.length=(i+1)+m:=⟨ss.length - (i+1),by omega⟩
            rw[hm,sv_skip m]
            · rw[sv_succ,if_pos ⟨by rw[hon,if_pos rfl],by unfold loudAt;rw[hs];simp[hne]⟩]
            · intro j hij _ hw
              rw[hon,if_neg (by omega)]
              obtain⟨sj,hsj,hnj⟩:=hloudat j hw
              rcases hloud j i sj s hsj hs hnj (by omega) with h | h | h
              · rw[hblind _ h]at hne
                cases hne
              · exact(hord2 j h).2 (by omega)
              · have:s.op.neutral Pr=true:=by
                  have hld:=h.1
                  cases hq:s.op <;> rw[hq]at hld <;> simp[SOp.loads]at hld
                  rfl
                rw[this]at hne
                cases hne
        -- what follows
        have hnext:∀ (κ':K) (v:Value),κ.le κ'→Inv Pr κ' (SV (listed.setIfInBounds i true))→Rep κ' (X i) v→wpAny P .any ops Q fuel (listed.setIfInBounds i true) (a.put o.dst v) κ'.w:=by
          intro κ' v k1 k2 k3
          refine ih _ _ κ' (by simpa using hsz) ?_ ?_ (hle.trans k1) k2 ?_ (by rw[put_size];exact hna) (by rw[put_defs];exact hda)
          · intro j oj hoj hlj k hk
            rw[hlist]at hlj ⊢
            split
            · rfl
            · split at hlj
              · rename_i he
                subst he
                rw[ho]at hoj
                obtain rfl:=Option.some.inj hoj
                exact hneeds k hk
              · exact hcl j oj hoj hlj k hk
          · have:=unl_set (listed:=listed) hiun hil (by omega)
            omega
          · intro t u hu
            have hon:∀ j,on (listed.setIfInBounds i true) j=if j=i then true else on listed j:=hlist
            by_cases htd:s.dst=some t
            · have hu':cv ss X e0 (on (listed.setIfInBounds i true)) t ss.length=some (X i):=by
                obtain⟨m,hm⟩:∃ m,ss.length=(i+1)+m:=⟨ss.length - (i+1),by omega⟩
                rw[hm,cv_skip m]
                · rw[cv_succ,if_pos ⟨by rw[hon,if_pos rfl],by rw[hs];exact htd⟩]
                · intro j hij _ hw
                  rw[hon,if_neg (by omega)]
                  exact(hwriter j t hw (by unfold namesE;rw[htd];simp) (by omega)).2 (by omega)
              rw[hu']at hu
              obtain rfl:=Option.some.inj hu
              have htn:=q3 t htd
              rw[put_size,hna]
              refine⟨htn,?_⟩
              rw[q1,htd]
              have:t < a.tmps.size:=by omega
              simpa[Act.put,Array.getElem?_setIfInBounds,this]using k3
            · have hu':cv ss X e0 (on (listed.setIfInBounds i true)) t ss.length=cv ss X e0 (on listed) t ss.length:=by
                refine cv_congr _ fun j hj hw=> ?_
                rw[hon,if_neg (fun e=> htd (by subst e;rw[hs]at hw;exact hw))]
              rw[hu']at hu
              obtain⟨r1,r2⟩:=henv t u hu
              rw[put_size]
              refine⟨r1,?_⟩
              have hget:(a.put o.dst v).tmps.getD t undef=a.tmps.getD t undef:=by
                rw[q1]
                cases hd:s.dst with
                | none=> rfl
                | some d=>
                  have hne:d≠t:=fun e=> htd (by rw[hd,e])
                  have:(a.tmps.setIfInBounds d v)[t]? =a.tmps[t]? :=Array.getElem?_setIfInBounds_ne hne
                  simp[Act.put,Array.getD_eq_getD_getElem?,this]
              rw[hget]
              exact Rep.mono k1 r2
        have hLκ:κ.L=L:=hle.L.trans hL
        have hgsame:wants ss (mask (namesE ss s) (E i)) s.guard=wants ss (E i) s.guard:=wants_same fun t ht'=> hsame t (by unfold namesE;simp[ht'])
        unfold wpOp
        rw[ho]
        simp only
        rcases hrunI with⟨hw,hop⟩ | ⟨hw,hXi,hSi⟩
        · have hwant:=wanted_sound (κ:=κ) (hLκ ▸ hok) hEm q2 (hgsame.trans hw)
          rw[if_pos hwant]
          have hop:=er_run hop
          have hop':opS Pr call (mask (namesE ss s) (E i)) (SV listed) s.op.er=some (X i,SV (listed.setIfInBounds i true)):=by
            rw[opS_same (e':=E i) fun t ht'=> hsame t (by unfold namesE;simp[ht'])]
            rcases hSVi with⟨hb,hne⟩ | he | ⟨hld,hne,hgr⟩
            · rw[hSVn.1 hne]
              exact blind_any hpure _ (by rw[er_blind];exact hb) hop
            rotate_left
            · rw[hSVn.1 hne]
              exact loads_any (by rw[er_loads];exact hld) (by rw[er_lptr];exact hgr) hop
            · rw[he]
              cases hne:s.op.neutral Pr with
              | true=>
                rw[hSVn.1 hne,he]
                rw[hneu i s hs hne]at hop
                exact hop
              | false=>
                rw[hSVn.2 hne]
                exact hop
          exact .inl (op_sound (hLκ ▸ hcall) hi hEm (hLκ ▸ er_ok q4) hop' fun κ' v k1 k2 k3=> hnext κ' v k1 k2 k3)
        · have hwant:=wanted_sound (κ:=κ) (hLκ ▸ hok) hEm q2 (hgsame.trans hw)
          rw[hwant]
          simp only[Bool.false_eq_true,if_false]
          refine hnext κ undef (K.le.refl _) ?_ (by rw[hXi];rfl)
          cases hne:s.op.neutral Pr with
          | true=> rw[hSVn.1 hne];exact hi
          | false=>
            rw[hSVn.2 hne,hSi]
            rcases hSVi with⟨_,h⟩ | h | ⟨_,h,_⟩
            · rw[hne]at h;cases h
            · rw[← h];exact hi
            · rw[hne]at h;cases h
  exact main
theorem draw_sound (hcall:CallOk P Pr L call)(hpure:CallPure Pr call){ops:Array Oper}{ss:List SOper}{B:List Nat}(hok:okOpers P L n ops.toList ss=true)(hD:okDraw P Pr ops.toList ss B=true)
    {e0 e1:Env} {st0 st1:St} (hrun:opsS Pr call ss ss e0 st0=some (e1,st1)) {κ0:K} (hL:κ0.L=L) {d0:List Deferred} {Q:Exit→Act→World→Prop}
    (hQ:∀ κ' a',κ0.le κ'→Inv Pr κ' st1→ERel κ' e1 a'→a'.tmps.size=n→a'.defers=d0→Q .normal a' κ'.w) {a0:Act} (hi0:Inv Pr κ0 st0) (hE0:ERel κ0 e0 a0) (hn0:a0.tmps.size=n) (hd0:a0.defers=d0):
    wpAny P .any ops Q ops.size (Array.replicate ops.size false) a0 κ0.w:=by
  obtain⟨E,S,X,hE,hS,hEN,hSN,ht⟩:=trace_of 0 hrun
  simp only[Nat.zero_add]at hEN hSN
  have hrep:∀ j:Nat,(Array.replicate ops.size false).getD j false=false:=fun j=> by
    rcases Nat.lt_or_ge j ops.size with h | h <;> simp[h]
  refine draw_main hcall hpure hok hD hE hS hEN hSN ht hL hQ ops.size (Array.replicate ops.size false) a0 κ0 (by simp) ?_ (unl_le _ _) (K.le.refl _) ?_ ?_ hn0 hd0
  · intro j o _ hj
    rw[hrep]at hj
    cases hj
  · have:sv Pr ss S (fun i=> (Array.replicate ops.size false).getD i false) ss.length=st0:=by
      have h:=sv_skip (Pr:=Pr) (ss:=ss) (S:=S) (on:=fun i=> (Array.replicate ops.size false).getD i false) (i:=0) ss.length (fun j _ _ _=> hrep j)
      rw[Nat.zero_add]at h
      exact h.trans hS
    rw[this]
    exact hi0
  · intro s v hv
    have:cv ss X e0 (fun i=> (Array.replicate ops.size false).getD i false) s ss.length=e0.get s:=by
      have:=cv_skip (ss:=ss) (X:=X) (e0:=e0) (on:=fun i=> (Array.replicate ops.size false).getD i false) (s:=s) (i:=0) ss.length (fun j _ _ _=> hrep j)
      rwa [Nat.zero_add]at this
    rw[this]at hv
    exact hE0 s v hv
end
end Go.Sh
namespace Go.Sh
open Go.RowKit
theorem flat_repC {κ κ':K}(hL:κ'.L=κ.L)(hi:∀ b o x,κ.imm b o x→κ'.imm b o x)(hρ:κ.ρ= [])(ht:κ.tk= []):∀ {x:V} {v:Value},RepC κ x v→RepC κ' x v
  | .d x,v,h=> by
    simp only[RepC]at h ⊢
    rw[hL]
    exact RepD.mono hi _ _ h
  | .own ..,v,h=> by
    obtain⟨_,tok,h,_⟩:=h
    rw[ht]at h
    simp at h
  | .ptr ..,v,h=> by
    obtain⟨b,h,_⟩:=h
    rw[hρ]at h
    simp at h
  | .ep cs,v,h=> by
    obtain⟨A,h1,h2⟩:=h
    exact⟨A,h1,h2.imp id fun⟨b,o,h3,h4⟩=> ⟨b,o,h3,by rw[hL];exact RepL.mono hi _ _ _ h4⟩⟩
  | .rsl _ _ _ _ _,v,h=> by
    obtain⟨b,o,h,_⟩:=h
    rw[hρ]at h
    simp at h
  | .map _,v,h=> by
    obtain⟨b,h,_⟩:=h
    rw[hρ]at h
    simp at h
  | .fn f c,v,h=> by
    obtain⟨l,h1,h2⟩:=h
    cases c with
    | nil=> exact⟨l,by rw[hL];exact h1,by cases h2;exact .nil⟩
    | cons p c=>
      cases h2 with
      | cons h3 _=>
        obtain⟨b,h3,_⟩:=h3
        rw[hρ]at h3
        simp at h3
  | .agg _,_,h=> h
  | .tup _,_,h=> h
  | .un,_,h=> h
theorem flat_rep1 {κ κ':K}(hL:κ'.L=κ.L)(hi:∀ b o x,κ.imm b o x→κ'.imm b o x)(hρ:κ.ρ= [])(ht:κ.tk= []){x:V}{v:Value}(h:Rep1 κ x v):Rep1 κ' x v:=by
  cases x with
  | agg cs=> obtain⟨l,h1,h2⟩:=h;exact⟨l,h1,h2.mono fun _ _=> flat_repC hL hi hρ ht⟩
  | un=> exact h
  | tup vs=> exact h.elim
  | d y=> exact Rep1.ofC (flat_repC hL hi hρ ht (x:= .d y) h)
  | own s n nz cs t=> exact Rep1.ofC (flat_repC hL hi hρ ht (x:= .own s n nz cs t) h)
  | ptr i o=> exact Rep1.ofC (flat_repC hL hi hρ ht (x:= .ptr i o) h)
  | ep cs=> exact Rep1.ofC (flat_repC hL hi hρ ht (x:= .ep cs) h)
  | rsl s i o n c=> exact Rep1.ofC (flat_repC hL hi hρ ht (x:= .rsl s i o n c) h)
  | map i=> exact Rep1.ofC (flat_repC hL hi hρ ht (x:= .map i) h)
  | fn f c=> exact Rep1.ofC (flat_repC hL hi hρ ht (x:= .fn f c) h)
theorem flat_rep {κ κ':K}(hL:κ'.L=κ.L)(hi:∀ b o x,κ.imm b o x→κ'.imm b o x)(hρ:κ.ρ= [])(ht:κ.tk= []){x:V}{v:Value}(h:Rep κ x v):Rep κ' x v:=by
  by_cases hx:∃ vs,x= .tup vs
  · obtain⟨vs,rfl⟩:=hx
    obtain⟨l,h1,h2⟩:=h
    exact⟨l,h1,h2.mono fun _ _=> flat_rep1 hL hi hρ ht⟩
  · exact Rep.of1 (flat_rep1 hL hi hρ ht (Rep.to1 h fun vs e=> hx ⟨vs,e⟩))
section
variable {κ κ':K}
theorem closeC_rep (hL:κ'.L=κ.L)(hi:∀ b o x,κ.imm b o x→κ'.imm b o x):∀ {x y:V} {v:Value},closeC x=some y→RepC κ x v→RepC κ' y v
  | .d x,y,v,h,hr=> by
    simp only[closeC,Option.some.injEq]at h
    subst h
    show RepD κ'.L κ'.imm x v
    rw[hL]
    exact RepD.mono hi _ _ hr
  | .own sz n nz cs t,y,v,h,hr=> by
    simp only[closeC,Option.some.injEq]at h
    subst h
    show RepD κ'.L κ'.imm _ v
    rw[hL]
    exact RepD.mono hi _ _ hr.1
  | .ep cs,y,v,h,hr=> by
    simp only[closeC,Option.some.injEq]at h
    subst h
    obtain⟨A,h1,h2⟩:=hr
    exact⟨A,h1,h2.imp id fun⟨b,o,h3,h4⟩=> ⟨b,o,h3,by rw[hL];exact RepL.mono hi _ _ _ h4⟩⟩
  | .ptr ..,y,v,h,hr=> by simp[closeC]at h
  | .rsl ..,y,v,h,hr=> by simp[closeC]at h
  | .map ..,y,v,h,hr=> by simp[closeC]at h
  | .agg ..,y,v,h,hr=> by simp[closeC]at h
  | .tup ..,y,v,h,hr=> by simp[closeC]at h
  | .un,y,v,h,hr=> by simp[closeC]at h
theorem closeCs_rep (hL:κ'.L=κ.L)(hi:∀ b o x,κ.imm b o x→κ'.imm b o x):∀ {xs ys:List V} {vs:List Value},closeCs xs=some ys→All2 (RepC κ) xs vs→All2 (RepC κ') ys vs
  | [],ys,vs,h,hr=> by
    simp only[closeCs,Option.some.injEq]at h
    subst h
    cases hr
    exact .nil
  | x::xs,ys,vs,h,hr=> by
    simp only[closeCs]at h
    split at h
    · rename_i y hy
      split at h
      · rename_i ys' hys
        simp only[Option.some.injEq]at h
        subst h
        cases hr with
        | cons h1 h2=> exact .cons (closeC_rep hL hi hy h1) (closeCs_rep hL hi hys h2)
      · cases h
    · cases h
theorem close1_rep (hL:κ'.L=κ.L)(hi:∀ b o x,κ.imm b o x→κ'.imm b o x){x y:V}{v:Value}(h:close1 x=some y)(hr:Rep κ x v):Rep κ' y v:=by
  cases x with
  | agg cs=>
    simp only[close1,Option.map_eq_some_iff]at h
    obtain⟨cs',h1,rfl⟩:=h
    obtain⟨l,rfl,h2⟩:=hr
    exact⟨l,rfl,closeCs_rep hL hi h1 h2⟩
  | tup vs=> simp[close1,closeC]at h
  | un=> simp[close1,closeC]at h
  | d x=> exact Rep.of1 (Rep1.ofC (closeC_rep hL hi h (x:= .d x) hr))
  | own s n nz cs t=> exact Rep.of1 (Rep1.ofC (closeC_rep hL hi h (x:= .own s n nz cs t) hr))
  | ep cs=> exact Rep.of1 (Rep1.ofC (closeC_rep hL hi h (x:= .ep cs) hr))
  | ptr i o=> simp[close1,closeC]at h
  | rsl s i o n c=> simp[close1,closeC]at h
  | map i=> simp[close1,closeC]at h
  | fn f c=> simp[close1,closeC]at h
theorem closeA_rep (hL:κ'.L=κ.L)(hi:∀ b o x,κ.imm b o x→κ'.imm b o x):∀ {xs ys:List V} {vs:List Value},closeA xs=some ys→All2 (Rep κ) xs vs→All2 (Rep κ') ys vs
  | [],ys,vs,h,hr=> by
    simp only[closeA,Option.some.injEq]at h
    subst h
    cases hr
    exact .nil
  | x::xs,ys,vs,h,hr=> by
    simp only[closeA]at h
    split at h
    · rename_i y hy
      split at h
      · rename_i ys' hys
        simp only[Option.some.injEq]at h
        subst h
        cases hr with
        | cons h1 h2=> exact .cons (close1_rep hL hi hy h1) (closeA_rep hL hi hys h2)
      · cases h
    · cases h
theorem closeA_length:∀ {xs ys:List V},closeA xs=some ys→ys.length=xs.length
  | [],ys,h=> by simp only[closeA,Option.some.injEq]at h;subst h;rfl
  | x::xs,ys,h=> by
    simp only[closeA]at h
    split at h
    · split at h
      · rename_i ys' hys
        simp only[Option.some.injEq]at h
        subst h
        simp[closeA_length hys]
      · cases h
    · cases h
def K.bare (κ:K):K:={L:=κ.L,w0:=κ.w,w:=κ.w,wr:=κ.wr,ρ:= [],tk:= []}
theorem Inv.bare {Pr:Prog}{st:St}(hi:Inv Pr κ st):Inv Pr κ.bare st0:=
  ⟨Below.refl _ _,rfl,rfl,fun i j b h=> by simp[K.bare]at h,fun i b h=> by simp[K.bare]at h,fun id cs h=> by simp[St.row,st0]at h,fun id cs h=> by simp[St.mapOf,st0]at h,fun t tok h=> by simp[K.bare]at h,
    fun t t' tok tok' g h=> by simp[K.bare]at h,hi.muts,hi.globs,hi.wok'⟩
theorem Inv.back {Pr:Prog}{st:St}(hi:Inv Pr κ st)(hle:κ.bare.le κ')(hi':Inv Pr κ' st0)(hρ:κ'.ρ= [])(ht:κ'.tk= []){r:V}{v:Value}(hr:Rep κ' r v):∃ κ2:K,κ2.w=κ'.w∧κ.le κ2∧Inv Pr κ2 st∧Rep κ2 r v:=by
  have hb:Below κ.w.heap.size κ.w κ'.w:=by
    have:=hi'.below
    rw[hle.w0]at this
    exact this
  have hg:κ.w.grownBy κ'.w none:=⟨hb.os,hb.tape,hb.output,hb.size,fun k hk _=> hb.block k hk⟩
  obtain⟨g1,g2⟩:=hi.grow hg
  refine⟨κ.to κ'.w,rfl,g1,g2,?_⟩
  refine flat_rep (κ:=κ') (κ':=κ.to κ'.w) (by show κ.L=κ'.L;rw[hle.L];rfl) (fun b o x hx=> ⟨hx.1,fun hw=> hx.2 ?_⟩) hρ ht hr
  exact hle.wr b o (hi.muts b o hw) hw
end
end Go.Sh
namespace Go.Sh
open Go.RowKit
/-! ### The same region, where the second waits for the first -/
section
variable {P:Program}{Pr:Prog}{L:Link}{call:CallF}{n:Nat}
def mute (s:SOper):Bool:=match s with
  | ⟨_,none,.appR ..⟩=> true
  | _=> false
theorem mute_none {call:CallF}{all:List SOper}:∀ {l:List SOper} {e:Env} {st:St},l.any mute=true→opsS Pr call all l e st=none
  | [],e,st,h=> by simp at h
  | o::r,e,st,h=> by
    simp only[List.any_cons,Bool.or_eq_true]at h
    rcases h with h | h
    · unfold mute at h
      split at h
      · rfl
      · cases h
    · simp only[opsS]
      split
      · split
        · exact mute_none h
        · rfl
      · exact mute_none h
      · rfl
def okDraw2 (P:Program)(Pr:Prog)(ops:Array Oper)(ss:List SOper)(B:List Nat):Bool:=
  okAnc B ops.toList 0 && okNamesE ss B && (ss.any mute || okLoud Pr ss B)
theorem draw2_sound (hcall:CallOk P Pr L call)(hpure:CallPure Pr call){ops:Array Oper}{ss:List SOper}{B:List Nat}(hok:okOpers P L n ops.toList ss=true)(hD:okDraw2 P Pr ops ss B=true)
    {e0 e1:Env} {st0 st1:St} (hrun:opsS Pr call ss ss e0 st0=some (e1,st1)) {κ0:K} (hL:κ0.L=L) {d0:List Deferred} {Q:Exit→Act→World→Prop}
    (hQ:∀ κ' a',κ0.le κ'→Inv Pr κ' st1→ERel κ' e1 a'→a'.tmps.size=n→a'.defers=d0→Q .normal a' κ'.w) {a0:Act} (hi0:Inv Pr κ0 st0) (hE0:ERel κ0 e0 a0) (hn0:a0.tmps.size=n) (hd0:a0.defers=d0):
    wpAny P .any ops Q ops.size (Array.replicate ops.size false) a0 κ0.w:=by
  simp only[okDraw2,Bool.and_eq_true,Bool.or_eq_true]at hD
  obtain⟨⟨h1,h2⟩,h3 | h3⟩:=hD
  · rw[mute_none h3]at hrun
    cases hrun
  · exact draw_sound (B:=B) hcall hpure hok (by simp only[okDraw,h1,h2,h3,Bool.and_self]) hrun hL hQ hi0 hE0 hn0 hd0
end
end Go.Sh
