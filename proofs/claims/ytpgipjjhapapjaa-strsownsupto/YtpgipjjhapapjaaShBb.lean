/- Part of the proof. -/
import Derived.Test.YtpgipjjhapapjaaShBa
import Derived.Lib.ConvBytes
import Derived.Laws.BytesArg
set_option linter.unusedVariables false
set_option linter.unusedSimpArgs false
namespace Go.Sh
open Go.RowKit
section
variable {P:Program}{Pr:Prog}{κ:K}{st:St}{w:World}
/-! ### Equality of structs -/
def eqFs (P:Program)(kOf:TypeId→Option (List Nat)):List Field→Nat→Option (List Nat)
  | [],_=> some []
  | f::fs,off=> match kOf f.type with
    | some ks=> if f.name≠ "_" ∧f.offset=off∧szIs P f.type ks.length=true∧(aggIs P f.type true || (aggIs P f.type false && ks.length==1))=true then(eqFs P kOf fs (off+ks.length)).map (ks++ ·) else none
    | none=> none
def eqTy (P:Program):Nat→TypeId→Option (List Nat)
  | 0,_=> none
  | d+1,t=> match P.underlying t with
    | some (.int _)=> some [0]
    | some .bool=> some [1]
    | some .string=> some [2]
    | some (.struct fs)=> if P.stoodInHeld t then none else eqFs P (eqTy P d) fs.toList 0
    | _=> none
theorem eqDs_append:∀ {ks js:List Nat} {a b:List D},ks.length≤a.length→ks.length≤b.length→eqDs (ks++js) a b=match eqDs ks (a.take ks.length) (b.take ks.length) with
    | some true=> eqDs js (a.drop ks.length) (b.drop ks.length)
    | r=> r
  | [],js,a,b,_,_=> by simp[eqDs]
  | k::ks,js,x::a,y::b,h1,h2=> by
    simp only[List.cons_append,List.length_cons,List.take_succ_cons,List.drop_succ_cons,eqDs]
    cases hq:eqK k x y with
    | none=> rfl
    | some r=> cases r with
      | true=> exact eqDs_append (by simpa using h1) (by simpa using h2)
      | false=> rfl
  | k::ks,js,[],b,h,_=> by simp at h
  | k::ks,js,x::a,[],_,h=> by simp at h
def Val (P:Program)(t:TypeId)(l:List Value)(v:Value):Prop:=(aggIs P t true=true∧v= .agg l.toArray)∨(aggIs P t false=true∧l= [v])
theorem run_part_val {t:TypeId}{n:Nat}{l:List Value}{off:Nat}(hs:szIs P t n=true)(hg:(aggIs P t true || (aggIs P t false && n==1))=true)(hl:off+n≤l.length):
    ∃ v,(part t l.toArray off).run P w= .ok v w∧Val P t ((l.drop off).take n) v:=by
  simp only[Bool.or_eq_true,Bool.and_eq_true,beq_iff_eq]at hg
  unfold part
  rcases hg with hg | ⟨hg,rfl⟩
  · refine⟨.agg ((l.drop off).take n).toArray,?_,.inl ⟨hg,rfl⟩⟩
    simp only[Sem.run_bind,run_isAgg hg,Result.andThen_ok,if_true,run_sizeOf hs,Sem.run_pure]
    congr 2
    simp[List.extract_toArray,List.take_drop,Nat.add_comm]
  · have hlt:off < l.length:=by omega
    refine⟨l[off],?_,.inr ⟨hg,?_⟩⟩
    · simp[run_isAgg hg,hlt]
    · rw[List.drop_eq_getElem_cons hlt]
      rfl
def EqAt (P:Program)(κ:K)(w:World)(d:Nat)(t:TypeId)(ks:List Nat):Prop:=∀ (dx dy:List D) (lx ly:List Value) (vx vy:Value) (b:Bool),eqDs ks dx dy=some b→All2 (RepD κ.L κ.imm) dx lx→All2 (RepD κ.L κ.imm) dy ly→Val P t lx vx→Val P t ly vy→
  dx.length=ks.length→dy.length=ks.length→∀ d',d≤d'→(Op.equalIn d' t vx vy).run P w= .ok b w
theorem eqFs_sound {d d':Nat}(hd:d≤d')(ih:∀ t ks,eqTy P d t=some ks→EqAt P κ w d t ks):∀ (fs:List Field) (off:Nat) (ks:List Nat),eqFs P (eqTy P d) fs off=some ks→
    ∀ (dx dy:List D) (lx ly:List Value) (b:Bool),eqDs ks (dx.drop off) (dy.drop off)=some b→All2 (RepD κ.L κ.imm) dx lx→All2 (RepD κ.L κ.imm) dy ly→dx.length=off+ks.length→dy.length=off+ks.length→
    (Op.eqFields d' lx.toArray ly.toArray fs).run P w= .ok b w
  | [],off,ks,h,dx,dy,lx,ly,b,he,hx,hy,h1,h2=> by
    simp only[eqFs,Option.some.injEq]at h
    subst h
    simp only[List.length_nil,Nat.add_zero]at h1 h2
    rw[← h1,List.drop_length]at he
    rw[show dy.drop dx.length= [] from List.drop_eq_nil_of_le (by omega)]at he
    simp only[eqDs,Option.some.injEq]at he
    subst he
    simp[Op.eqFields]
  | f::fs,off,ks,h,dx,dy,lx,ly,b,he,hx,hy,h1,h2=> by
    simp only[eqFs]at h
    split at h
    · rename_i k1 hk1
      split at h
      · rename_i hc
        obtain⟨hn,ho,hs,hg⟩:=hc
        simp only[Option.map_eq_some_iff]at h
        obtain⟨k2,hk2,rfl⟩:=h
        simp only[List.length_append]at h1 h2
        rw[eqDs_append (by simp only[List.length_drop];omega) (by simp only[List.length_drop];omega)]at he
        have lx1:=hx.length
        have ly1:=hy.length
        obtain⟨vx,rx,vlx⟩:=run_part_val (P:=P) (w:=w) (l:=lx) (off:=f.offset) hs hg (by omega)
        obtain⟨vy,ry,vly⟩:=run_part_val (P:=P) (w:=w) (l:=ly) (off:=f.offset) hs hg (by omega)
        have hone:=fun(r:Bool) (hr:eqDs k1 ((dx.drop off).take k1.length) ((dy.drop off).take k1.length)=some r)=>
          ih f.type k1 hk1 _ _ _ _ vx vy r hr ((hx.drop off).take _) ((hy.drop off).take _) (by rw[← ho];exact vlx) (by rw[← ho];exact vly) (by simp only[List.length_take,List.length_drop];omega) (by simp only[List.length_take,List.length_drop];omega) d' hd
        simp only[Op.eqFields,ne_eq,hn,not_false_eq_true,if_true,Sem.run_bind,rx,ry,Result.andThen_ok]
        cases hq:eqDs k1 ((dx.drop off).take k1.length) ((dy.drop off).take k1.length) with
        | none=> rw[hq]at he;cases he
        | some r=>
          rw[hone r hq]
          rw[hq]at he
          cases r with
          | false=>
            simp only[Option.some.injEq]at he
            subst he
            simp
          | true=>
            simp only[List.drop_drop]at he
            have:=eqFs_sound hd ih fs (off+k1.length) k2 hk2 dx dy lx ly b he hx hy (by omega) (by omega)
            simpa using this
      · cases h
    · cases h
theorem eqTy_sound:∀ (d:Nat) (t:TypeId) (ks:List Nat),eqTy P d t=some ks→EqAt P κ w d t ks
  | 0,t,ks,h=> by simp[eqTy]at h
  | d+1,t,ks,h=> by
    intro dx dy lx ly vx vy b he hx hy hvx hvy h1 h2 d' hd'
    obtain⟨d',rfl⟩:∃ m,d'=m+1:=⟨d' - 1,by omega⟩
    have single:∀ k,ks= [k]→aggIs P t true=false→∃ x y,dx= [x]∧dy= [y]∧RepD κ.L κ.imm x vx∧RepD κ.L κ.imm y vy∧eqK k x y=some b:=by
      rintro k rfl hna
      match dx,h1,dy,h2 with
      | [x],_,[y],_=>
        cases hx with
        | cons hx1 hx2=>
          cases hx2
          cases hy with
          | cons hy1 hy2=>
            cases hy2
            rcases hvx with⟨ha,_⟩ | ⟨_,hvx⟩
            · rw[hna]at ha;cases ha
            rcases hvy with⟨ha,_⟩ | ⟨_,hvy⟩
            · rw[hna]at ha;cases ha
            simp only[List.cons.injEq,and_true]at hvx hvy
            subst hvx
            subst hvy
            refine⟨x,y,rfl,rfl,hx1,hy1,?_⟩
            simp only[eqDs]at he
            split at he
            · rename_i hk;simp only[Option.some.injEq]at he;subst he;exact hk
            · rename_i hk;simp only[Option.some.injEq]at he;subst he;exact hk
            · cases he
    simp only[eqTy]at h
    split at h
    · rename_i k hu
      simp only[Option.some.injEq]at h
      obtain⟨x,y,rfl,rfl,rx,ry,hk⟩:=single 0 h.symm (by simp[aggIs,hu])
      unfold eqK at hk
      split at hk <;> try (cases hk;done)
      · split at hk
        · rename_i hk1
          subst hk1
          simp only[Option.some.injEq]at hk
          subst hk
          rw[repD_i]at rx ry
          subst rx
          subst ry
          exact run_equalIn_int (P:=P) w d' t _ k _ _ hu
        · cases hk
      all_goals simp_all
    · rename_i hu
      simp only[Option.some.injEq]at h
      obtain⟨x,y,rfl,rfl,rx,ry,hk⟩:=single 1 h.symm (by simp[aggIs,hu])
      unfold eqK at hk
      split at hk <;> try (cases hk;done)
      all_goals first
        | (simp only[Option.some.injEq]at hk
           subst hk
           rw[repD_b]at rx ry
           subst rx
           subst ry
           exact run_equalIn_bool' (P:=P) w d' t _ _ hu)
        | simp_all
    · rename_i hu
      simp only[Option.some.injEq]at h
      obtain⟨x,y,rfl,rfl,rx,ry,hk⟩:=single 2 h.symm (by simp[aggIs,hu])
      unfold eqK at hk
      split at hk <;> try (cases hk;done)
      all_goals first
        | (simp only[Option.some.injEq]at hk
           subst hk
           rw[repD_s]at rx ry
           subst rx
           subst ry
           rw[run_equalIn_string (P:=P) w d' t _ _ hu,toList_mk,toList_mk])
        | simp_all
    · rename_i fs hu
      split at h
      · cases h
      rename_i hst
      have hfs:P.fieldsOf t=fs:=by simp[Program.fieldsOf,hu]
      rcases hvx with⟨_,rfl⟩ | ⟨ha,_⟩
      case inr=> simp[aggIs,hu]at ha
      rcases hvy with⟨_,rfl⟩ | ⟨ha,_⟩
      case inr=> simp[aggIs,hu]at ha
      rw[run_equalIn_struct (P:=P) w d' t _ _ (by rw[hfs];exact hu) (by simpa using hst),hfs]
      exact eqFs_sound (by omega) (fun t ks h=> eqTy_sound d t ks h) fs.toList 0 ks h dx dy lx ly b (by simpa using he) hx hy (by omega) (by omega)
    · cases h
def isConst:Operand→Bool
  | .const _=> true
  | _=> false
def okEqTy (P:Program)(t:TypeId)(xo yo:Operand)(ks:List Nat):Bool:=match ks with
  | [10]=> (match P.underlying t with | some (.interface _)=> true | _=> false) && (isConst xo || isConst yo)
  | [11]=> match P.underlying t with | some (.slice _)=> true | _=> false
  | [12]=> match P.underlying t with | some (.pointer _)=> true | _=> false
  | [13]=> match P.underlying t with | some (.map _ _)=> true | _=> false
  | 9::ks=> decide (eqTy P 8 t=some ks) && !P.eqGuardType P.depth t && aggIs P t true
  | [1]=> match P.underlying t with | some .bool=> true | _=> false
  | _=> false
theorem eqGuard_agg {op:BinOp}{t:TypeId}{x y:Operand}{a b:Array Value}(h:P.eqGuardType P.depth t=false):(eqGuard op t x y (.agg a) (.agg b)).run P w= .ok () w:=by
  unfold eqGuard
  cases op <;> simp[h]
theorem eqGuard_slice {op:BinOp}{t:TypeId}{x y:Operand}{A:Option Addr}{n c:Nat}{b:Value}:(eqGuard op t x y (.slice A n c) b).run P w= .ok () w:=by cases op <;> rfl
theorem eqGuard_ptr {op:BinOp}{t:TypeId}{x y:Operand}{A:Option Addr}{b:Value}:(eqGuard op t x y (.pointer A) b).run P w= .ok () w:=by cases op <;> rfl
theorem eqGuard_map {op:BinOp}{t:TypeId}{x y:Operand}{A:Option Nat}{b:Value}:(eqGuard op t x y (.map A) b).run P w= .ok () w:=by cases op <;> rfl
theorem eqGuard_if1 {op:BinOp}{t:TypeId}{x y:Operand}{u:TypeId}{v b:Value}:(eqGuard op t x y (.iface u v) b).run P w= .ok () w:=by cases op <;> rfl
theorem eqGuard_if2 {op:BinOp}{t:TypeId}{x y:Operand}{u:TypeId}{v:Value}:(eqGuard op t x y .nilIface (.iface u v)).run P w= .ok () w:=by cases op <;> rfl
theorem eqi_if {d:Nat}{t:TypeId}{ms:Array (String×TypeId)}(hu:P.underlying t=some (.interface ms)):(Op.equalIn (d+1) t .nilIface .nilIface).run P w= .ok true w∧(∀ u v,(Op.equalIn (d+1) t .nilIface (.iface u v)).run P w= .ok false w)∧(∀ u v,(Op.equalIn (d+1) t (.iface u v) .nilIface).run P w= .ok false w):=
  ⟨by simp[Op.equalIn,run_underlying hu],fun u v=> by simp[Op.equalIn,run_underlying hu],fun u v=> by simp[Op.equalIn,run_underlying hu]⟩
theorem eqi_sl {d:Nat}{t e:TypeId}(hu:P.underlying t=some (.slice e))(A:Option Addr)(n c m k:Nat):(Op.equalIn (d+1) t (.slice A n c) (.slice none m k)).run P w= .ok A.isNone w:=by
  cases A <;> simp[Op.equalIn,run_underlying hu]
theorem eqi_ptr {d:Nat}{t e:TypeId}(hu:P.underlying t=some (.pointer e))(A:Option Addr):(Op.equalIn (d+1) t (.pointer A) (.pointer none)).run P w= .ok A.isNone w:=by
  cases A <;> simp[Op.equalIn,run_underlying hu]
theorem eqi_map {d:Nat}{t k e:TypeId}(hu:P.underlying t=some (.map k e))(A:Option Nat):(Op.equalIn (d+1) t (.map A) (.map none)).run P w= .ok A.isNone w:=by
  cases A <;> simp[Op.equalIn,run_underlying hu]
theorem eq_run {t:TypeId}{xo yo:Operand}{vx vy:Value}{b neg:Bool}(hg:∀ op,(eqGuard op t xo yo vx vy).run P w= .ok () w)(he:(Op.equal t vx vy).run P w= .ok b w)
    (hform:∀ op,(op= .eql→binOp op t vx vy=(do pure (.bool (← Op.equal t vx vy))))∧(op= .neq→binOp op t vx vy=(do pure (.bool (!(← Op.equal t vx vy)))))):
    (do eqGuard (if neg then .neq else .eql) t xo yo vx vy;binOp (if neg then .neq else .eql) t vx vy:Sem Value).run P w= .ok (.bool (if neg then !b else b)) w:=by
  cases neg with
  | true=> simp only[if_true,Sem.run_bind,hg,Result.andThen_ok,(hform .neq).2 rfl,he,Sem.run_pure]
  | false=> simp only[Bool.false_eq_true,if_false,Sem.run_bind,hg,Result.andThen_ok,(hform .eql).1 rfl,he,Sem.run_pure]
theorem eqv_sound {neg:Bool}{t:TypeId}{xo yo:Operand}{ks:List Nat}{x y:V}{b:Bool}(hok:okEqTy P t xo yo ks=true)(h:eqV ks x y=some b){vx vy:Value}(hx:Rep κ x vx)(hy:Rep κ y vy):
    (do eqGuard (if neg then .neq else .eql) t xo yo vx vy;binOp (if neg then .neq else .eql) t vx vy:Sem Value).run P w= .ok (.bool (if neg then !b else b)) w:=by
  unfold eqV at h
  split at h
  · -- an interface value and nil
    simp only[okEqTy,Bool.and_eq_true]at hok
    obtain⟨hu,hcon⟩:=hok
    split at hu
    case h_2=> cases hu
    rename_i ms hu'
    split at h
    · simp only[Option.some.injEq]at h
      subst h
      have hx:RepD _ _ _ _:=hx
      have hy:RepD _ _ _ _:=hy
      simp only[RepD]at hx hy
      subst hx
      subst hy
      refine eq_run (fun op=> ?_) (eqi_if (d:=9999) hu').1 (fun op=> ⟨by rintro rfl;rfl,by rintro rfl;rfl⟩)
      unfold eqGuard
      simp only[Bool.or_eq_true]at hcon
      cases xo <;> cases yo <;> simp[isConst]at hcon <;> cases op <;> rfl
    · simp only[Option.some.injEq]at h
      subst h
      have hx:RepD _ _ _ _:=hx
      have hy:RepD _ _ _ _:=hy
      simp only[RepD]at hx hy
      subst hx
      obtain⟨l,rfl,_⟩:=hy
      exact eq_run (fun op=> eqGuard_if2) ((eqi_if (d:=9999) hu').2.1 _ _) (fun op=> ⟨by rintro rfl;rfl,by rintro rfl;rfl⟩)
    · simp only[Option.some.injEq]at h
      subst h
      have hx:RepD _ _ _ _:=hx
      have hy:RepD _ _ _ _:=hy
      simp only[RepD]at hx hy
      subst hy
      obtain⟨l,rfl,_⟩:=hx
      exact eq_run (fun op=> eqGuard_if1) ((eqi_if (d:=9999) hu').2.2 _ _) (fun op=> ⟨by rintro rfl;rfl,by rintro rfl;rfl⟩)
    · cases h
  · -- a slice and nil
    simp only[okEqTy]at hok
    split at hok
    case h_2=> cases hok
    rename_i e hu
    have hy':∀ {v:Value},Rep κ (.d (.sl 0 false [])) v→∃ n c,v= .slice none n c:=fun hv=> by
      have hv:RepD _ _ _ _:=hv
      simp only[RepD]at hv
      obtain⟨A,cap,rfl,_,h3,_⟩:=hv
      cases A with
      | none=> exact⟨0,cap,rfl⟩
      | some a=> simp at h3
    have main:∀ (A:Option Addr) (n c m k:Nat),(do eqGuard (if neg then .neq else .eql) t xo yo (.slice A n c) (.slice none m k);binOp (if neg then .neq else .eql) t (.slice A n c) (.slice none m k):Sem Value).run P w= .ok (.bool (if neg then !(A.isNone) else A.isNone)) w:=fun A n c m k=> by
      exact eq_run (fun op=> eqGuard_slice) (eqi_sl (d:=9999) hu A n c m k) (fun op=> ⟨by rintro rfl;rfl,by rintro rfl;rfl⟩)
    split at h
    · simp only[Option.some.injEq]at h
      subst h
      obtain⟨m,k,rfl⟩:=hy' hy
      have hx:RepD _ _ _ _:=hx
      simp only[RepD]at hx
      obtain⟨A,cap,rfl,_,rfl,_⟩:=hx
      rw[main]
      cases A <;> rfl
    · simp only[Option.some.injEq]at h
      subst h
      obtain⟨m,k,rfl⟩:=hy' hy
      have hx:RepD _ _ _ _:=hx.1
      simp only[RepD]at hx
      obtain⟨A,cap,rfl,_,rfl,_⟩:=hx
      rw[main]
      cases A <;> rfl
    · simp only[Option.some.injEq]at h
      subst h
      obtain⟨m,k,rfl⟩:=hy' hy
      obtain⟨b,o,_,rfl,_⟩:=hx
      rw[main]
      rfl
    · cases h
  · -- a pointer and nil
    simp only[okEqTy]at hok
    split at hok
    case h_2=> cases hok
    rename_i e hu
    have main:∀ (A:Option Addr),(do eqGuard (if neg then .neq else .eql) t xo yo (.pointer A) (.pointer none);binOp (if neg then .neq else .eql) t (.pointer A) (.pointer none):Sem Value).run P w= .ok (.bool (if neg then !(A.isNone) else A.isNone)) w:=fun A=> by
      exact eq_run (fun op=> eqGuard_ptr) (eqi_ptr (d:=9999) hu A) (fun op=> ⟨by rintro rfl;cases A <;> rfl,by rintro rfl;cases A <;> rfl⟩)
    split at h
    · simp only[Option.some.injEq]at h
      subst h
      have hy:RepD _ _ _ _:=hy
      simp only[RepD]at hy
      subst hy
      obtain⟨b,_,rfl⟩:=hx
      exact main _
    · simp only[Option.some.injEq]at h
      subst h
      have hy:RepD _ _ _ _:=hy
      simp only[RepD]at hy
      subst hy
      obtain⟨A,rfl,_⟩:=hx
      exact main _
    · simp only[Option.some.injEq]at h
      subst h
      have hx:RepD _ _ _ _:=hx
      have hy:RepD _ _ _ _:=hy
      simp only[RepD]at hx hy
      subst hx
      subst hy
      exact main _
    · cases h
  · -- a map and nil
    simp only[okEqTy]at hok
    split at hok
    case h_2=> cases hok
    rename_i k e hu
    have main:∀ (A:Option Nat),(do eqGuard (if neg then .neq else .eql) t xo yo (.map A) (.map none);binOp (if neg then .neq else .eql) t (.map A) (.map none):Sem Value).run P w= .ok (.bool (if neg then !(A.isNone) else A.isNone)) w:=fun A=> by
      exact eq_run (fun op=> eqGuard_map) (eqi_map (d:=9999) hu A) (fun op=> ⟨by rintro rfl;rfl,by rintro rfl;rfl⟩)
    split at h
    · simp only[Option.some.injEq]at h
      subst h
      have hy:RepD _ _ _ _:=hy
      simp only[RepD]at hy
      subst hy
      obtain⟨b,_,rfl⟩:=hx
      exact main _
    · simp only[Option.some.injEq]at h
      subst h
      have hx:RepD _ _ _ _:=hx
      have hy:RepD _ _ _ _:=hy
      simp only[RepD]at hx hy
      subst hx
      subst hy
      exact main _
    · cases h
  · -- cells of a struct
    simp only[okEqTy,Bool.and_eq_true,decide_eq_true_eq,Bool.not_eq_true']at hok
    obtain⟨⟨hty,hguard⟩,hagg⟩:=hok
    have hs:=eqTy_sound (κ:=κ) (w:=w) 8 t _ hty
    split at h
    · split at h
      · rename_i a b' ha hb'
        split at h
        · rename_i hlen
          obtain⟨lx,rfl,hax⟩:=hx
          obtain⟨ly,rfl,hay⟩:=hy
          have rx:=toDs_rep ha hax
          have ry:=toDs_rep hb' hay
          exact eq_run (fun op=> eqGuard_agg hguard) (hs a b' lx ly _ _ b h rx ry (.inl ⟨hagg,rfl⟩) (.inl ⟨hagg,rfl⟩) hlen.1 hlen.2 _ (by decide)) (fun op=> ⟨by rintro rfl;rfl,by rintro rfl;rfl⟩)
        · cases h
      · cases h
    · cases h
  · -- a bool
    simp only[okEqTy]at hok
    split at hok
    case h_2=> cases hok
    rename_i hu
    split at h
    · simp only[Option.some.injEq]at h
      subst h
      rw[rep_b]at hx hy
      subst hx
      subst hy
      exact eq_run (fun op=> eqGuard_bool) (run_equalIn_bool' (P:=P) w 9999 t _ _ hu) (fun op=> ⟨by rintro rfl;rfl,by rintro rfl;rfl⟩)
    · cases h
  · cases h
end
end Go.Sh
namespace Go.Sh
open Go.RowKit
section
variable {P:Program}{Pr:Prog}{κ:K}{st:St}{w:World}
theorem Rep.cells {x:V}{v:Value}(h:Rep κ x v)(hx:x.ok1=true):All2 (RepC κ) x.cs v.cells.toList:=
  Rep1.cells (Rep.to1 h (by rintro vs rfl;cases hx)) (by rintro rfl;cases hx)
theorem foldl_lay (off:Nat):∀ (l:List Value) (k:Nat) (arr:Array Value),off+k+l.length≤arr.size→
    ((l.zipIdx k).foldl (fun cs p=> cs.setIfInBounds (off+p.2) p.1) arr).toList=arr.toList.take (off+k)++l++arr.toList.drop (off+k+l.length)
  | [],k,arr,h=> by simp
  | v::l,k,arr,h=> by
    simp only[List.length_cons]at h
    rw[List.zipIdx_cons,List.foldl_cons,foldl_lay off l (k+1) _ (by simp;omega)]
    have e:=list_seg_step arr.toList (off+k) v l (by simp;omega)
    simp only[Array.toList_setIfInBounds]
    rw[show off+(k+1)=off+k+1 by omega]
    rw[e]
    simp
def okParts (L:Link)(place:Nat→Option (Nat×Nat)):List (Nat×Operand)→List (Nat×Nat×Opd)→Bool
  | [],[]=> true
  | (i,x)::r,(off,size,y)::s=> decide (place i=some (off,size)) && okO L x y && okParts L place r s
  | _,_=> false
theorem lay_len {α:Type}{cs xs:List α}{off:Nat}(h:off+xs.length≤cs.length):(lay cs off xs).length=cs.length:=by
  simp only[lay,List.length_append,List.length_take,List.length_drop]
  omega
theorem All2.lay {R:V→Value→Prop}{cs:List V}{l:List Value}(h:All2 R cs l){xs:List V}{ys:List Value}(h':All2 R xs ys)(off:Nat):All2 R (lay cs off xs) (Sh.lay l off ys):=by
  unfold Sh.lay
  rw[h'.length]
  exact((h.take _).append h').append (h.drop _)
theorem fill_sound {place:Nat→Option (Nat×Nat)}(hi:Inv Pr κ st){e:Env}{a:Act}(hE:ERel κ e a):∀ {ps:List (Nat×Operand)} {qs:List (Nat×Nat×Opd)} {vs:List (Nat×Nat×V)} {cs zs:List V} {arr:Array Value},
    okParts κ.L place ps qs=true→partsV Pr e qs=some vs→fillV cs vs=some zs→All2 (RepC κ) cs arr.toList→
    ∃ arr',Instr.fill place arr (ps.map fun(i,x)=> (i,a.eval x))=some arr'∧All2 (RepC κ) zs arr'.toList
  | [],[],vs,cs,zs,arr,_,hv,hf,ha=> by
    simp only[partsV,Option.some.injEq]at hv
    subst hv
    simp only[fillV,Option.some.injEq]at hf
    subst hf
    exact⟨arr,rfl,ha⟩
  | (i,x)::ps,(off,size,y)::qs,vs,cs,zs,arr,hok,hv,hf,ha=> by
    simp only[okParts,Bool.and_eq_true,decide_eq_true_eq]at hok
    obtain⟨⟨hp,ho⟩,hrest⟩:=hok
    simp only[partsV]at hv
    split at hv
    · rename_i v hy
      split at hv
      · rename_i vs' hvs
        simp only[Option.some.injEq]at hv
        subst hv
        simp only[fillV]at hf
        split at hf
        · rename_i hc
          have hr:=opd_sound hi hE ho hy
          have hcells:=Rep.cells hr hc.1
          have hl:v.cs.length=(a.eval x).cells.size:=by simpa using hcells.length
          have hlen:cs.length=arr.size:=by simpa using ha.length
          obtain⟨_,hc1,hc2⟩:=hc
          have hsz:(a.eval x).cells.size=size:=by omega
          have hfold:(((a.eval x).cells.zipIdx.foldl (fun cs p=> cs.setIfInBounds (off+p.2) p.1) arr)).toList=lay arr.toList off (a.eval x).cells.toList:=by
            rw[← Array.foldl_toList,Array.toList_zipIdx]
            have:=foldl_lay off (a.eval x).cells.toList 0 arr (by simp;omega)
            simpa[lay]using this
          obtain⟨arr',h1,h2⟩:=fill_sound hi hE (arr:=((a.eval x).cells.zipIdx.foldl (fun cs p=> cs.setIfInBounds (off+p.2) p.1) arr)) hrest hvs hf (by rw[hfold];exact ha.lay hcells off)
          refine⟨arr',?_,h2⟩
          simp only[List.map_cons,Instr.fill,hp]
          rw[if_neg (by simp;omega)]
          exact h1
        · cases hf
      · cases hv
    · cases hv
  | [],_::_,vs,cs,zs,arr,hok,_,_,_=> by simp[okParts]at hok
  | _::_,[],vs,cs,zs,arr,hok,_,_,_=> by simp[okParts]at hok
theorem okDs_C {l:List Value}{z:List D}(h:okDs l z=true):All2 (RepC κ) (ofDs z) l:=ofDs_rep (okDs_rep h)
def bPlace (P:Program)(t:TypeId):Option (Nat→Option (Nat×Nat)):=match P.underlying t with
  | some (.array _ e)=> match P.info? e with
    | some ie=> some fun i=> some (i * ie.size,ie.size)
    | none=> none
  | some (.struct fields)=> match fields.toList.mapM (fun f=> (P.info? f.type).map fun i=> (f.offset,i.size)) with
    | some places=> some (places.toArray[·]?)
    | none=> none
  | _=> none
theorem build_sound {t:TypeId}{z:List D}{ps:Array (Nat×Operand)}{qs:List (Nat×Nat×Opd)}{place:Nat→Option (Nat×Nat)}(hz:zeroIs P t z=true)(hpl:bPlace P t=some place)(hok:okParts κ.L place ps.toList qs=true)(hi:Inv Pr κ st){e:Env}{a:Act}(hE:ERel κ e a)
    {vs:List (Nat×Nat×V)} (hv:partsV Pr e qs=some vs) {zs:List V} (hf:fillV (ofDs z) vs=some zs):
    ∃ v,(Instr.build t (ps.map fun(i,x)=> (i,a.eval x))).run P w= .ok v w∧Rep κ (.agg zs) v:=by
  obtain⟨i,zv,h1,h2,h3,h4⟩:=zeroIs_spec hz
  obtain⟨arr',hfill,ha⟩:=fill_sound hi hE (arr:=zv.cells) hok hv hf (okDs_C h3)
  have hb:P.built t (ps.map fun(i,x)=> (i,a.eval x)).toList=some arr':=by
    rw[Array.toList_map]
    unfold bPlace at hpl
    unfold Program.built
    rw[h1]
    cases hu:P.underlying t with
    | none=> rw[hu]at hpl;cases hpl
    | some d=>
      rw[hu]at hpl
      cases d <;> simp only at hpl <;> try (cases hpl;done)
      · split at hpl
        · rename_i ie hie
          simp only[Option.some.injEq]at hpl
          subst hpl
          simp only[h2,hie]
          exact hfill
        · cases hpl
      · split at hpl
        · rename_i places hp
          simp only[Option.some.injEq]at hpl
          subst hpl
          simp only[h2,hp]
          exact hfill
        · cases hpl
  exact⟨.agg arr',run_build w t _ arr' hb,arr'.toList,rfl,ha⟩
theorem reps_len {α:Type}(n:Nat)(z:List α):(reps n z).length=n * z.length:=by
  simp[reps]
theorem reps_cells {z:List D}{l:List Value}(h:All2 (RepD κ.L κ.imm) z l)(n:Nat):All2 (RepD κ.L κ.imm) (reps n z) (reps n l):=by
  induction n with
  | zero=> exact .nil
  | succ n ih=>
    have:∀ {α:Type} (x:List α),reps (n+1) x=x++reps n x:=fun x=> by simp[reps,List.replicate_succ]
    rw[this,this]
    exact h.append ih
theorem reps_get {α:Type}{z:List α}{n j:Nat}(hj:j < n * z.length):(reps n z)[j]? =z[j % z.length]? :=by
  induction n generalizing j with
  | zero=> simp at hj
  | succ n ih=>
    have:reps (n+1) z=z++reps n z:=by simp[reps,List.replicate_succ]
    rw[this]
    by_cases h:j < z.length
    · rw[List.getElem?_append_left h,Nat.mod_eq_of_lt h]
    · rw[List.getElem?_append_right (by omega),ih (by rw[Nat.add_mul]at hj;omega)]
      congr 1
      rw[Nat.mod_eq_sub_mod (by omega:j≥z.length)]
theorem made_toList {z:Array Value}{n:Nat}:(madeCells z (n * z.size)).toList=reps n z.toList:=by
  apply List.ext_getElem?
  intro j
  by_cases hj:j < n * z.size
  · rw[reps_get (by simpa using hj)]
    have hz:0 < z.size:=by
      rcases Nat.eq_zero_or_pos z.size with h | h
      · rw[h]at hj;simp at hj
      · exact h
    have hm:=Nat.mod_lt j hz
    simp[madeCells,hj,hm]
  · rw[List.getElem?_eq_none (by simp[madeCells];omega),List.getElem?_eq_none (by rw[reps_len];simpa using hj)]
theorem lits_sound {t e:TypeId}{n:Nat}{z:List D}{ps:Array (Nat×Operand)}{qs:List (Nat×Nat×Opd)}(hu:P.underlying t=some (.slice e))(hz:zeroIs P e z=true)(hn:n * z.length≤16777216)
    (hok:okParts κ.L (fun i=> some (i * z.length,z.length)) ps.toList qs=true) (hi:Inv Pr κ st) {env:Env} {a:Act} (hE:ERel κ env a)
    {vs:List (Nat×Nat×V)} (hv:partsV Pr env qs=some vs) {zs:List V} (hf:fillV (ofDs (reps n z)) vs=some zs):
    ∃ arr,(Instr.buildSlice t n (ps.map fun(i,x)=> (i,a.eval x))).run P w= .ok (.slice (some ⟨w.heap.size,0,none⟩) n n) (w.alloc (.cells arr e))∧All2 (RepC κ) zs arr.toList:=by
  obtain⟨i,zv,h1,h2,h3,h4⟩:=zeroIs_spec hz
  have hlen:z.length=i.size:=by
    have h5:z.length=zv.cells.size:=by simpa using(okDs_rep (L:=κ.L) (I:=κ.imm) h3).length
    omega
  have hcells:All2 (RepC κ) (ofDs (reps n z)) (madeCells zv.cells (n * zv.cells.size)).toList:=by
    rw[made_toList]
    exact ofDs_rep (reps_cells (okDs_rep h3) n)
  obtain⟨arr',hfill,ha⟩:=fill_sound hi hE (arr:=madeCells zv.cells (n * zv.cells.size)) hok hv hf hcells
  refine⟨arr',?_,ha⟩
  rw[h4,hlen]at hfill
  have hbig:¬ (16777216 < n * i.size):=by rw[← hlen];omega
  have hmap:(ps.map fun(i,x)=> (i,a.eval x)).toList=ps.toList.map fun(i,x)=> (i,a.eval x):=Array.toList_map
  unfold Instr.buildSlice
  simp only[Sem.run_bind,run_underlying hu,Result.andThen_ok,sizeOf,typeInfo,run_program,h1,Sem.run_pure]
  by_cases h0:n * i.size=0
  · have he:madeCells zv.cells (n * i.size)= #[]:=by rw[h0];simp[madeCells]
    rw[he]at hfill
    have hf2:Instr.fill (fun j=> some (j * i.size,i.size)) #[] (ps.toList.map fun x=> (x.fst,a.eval x.snd))=some arr':=hfill
    have h00:∀ f:Nat→Value,(Array.range 0).map f= #[]:=fun f=> by simp[Array.range_zero']
    simp only[hbig,h0,if_false,if_true,Sem.run_bind,Sem.run_pure,Result.andThen_ok,h00,Sem.run_ite,ite_false,ite_true,Array.toList_map]
    simp[hf2,newRow]
  · have hm:((Array.range (n * i.size)).map (zv.cells[· % zv.cells.size]!))=madeCells zv.cells (n * i.size):=rfl
    have hf2:Instr.fill (fun j=> some (j * i.size,i.size)) (madeCells zv.cells (n * i.size)) (ps.toList.map fun x=> (x.fst,a.eval x.snd))=some arr':=hfill
    simp[hbig,h0,zeroValue,typeInfo,h1,h2,newRow,hm,hf2]
end
end Go.Sh
namespace Go.Sh
open Go.RowKit
section
variable {P:Program}{Pr:Prog}{κ:K}{st:St}{w:World}
/-! ### Interface values, tuples -/
def concIs (P:Program)(t:TypeId)(b:Bool):Bool:=match P.underlying t with
  | some (.interface _)=> false
  | some (.struct _)=> b
  | some (.array _ _)=> b
  | some _=> !b
  | none=> false
theorem mkI_sound {t:TypeId}{tag:Nat}{agg:Bool}(ht:κ.L.ty tag=t){x z:V}(hc:concIs P t agg=true)(h:mkIV tag agg x=some z){vx:Value}(hx:Rep κ x vx):
    ∃ v,(Instr.makeInterface t vx).run P w= .ok v w∧Rep κ z v:=by
  have hrun:(Instr.makeInterface t vx).run P w= .ok (.iface t vx) w:=by
    unfold concIs at hc
    cases hu:P.underlying t with
    | none=> rw[hu]at hc;cases hc
    | some d=>
      rw[hu]at hc
      cases d <;> first
        | (simp at hc;done)
        | simp[Instr.makeInterface,run_underlying hu]
  refine⟨_,hrun,?_⟩
  unfold mkIV at h
  split at h
  · split at h
    · simp only[Option.map_eq_some_iff]at h
      obtain⟨ds,hds,rfl⟩:=h
      obtain⟨l,rfl,ha⟩:=hx
      show RepD _ _ _ _
      simp only[RepD]
      exact⟨l,by rw[ht];rfl,by simp,RepA.all2.2 (toDs_rep hds ha)⟩
    · cases h
  · rename_i hna
    split at h
    · cases h
    simp only[Option.map_eq_some_iff]at h
    obtain⟨d,hd,rfl⟩:=h
    have hC:RepC κ x vx:=by
      cases x <;> simp only[toD]at hd <;> try (cases hd;done)
      · exact hx
      · exact hx
    show RepD _ _ _ _
    simp only[RepD]
    exact⟨[vx],by rw[ht];rfl,by simp,vx,[],rfl,toD_rep hd hC,rfl⟩
theorem rep1_b (κ:K)(b:Bool):Rep1 κ (.d (.b b)) (.bool b):=Rep1.ofC (x:= .d _) (show RepD _ _ _ _ from repD_b.2 rfl)
theorem extract_sound {i:Nat}{vs:List V}{z:V}(h:vs[i]? =some z){vx:Value}(hx:Rep κ (.tup vs) vx):∃ v,(Instr.extract vx i).run P w= .ok v w∧Rep κ z v:=by
  obtain⟨l,rfl,ha⟩:=hx
  obtain⟨v,hv,hr⟩:=ha.get h
  exact⟨v,by simp[Instr.extract,hv],Rep.of1 hr⟩
theorem zeroV_rep {z:List D}{t:TypeId}{agg:Bool}(hz:zeroIs P t z=true)(hg:aggIs P t agg=true)(hv:∀ v,(P.info? t).bind (·.zero)=some v→(match v with | .agg _=> agg | _=> !agg)=true):∃ v,(zeroValue t).run P w= .ok v w∧Rep1 κ (zeroV z agg) v:=by
  obtain⟨i,zv,h1,h2,h3,h4⟩:=zeroIs_spec hz
  refine⟨zv,by simp[zeroValue,typeInfo,h1,h2],?_⟩
  have hm:=hv zv (by rw[h1];exact h2)
  have ha:=okDs_rep (L:=κ.L) (I:=κ.imm) h3
  unfold zeroV
  cases agg with
  | true=>
    simp only[if_true]
    cases zv <;> first
      | (simp at hm;done)
      | exact⟨_,congrArg Value.agg (Array.toArray_toList).symm,by simpa[Value.cells]using ofDs_rep ha⟩
  | false=>
    simp only[Bool.false_eq_true,if_false]
    have hc:zv.cells= #[zv]:=by cases zv <;> first | rfl | simp at hm
    rw[hc]at ha
    match z,ha with
    | [d],.cons h _=> exact Rep1.ofC (x:= .d d) h
    | _::_::_,.cons _ h=> cases h
def zeroOk (P:Program)(t:TypeId)(z:List D)(agg:Bool):Bool:=zeroIs P t z && aggIs P t agg && (match (P.info? t).bind (·.zero) with
  | some (.agg _)=> agg
  | some _=> !agg
  | none=> false)
theorem zero_sound {z:List D}{t:TypeId}{agg:Bool}(h:zeroOk P t z agg=true):∃ v,(zeroValue t).run P w= .ok v w∧Rep1 κ (zeroV z agg) v:=by
  simp only[zeroOk,Bool.and_eq_true]at h
  refine zeroV_rep h.1.1 h.1.2 fun v hv=> ?_
  rw[hv]at h
  have h2:=h.2
  cases v <;> exact h2
theorem assert_sound {t xt:TypeId}{tag:Nat}(ht:κ.L.ty tag=t){others:List Nat}(hinj:(others.all fun a=> decide (κ.L.ty a≠t))=true){ok:Bool}{z:List D}{za:Bool}(hz:zeroOk P t z za=true)(hni:(match P.underlying t with | some (.interface _)=> false | some _=> true | none=> false)=true)
    {x r:V} (h:assertV tag others ok (zeroV z za) x=some r) {vx:Value} (hx:Rep κ x vx):∃ v,(Instr.typeAssert vx xt t ok).run P w= .ok v w∧Rep κ r v:=by
  obtain⟨zv,hzr,hzv⟩:=zero_sound (κ:=κ) (w:=w) hz
  cases hu:P.underlying t with
  | none=> rw[hu]at hni;cases hni
  | some d=>
    rw[hu]at hni
    have hfalse:Rep κ (.tup [zeroV z za,.d (.b false)]) (.tuple #[zv,.bool false]):=⟨[zv,.bool false],rfl,.cons hzv (.cons (rep1_b κ _) .nil)⟩
    unfold assertV at h
    split at h
    · split at h
      · rename_i hok
        simp only[Option.some.injEq]at h
        subst h
        have hx:RepD _ _ _ _:=hx
        simp only[RepD]at hx
        subst hx
        refine⟨_,?_,hfalse⟩
        unfold Instr.typeAssert
        simp only[Sem.run_bind,run_underlying hu,Result.andThen_ok,hok]
        cases d <;> first
          | (simp at hni;done)
          | simp[hzr]
      · cases h
    · rename_i u agg ds
      have hx':RepD _ _ _ _:=hx
      simp only[RepD]at hx'
      obtain⟨l,rfl,h1,h2⟩:=hx'
      split at h
      · rename_i hut
        subst hut
        simp only[Option.map_eq_some_iff]at h
        obtain⟨v,hv,rfl⟩:=h
        have ha:=RepA.all2.1 h2
        have hr:=mkV_rep hv (ofDs_rep ha)
        have hrun:(Instr.typeAssert (.iface (κ.L.ty u) (if agg then .agg l.toArray else l.headD undef)) xt t ok).run P w= .ok (if ok then .tuple #[if agg then .agg l.toArray else l.headD undef,.bool true]else if agg then .agg l.toArray else l.headD undef) w:=by
          unfold Instr.typeAssert
          simp only[Sem.run_bind,run_underlying hu,Result.andThen_ok,ht]
          cases d <;> first
            | (simp at hni;done)
            | (cases ok <;> simp)
        refine⟨_,hrun,?_⟩
        cases ok with
        | true=> exact⟨[_,.bool true],rfl,.cons hr (.cons (rep1_b κ _) .nil)⟩
        | false=> exact Rep.of1 hr
      · rename_i hut
        split at h
        · rename_i hok
          simp only[Bool.and_eq_true]at hok
          obtain⟨hok,hcon⟩:=hok
          simp only[Option.some.injEq]at h
          subst h
          refine⟨_,?_,hfalse⟩
          have hne:¬ (κ.L.ty u=t):=by
            have:=List.all_eq_true.1 hinj u (by simpa using hcon)
            simpa using this
          unfold Instr.typeAssert
          simp only[Sem.run_bind,run_underlying hu,Result.andThen_ok,hok]
          cases d <;> first
            | (simp at hni;done)
            | simp[hzr,hne]
        · cases h
    · cases h
/-! ### Strings and arrays, cut -/
theorem extract_mk (l:List UInt8)(a h:Nat):(⟨l.toArray⟩:ByteArray).extract a h=⟨((l.drop a).take (h - a)).toArray⟩:=by
  apply ByteArray.ext
  simp[List.extract_toArray,List.take_drop,ByteArray.data_extract]
theorem slcS_sound {t:TypeId}(ht:strIs P t=true){x z:V}{lo hi:Option V}(h:slcSV x lo hi=some z){vx:Value}{vl vh:Option Value}(hx:Rep κ x vx)(hl:ORep κ lo vl)(hh:ORep κ hi vh):
    ∃ v,(Instr.sliceAt t vx vl vh none).run P w= .ok v w∧Rep κ z v:=by
  have hu:=strIs_spec ht
  unfold slcSV at h
  split at h
  · rename_i l
    simp only[Option.map_eq_some_iff]at h
    obtain⟨⟨a,h',m⟩,hb,rfl⟩:=h
    rw[rep_s]at hx
    subst hx
    have hrun:=bnds_sound (P:=P) (w:=w) (b:=false) hb hl hh (vm:=none) trivial (by simp)
    refine⟨_,?_,rep_s.2 rfl⟩
    dsimp only
    rw[← extract_mk]
    simp[Instr.sliceAt,Instr.slice,run_underlying hu,size_mk,hrun]
  · cases h
theorem slcA_sound {t:TypeId}{len size:Nat}(ht:(arrIs P t len size || (match P.underlying t with | some (.pointer a)=> arrIs P a len size | _=> false))=true){x z:V}{lo hi mx:Option V}(h:slcAV len size x lo hi mx=some z){vx:Value}{vl vh vm:Option Value}(hx:Rep κ x vx)(hl:ORep κ lo vl)(hh:ORep κ hi vh)(hm:ORep κ mx vm)(hmh:mx.isSome=true→hi.isSome=true):
    ∃ v,(Instr.sliceAt t vx vl vh vm).run P w= .ok v w∧Rep κ z v:=by
  have hrun:∀ (A:Addr) (l h m:Nat),(Instr.sliceBounds false len len vl vh vm).run P w= .ok (l,h,m) w→(Instr.sliceAt t (.pointer (some A)) vl vh vm).run P w= .ok (.slice (some (if m=l then A else A.add (l * size))) (h - l) (m - l)) w:=fun A l h m hb=> by
    simp only[Bool.or_eq_true]at ht
    rcases ht with ht | ht
    · obtain⟨e,hu,hs⟩:=arrIs_spec ht
      simp[Instr.sliceAt,run_underlying hu,Instr.sureAddr,hb,run_sizeOf hs]
    · split at ht
      · rename_i a hu
        obtain⟨e,hua,hs⟩:=arrIs_spec ht
        simp[Instr.sliceAt,Instr.slice,run_underlying hu,run_underlying hua,asAddr,hb,run_sizeOf hs]
      · cases ht
  unfold slcAV at h
  split at h
  · simp only[Option.map_eq_some_iff]at h
    obtain⟨⟨l,h',m⟩,hb,rfl⟩:=h
    obtain⟨b,h1,rfl⟩:=hx
    have hle:=bnds_le hb (Nat.le_refl _) hmh
    refine⟨_,hrun _ _ _ _ (bnds_sound hb hl hh hm hmh),?_⟩
    dsimp only
    by_cases hc:m=l
    · exact⟨b,_,h1,by rw[if_pos hc],by omega,.inl (by omega)⟩
    · exact⟨b,_,h1,by rw[if_neg hc,Addr.add_lit],by omega,.inr rfl⟩
  · split at h
    · cases h
    rename_i hnm
    simp only[Option.map_eq_some_iff]at h
    obtain⟨⟨l,h',m⟩,hb,rfl⟩:=h
    obtain⟨A,rfl,hA⟩:=hx
    have hle:=bnds_le hb (Nat.le_refl _) (by simp)
    have hmx:mx=none:=by cases mx <;> simp at hnm;rfl
    subst hmx
    refine⟨_,hrun _ _ _ _ (bnds_sound hb hl hh hm (by simp)),?_⟩
    dsimp only
    show RepD _ _ _ _
    simp only[RepD]
    refine⟨_,_,rfl,by omega,rfl,by simp,?_⟩
    rcases hA with rfl | ⟨b,o,rfl,hA⟩
    · exact .inl (by simp)
    · by_cases hc:m=l
      · left
        have:h' - l=0:=by omega
        simp[this]
      · right
        exact⟨b,_,by rw[if_neg hc,Addr.add_lit],(hA.drop _).take _⟩
  · cases h
end
end Go.Sh
namespace Go.Sh
open Go.RowKit
section
variable {P:Program}{Pr:Prog}{κ:K}{st:St}
def Mem (P:Program)(Pr:Prog)(κ:K)(st':St)(z:V)(s:Sem Value):Prop:=∃ κ' v,s.run P κ.w= .ok v κ'.w∧κ.le κ'∧Inv Pr κ' st'∧Rep κ' z v
theorem Mem.pure (hi:Inv Pr κ st){z:V}{s:Sem Value}(h:∃ v,s.run P κ.w= .ok v κ.w∧Rep κ z v):Mem P Pr κ st z s:=by
  obtain⟨v,h1,h2⟩:=h
  exact⟨κ,v,h1,K.le.refl κ,hi,h2⟩
theorem Mem.pure1 (hi:Inv Pr κ st){z:V}{s:Sem Value}(h:∃ v,s.run P κ.w= .ok v κ.w∧Rep1 κ z v):Mem P Pr κ st z s:=by
  obtain⟨v,h1,h2⟩:=h
  exact⟨κ,v,h1,K.le.refl κ,hi,Rep.of1 h2⟩
/-! ### Boxes -/
theorem box_mem (hi:Inv Pr κ st){elem:TypeId}{x:V}(hx1:x.ok1=true){vx:Value}(hx:Rep κ x vx):Mem P Pr κ (st.push (.row x.cs)) (.ptr st.heap.length 0) (Instr.box elem vx):=by
  obtain⟨h1,h2⟩:=hi.pushI (.cells vx.cells elem) (.row x.cs) ⟨_,_,rfl,Rep.cells hx hx1⟩
  refine⟨_,.pointer (some ⟨κ.w.heap.size,0,none⟩),?_,h1,h2,κ.w.heap.size,?_,rfl⟩
  · simp[Instr.box,newVar,newRow]
    rfl
  · rw[← hi.len]
    exact push_last κ _
theorem alloc_mem (hi:Inv Pr κ st){elem:TypeId}{z:List D}(hz:zeroIs P elem z=true):Mem P Pr κ (st.push (.row (ofDs z))) (.ptr st.heap.length 0) (Instr.alloc elem true (.tuple #[])):=by
  obtain⟨i,zv,h1,h2,h3,h4⟩:=zeroIs_spec hz
  obtain⟨k1,k2⟩:=hi.pushI (.cells zv.cells elem) (.row (ofDs z)) ⟨_,_,rfl,okDs_C h3⟩
  refine⟨_,.pointer (some ⟨κ.w.heap.size,0,none⟩),?_,k1,k2,κ.w.heap.size,?_,rfl⟩
  · simp[Instr.alloc,zeroValue,typeInfo,h1,h2,newVar,newRow]
    rfl
  · rw[← hi.len]
    exact push_last κ _
theorem imm_new (hi:Inv Pr κ st){arr:Array Value}{e:TypeId}{fr:Nat×Nat}{w':World}(hw:w'.heap[κ.w.heap.size]? =some (.cells arr e fr)){ds:List D}{l:List Value}(hl:All2 (RepD κ.L (κ.to w').imm) ds l)(hp:∀ (j:Nat) (x:Value),l[j]? =some x→arr[j]? =some x):RepL κ.L (κ.to w').imm ds κ.w.heap.size 0:=by
  refine RepL.of fun j c hj=> ?_
  obtain⟨x,hx,hr⟩:=hl.get hj
  refine⟨x,⟨?_,fun hwr=> ?_⟩,hr⟩
  · rw[Nat.zero_add]
    show w'.cell? _=_
    rw[cell_of_row w' _ j arr e fr hw]
    exact hp j x hx
  · have:=hi.muts _ _ hwr
    omega
theorem boxI_mem (hi:Inv Pr κ st){elem:TypeId}{x:V}(hx1:x.ok1=true){ds:List D}(hd:toDs x.cs=some ds){vx:Value}(hx:Rep κ x vx):Mem P Pr κ st (.ep ds) (Instr.box elem vx):=by
  obtain⟨h1,h2⟩:=hi.grow (World.grownBy_alloc κ.w (.cells vx.cells elem) none)
  refine⟨_,.pointer (some ⟨κ.w.heap.size,0,none⟩),?_,h1,h2,_,rfl,.inr ⟨κ.w.heap.size,0,rfl,?_⟩⟩
  · simp[Instr.box,newVar,newRow]
    rfl
  · have ha:=(toDs_rep hd (Rep.cells hx hx1)).mono fun d v hr=> RepD.mono h1.imm d v hr
    exact imm_new hi (heap_alloc_new κ.w _) ha (fun j x hj=> by simpa using hj)
theorem slNew_mem (hi:Inv Pr κ st){arr:Array Value}{e:TypeId}{n cap:Nat}(hc:n≤cap){cs:List V}{ds:List D}(hd:toDs cs=some ds){k:Nat}(ha:All2 (RepC κ) cs (arr.toList.take k)){s:Sem Value}
    (hr:s.run P κ.w= .ok (.slice (some ⟨κ.w.heap.size,0,none⟩) n cap) (κ.w.alloc (.cells arr e))):Mem P Pr κ st (.d (.sl n true ds)) s:=by
  obtain⟨h1,h2⟩:=hi.grow (World.grownBy_alloc κ.w (.cells arr e) none)
  refine⟨_,_,hr,h1,h2,?_⟩
  show RepD _ _ _ _
  simp only[RepD]
  refine⟨_,cap,rfl,hc,rfl,by simp,.inr ⟨κ.w.heap.size,0,rfl,?_⟩⟩
  have hb:=(toDs_rep hd ha).mono fun d v hr=> RepD.mono h1.imm d v hr
  exact imm_new hi (heap_alloc_new κ.w _) hb (fun j x hj=> by have:=(take_get hj).2;simpa using this)
theorem slRef_mem (hi:Inv Pr κ st){arr:Array Value}{e:TypeId}{n cap size:Nat}(hc:n≤cap){cs:List V}(ha:All2 (RepC κ) cs arr.toList){s:Sem Value}
    (hr:s.run P κ.w= .ok (.slice (some ⟨κ.w.heap.size,0,none⟩) n cap) (κ.w.alloc (.cells arr e))):Mem P Pr κ (st.push (.row cs)) (.rsl size st.heap.length 0 n cap) s:=by
  obtain⟨h1,h2⟩:=hi.pushI (.cells arr e) (.row cs) ⟨_,_,rfl,ha⟩
  refine⟨_,_,hr,h1,h2,κ.w.heap.size,0,?_,rfl,hc,.inr rfl⟩
  rw[← hi.len]
  exact push_last κ _
/-! ### Stores -/
theorem lay_arr {arr:Array Value}{off:Nat}{l:List Value}:(arr.toList.take (off+0)++l++arr.toList.drop (off+0+l.length))=lay arr.toList off l:=by
  simp[lay]
theorem write_at (hi:Inv Pr κ st){id b off:Nat}{cs:List V}{arr:Array Value}{e:TypeId}(hrow:st.row id=some cs)(h1:κ.ρ[id]? =some b)(h3:κ.w.heap[b]? =some (.cells arr e (0,0)))(h4:All2 (RepC κ) cs arr.toList)(h5:∀ o,κ.wr b o)
    {xs:List V} {l:List Value} (hx:All2 (RepC κ) xs l) (hlen:off+xs.length≤cs.length) {st':St} (hst:st.setBlk id (.row (lay cs off xs))=some st'):
    ∃ κ',(storeCells ⟨b,off,none⟩ l).run P κ.w= .ok () κ'.w∧κ.le κ'∧Inv Pr κ' st':=by
  unfold St.setBlk at hst
  split at hst
  case isFalse=> cases hst
  simp only[Option.some.injEq]at hst
  subst hst
  have hl:=hx.length
  have hl4:cs.length=arr.size:=by simpa using h4.length
  have hrun:=run_storeCells_at P b off e l 0 arr κ.w h3 (by omega) (All2.one hx)
  rw[lay_arr]at hrun
  have hp:=hi.put (w':=κ.w.setRow b (lay arr.toList off l).toArray) (blk:= .row (lay cs off xs)) (o:= .cells (lay arr.toList off l).toArray e (0,0)) h1 (fun k hk=> setRow_other κ.w b k _ hk) (by simp) rfl rfl rfl
    (setRow_heap κ.w b arr _ e _ h3) (.inl h5) ⟨_,_,rfl,by simpa using h4.lay hx off,h5⟩
  exact⟨_,hrun,hp.1,hp.2⟩
theorem store_mem (hi:Inv Pr κ st){t:TypeId}{size:Nat}(hs:szIs P t size=true){p x:V}{st':St}(h:storeV size st p x=some st'){vp vx:Value}(hp:Rep κ p vp)(hx:Rep κ x vx):
    ∃ κ',(Instr.storeAt t vp vx).run P κ.w= .ok () κ'.w∧κ.le κ'∧Inv Pr κ' st':=by
  unfold storeV at h
  split at h
  · rename_i id off
    split at h
    · rename_i cs hrow
      split at h
      · rename_i hc
        obtain⟨hx1,hc1,hc2⟩:=hc
        obtain⟨b,h1,rfl⟩:=hp
        obtain⟨b',arr,e,h2,h3,h4,h5⟩:=hi.rows id cs hrow
        obtain rfl:b=b':=by rw[h1]at h2;exact Option.some.inj h2
        have hcells:=Rep.cells hx hx1
        obtain⟨κ',hr,k1,k2⟩:=write_at (P:=P) hi hrow h1 h3 h4 h5 hcells (by omega) h
        refine⟨κ',?_,k1,k2⟩
        have hsz:vx.cells.size=size:=by
          have:x.cs.length=vx.cells.size:=by simpa using hcells.length
          omega
        show(Instr.storeAt t (.pointer (some ⟨b,off,none⟩)) vx).run P κ.w=_
        simp[Instr.storeAt,Instr.sureAddr,storeVar,run_sizeOf hs,hsz,hr]
      · cases h
    · cases h
  · cases h
/-! ### What a copy or an append reads -/
theorem byteCells_rep:∀ (l:List UInt8),All2 (RepD κ.L κ.imm) (byteCells l) (l.map fun b=> Value.int .u8 b.toNat)
  | []=> .nil
  | b::l=> .cons (repD_i.2 rfl) (byteCells_rep l)
theorem src_cells (hi:Inv Pr κ st){size:Nat}{x:V}{m:Nat}{ds:List D}(h:vw size st x=some (m,ds))(hlen:ds.length=m * size){vx:Value}(hx:Rep κ x vx):
    ∃ l,All2 (RepD κ.L κ.imm) ds l∧(∀ P w,w.heap=κ.w.heap→(Builtin.lenOf vx).run P w= .ok m w∧∀ n,n≤m→(Builtin.firstCells size n vx).run P w= .ok (l.take (n * size)).toArray w)∧∀ v∈l,v.oneCell'=true:=by
  have one:∀ {l:List Value},All2 (RepD κ.L κ.imm) ds l→∀ v∈l,v.oneCell'=true:=fun ha=> All2.one (ofDs_rep ha)
  have hD:∀ (nz:Bool),RepD κ.L κ.imm (.sl m nz ds) vx→∃ l,All2 (RepD κ.L κ.imm) ds l∧(∀ P w,w.heap=κ.w.heap→(Builtin.lenOf vx).run P w= .ok m w∧∀ n,n≤m→(Builtin.firstCells size n vx).run P w= .ok (l.take (n * size)).toArray w)∧∀ v∈l,v.oneCell'=true:=by
    intro nz hd
    simp only[RepD]at hd
    obtain⟨A,cap,rfl,h1,h2,h3,h4⟩:=hd
    rcases h4 with rfl | ⟨b,o,rfl,hl⟩
    · simp only[List.length_nil]at hlen
      refine⟨[],.nil,fun P w hw=> ⟨by simp[Builtin.lenOf],fun n hn=> ?_⟩,by simp⟩
      have h0:n * size=0:=by
        rcases Nat.eq_zero_or_pos size with hs | hs
        · simp[hs]
        · have:m=0:=by
            rcases Nat.eq_zero_or_pos m with hm | hm
            · exact hm
            · have:=Nat.mul_pos hm hs;omega
          have:n=0:=by omega
          simp[this]
      cases A with
      | none=> simp[Builtin.firstCells]
      | some a=> simp[Builtin.firstCells,h0,loadCells,loadCellsFrom]
    · obtain⟨l,ha,hc⟩:=hl.vals
      have hll:=ha.length
      refine⟨l,ha,fun P w hw=> ⟨by simp[Builtin.lenOf],fun n hn=> ?_⟩,one ha⟩
      have hle:n * size≤m * size:=Nat.mul_le_mul_right _ hn
      refine run_firstCells_some w size n ⟨b,o,none⟩ m cap _ (by rw[List.length_take];omega) (fun j v hj=> ?_)
      rw[Addr.add_lit]
      have:=(hc j v (take_get hj).2).1
      rw[World.cell?_of_block (w:=κ.w) (by rw[hw])]
      exact this
  unfold vw at h
  split at h
  · simp only[Option.some.injEq,Prod.mk.injEq]at h
    obtain⟨rfl,rfl⟩:=h
    exact hD _ hx
  · simp only[Option.some.injEq,Prod.mk.injEq]at h
    obtain⟨rfl,rfl⟩:=h
    exact hD _ hx.1
  · rename_i sz id off n cap
    split at h
    case isFalse=> cases h
    rename_i hsz
    subst hsz
    simp only[Option.map_eq_some_iff,Prod.mk.injEq]at h
    obtain⟨ds',hds,rfl,rfl⟩:=h
    unfold cellsAt at hds
    split at hds
    case h_2=> cases hds
    rename_i cs hrow
    split at hds
    case isFalse=> cases hds
    rename_i hfit
    obtain⟨b,o,h1,rfl,hcap,ho⟩:=hx
    obtain⟨b',arr,e,h2,h3,h4,h5⟩:=hi.rows id cs hrow
    obtain rfl:b=b':=by rw[h1]at h2;exact Option.some.inj h2
    have ha:=toDs_rep hds ((h4.drop off).take (n * sz))
    refine⟨_,ha,fun P w hw=> ⟨by simp[Builtin.lenOf],fun k hk=> ?_⟩,one ha⟩
    have hll:=ha.length
    have hle:k * sz≤n * sz:=Nat.mul_le_mul_right _ hk
    refine run_firstCells_some w sz k ⟨b,o,none⟩ n cap _ (by rw[List.length_take];omega) (fun j v hj=> ?_)
    have hj':=(take_get (take_get hj).2).2
    have hjlt:=(take_get (take_get hj).2).1
    rw[List.getElem?_drop]at hj'
    rw[Addr.add_lit]
    have hoo:o=off:=by
      rcases ho with rfl | ho
      · have:n=0:=by omega
        subst this
        simp at hjlt
      · exact ho
    subst hoo
    rw[World.cell?_of_block (w:=κ.w) (by rw[hw]),cell_of_row κ.w b (o+j) arr e (0,0) h3]
    simpa using hj'
  · split at h
    case isFalse=> cases h
    rename_i l hs1
    subst hs1
    simp only[Option.some.injEq,Prod.mk.injEq]at h
    obtain⟨rfl,rfl⟩:=h
    rw[rep_s]at hx
    subst hx
    have ha:=byteCells_rep (κ:=κ) l
    refine⟨_,ha,fun P w hw=> ⟨by simp[Builtin.lenOf,size_mk],fun n hn=> ?_⟩,one ha⟩
    simp only[Builtin.firstCells,Sem.run_pure]
    congr 1
    rw[extract_mk]
    simp
  · cases h
/-! ### copy -/
theorem cpy_mem (hi:Inv Pr κ st){dT sT ty elem:TypeId}{size:Nat}(hu:P.underlying dT=some (.slice elem))(hs:szIs P elem size=true){x y z:V}{st':St}(h:cpyV size st x y=some (z,st')){vx vy:Value}(hx:Rep κ x vx)(hy:Rep κ y vy):
    Mem P Pr κ st' z (Builtin.copy_ #[dT,sT] ty #[vx,vy]):=by
  unfold cpyV at h
  split at h
  · rename_i sz id off n cap
    split at h
    · cases h
    rename_i hsz
    have hsz:sz=size:=by simpa using hsz
    subst hsz
    split at h
    · rename_i cs m ds hrow hvw
      split at h
      case isFalse=> cases h
      rename_i hc
      simp only[Option.map_eq_some_iff,Prod.mk.injEq]at h
      obtain⟨st1,hst,rfl,rfl⟩:=h
      obtain⟨l,ha,hrun,hone⟩:=src_cells hi hvw hc.2 hy
      obtain⟨hr1,hr2⟩:=hrun P κ.w rfl
      obtain⟨b,o,h1,rfl,hcap,ho⟩:=hx
      obtain⟨b',arr,e,h2,h3,h4,h5⟩:=hi.rows id cs hrow
      obtain rfl:b=b':=by rw[h1]at h2;exact Option.some.inj h2
      have hll:=ha.length
      have hmn:min m n * sz≤n * sz:=Nat.mul_le_mul_right _ (Nat.min_le_right _ _)
      have hmm:min m n * sz≤m * sz:=Nat.mul_le_mul_right _ (Nat.min_le_left _ _)
      have hcells:All2 (RepC κ) (ofDs (ds.take (min m n * sz))) (l.take (min m n * sz)):=ofDs_rep (ha.take _)
      have hlen1:(ofDs (ds.take (min m n * sz))).length=min m n * sz:=by
        simp only[ofDs,List.length_map,List.length_take]
        omega
      have key:∃ κ',(storeCells ⟨b,o,none⟩ (l.take (min m n * sz))).run P κ.w= .ok () κ'.w∧κ.le κ'∧Inv Pr κ' st1:=by
        rcases ho with rfl | rfl
        · obtain rfl:n=0:=by omega
          simp only[Nat.min_zero,Nat.zero_mul,List.take_zero]at hst hcells ⊢
          obtain⟨κ',q1,q2,q3⟩:=write_at (P:=P) (off:=off) hi hrow h1 h3 h4 h5 (l:= []) hcells (by simp[ofDs];omega) hst
          simp only[storeCells,Sem.run_pure,Result.ok.injEq,true_and]at q1
          exact⟨κ',by simp[storeCells,q1],q2,q3⟩
        · exact write_at (P:=P) hi hrow h1 h3 h4 h5 hcells (by omega) hst
      obtain⟨κ',q1,q2,q3⟩:=key
      refine⟨κ',_,?_,q2,q3,rep_i.2 rfl⟩
      have hmin:Nat.min m n=min m n:=rfl
      simp[Builtin.copy_,run_underlying hu,hr1,run_sizeOf hs,hmin,hr2 (min m n) (Nat.min_le_left _ _),q1,goInt]
    · cases h
  · rename_i n nz cs
    split at h
    · cases h
    rename_i hn
    have hn:n=0:=by simpa using hn
    subst hn
    split at h
    case h_2=> cases h
    rename_i m ds hvw
    split at h
    case isFalse=> cases h
    rename_i hc
    simp only[Option.some.injEq,Prod.mk.injEq]at h
    obtain⟨rfl,rfl⟩:=h
    obtain⟨l,ha,hrun,hone⟩:=src_cells hi hvw hc hy
    obtain⟨hr1,hr2⟩:=hrun P κ.w rfl
    have hx':RepD κ.L κ.imm (.sl 0 nz cs) vx:=hx
    simp only[RepD]at hx'
    obtain⟨A,cap,rfl,h1,h2,h3,h4⟩:=hx'
    refine⟨κ,_,?_,K.le.refl κ,hi,rep_i.2 rfl⟩
    have hf:=hr2 0 (Nat.zero_le _)
    simp only[Nat.zero_mul,List.take_zero]at hf
    have hmin:Nat.min m 0=0:=Nat.min_zero _
    cases A with
    | none=> simp[Builtin.copy_,run_underlying hu,hr1,run_sizeOf hs,hmin,hf,goInt]
    | some a=> simp[Builtin.copy_,run_underlying hu,hr1,run_sizeOf hs,hmin,hf,storeCells,goInt]
  · cases h
end
end Go.Sh
namespace Go.Sh
open Go.RowKit
theorem zeroCells_one {z:Array Value}{n:Nat}(h:∀ x∈z.toList,x.oneCell'=true):∀ x∈(Builtin.zeroCells z n).toList,x.oneCell'=true:=by
  intro x hx
  simp only[Builtin.zeroCells,Array.toList_map,List.mem_map,Array.toList_range,List.mem_range]at hx
  obtain⟨i,hi,rfl⟩:=hx
  have hpos:0 < z.size:=by
    rcases Nat.eq_zero_or_pos z.size with h | h
    · rw[h]at hi;omega
    · exact h
  have hmod:i % z.size < z.size:=Nat.mod_lt _ hpos
  rw[getElem!_pos z (i % z.size) hmod]
  exact h _ (Array.getElem_mem_toList hmod)
theorem run_append_src {P:Program}(w:World)(base:Nat)(t u ty e:TypeId)(i:TypeInfo)(z:Value)(size bytes:Nat)(ht:P.underlying t=some (.slice e))(hxt:∃ d,P.underlying u=some d∧∀ k,d≠ .int k)
    (hi:P.info? e=some i) (hz:i.zero=some z) (hsize:i.size=size) (hby:i.bytes=bytes) (hzs:z.cells.size=size) (hz1:∀ x∈z.cells.toList,x.oneCell'=true)
    (v:Value) (n:Nat) (xs:List Value) (e0:TypeId) (hown1:own1 w base e0 size v n xs)
    (x:Value) (m:Nat) (news:List Value) (hl:news.length=m * size)
    (hsrc:∀ w':World,w'.heap=w.heap→(Builtin.lenOf x).run P w'= .ok m w'∧(Builtin.firstCells size m x).run P w'= .ok news.toArray w') (h1:∀ u∈news,u.oneCell'=true)
    (h63:n+m≤maxLen) (hbytes:(n+m) * bytes≤140737488355328) (hbase:base≤w.heap.size):
    ∃ v' w' e',(Builtin.append_ #[t,u] ty #[v,x]).run P w= .ok v' w'∧own1 w' base e' size v' (n+m) (xs++news)∧w.grownBy w' v.ownBlock∧(v'.ownBlock=v.ownBlock∨(v'.ownBlock=some w.heap.size∧w.grownBy w' none))∧
      (v'= .slice none 0 0↔v= .slice none 0 0∧m=0)∧(m=0→v'=v):=by
  obtain⟨hown,hone⟩:=hown1
  subst hsize
  subst hby
  obtain⟨d,hd,hdk⟩:=hxt
  have hsmall:n+m≤9223372036854775807:=by simp only[maxLen]at h63;omega
  have hlen:(xs++news).length=(n+m) * i.size:=by rw[List.length_append,hown.1,hl,Nat.add_mul]
  have hxx:=hsrc w rfl
  have hdf:(match d with | .int _=> true | _=> false)=false:=by
    cases d <;> first | rfl | exact absurd rfl (hdk _)
  have hxs1:∀ x∈xs,x.oneCell'=true:=by
    intro x hx
    rcases hown.2 with⟨rfl,rfl⟩ | ⟨g,cap,cur,rfl,hbg,hg,hnc,hcm,hcs,htake⟩
    · have:xs= []:=List.eq_nil_of_length_eq_zero (by simpa using hown.1)
      rw[this]at hx
      cases hx
    · rw[← htake]at hx
      exact hone g cur e0 (0,0) rfl hg x (List.mem_of_mem_take hx)
  have grown:∀ (old:Nat),old < n+m→
   own1 (w.drew.alloc (.cells (xs.toArray++news.toArray++Builtin.zeroCells z.cells (grownCap w (n+m) old e - (n+m))) e)) base e i.size
     (.slice (some ⟨w.heap.size,0,none⟩) (n+m) (grownCap w (n+m) old e)) (n+m) (xs++news):=by
    intro old ho
    have hge:=grownCap_ge w (n+m) old e
    have hcm:grownCap w (n+m) old e≤maxLen:=grownCap_le_maxLen w (n+m) old e h63
    refine own1_new (g:=w.heap.size) ⟨hlen,.inr ⟨w.heap.size,_,_,rfl,hbase,heap_alloc_new w.drew _,hge,hcm,?_,?_⟩⟩ rfl (heap_alloc_new w.drew _) ?_
    rotate_left 2
    · intro x hx
      simp only[Array.toList_append,List.mem_append]at hx
      rcases hx with(hx | hx) | hx
      · exact hxs1 x hx
      · exact h1 x hx
      · exact zeroCells_one hz1 x hx
    · simp only[Array.size_append,List.size_toArray,size_zeroCells,hzs,hown.1,hl,← Nat.add_mul]
      congr 1
      omega
    · simp only[Array.toList_append,List.append_assoc]
      rw[← List.append_assoc,← hlen]
      exact List.take_left
  have hgb:∀ (old:Nat) row,w.grownBy (w.drew.alloc (.cells (xs.toArray++news.toArray++Builtin.zeroCells z.cells (grownCap w (n+m) old e - (n+m))) e)) row:=fun old row=>
    ⟨rfl,rfl,rfl,by simp,fun k hk _=> heap_alloc_old w.drew _ k hk⟩
  rcases hown.2 with⟨rfl,rfl⟩ | ⟨g,cap,cur,rfl,hbg,hg,hnc,hcm,hcs,htake⟩
  · have hx:xs= []:=List.eq_nil_of_length_eq_zero (by simpa using hown.1)
    subst hx
    by_cases hm:m=0
    · subst hm
      have hn:news= []:=List.eq_nil_of_length_eq_zero (by simpa using hl)
      subst hn
      refine⟨.slice none 0 0,w,e,?_,own1_nil w base e i.size,⟨rfl,rfl,rfl,Nat.le_refl _,fun _ _ _=> rfl⟩,.inl rfl,by simp,fun _=> rfl⟩
      simp[Builtin.append_,run_underlying ht,run_underlying hd,hdf,sizeOf,typeInfo,hi,hxx.1,hxx.2]
    · refine⟨_,_,e,?_,grown 0 (by omega),hgb 0 _,.inr ⟨rfl,hgb 0 _⟩,by simp[hm],fun h=> absurd h hm⟩
      have hn:m≠0:=hm
      have h63':¬ (9223372036854775807 < (m:Int)):=by omega
      have hnx:Builtin.nextslicecap m 0=m:=nextslicecap_zero (by omega)
      have h48':¬ (281474976710656 < Builtin.nextslicecap m 0 * i.bytes):=by rw[hnx];simp only[Nat.zero_add]at hbytes;omega
      have hsd:=hsrc w.drew rfl
      simp[Builtin.append_,run_underlying ht,run_underlying hd,hdf,sizeOf,typeInfo,zeroValue,hi,hz,hxx.1,hn,h63',h48',Question.forced,run_firstCells_none,hsd.2,newRow,grownCap]
  · by_cases hroom:n+m≤cap
    · have hfit:n * i.size+news.length≤cur.size:=by rw[hl,hcs,← Nat.add_mul];exact Nat.mul_le_mul_right _ hroom
      have hst:=run_storeCells_at P g (n * i.size) e0 news 0 cur w hg (by simpa using hfit) h1
      simp only[Nat.add_zero]at hst
      refine⟨.slice (some ⟨g,0,none⟩) (n+m) cap,w.setRow g (cur.toList.take (n * i.size)++news++cur.toList.drop (n * i.size+news.length)).toArray,e0,?_,own1_new (g:=g) ⟨hlen,.inr ⟨g,cap,_,rfl,hbg,setRow_heap w g cur _ e0 _ hg,hroom,hcm,?_,?_⟩⟩ rfl (setRow_heap w g cur _ e0 _ hg) ?_,⟨rfl,rfl,rfl,by simp,fun k _ hk=> setRow_other w g k _ (fun e=> hk (by simp[Value.ownBlock,e]))⟩,.inl rfl,by simp,fun h=> by subst h;rfl⟩
      · simp[Builtin.append_,run_underlying ht,run_underlying hd,hdf,sizeOf,typeInfo,hi,hxx.1,hroom,hxx.2,Addr.add_lit,hst]
      · simp only[List.size_toArray,List.length_append,List.length_take,List.length_drop,Array.length_toList]
        omega
      · rw[htake,← hlen]
        exact List.take_left
      · intro x hx
        simp only[List.mem_append]at hx
        rcases hx with(hx | hx) | hx
        · exact hone g cur e0 (0,0) rfl hg x (List.mem_of_mem_take hx)
        · exact h1 x hx
        · exact hone g cur e0 (0,0) rfl hg x (List.mem_of_mem_drop hx)
    · have holds:∀ j u,xs[j]? =some u→w.cell? ((⟨g,0,none⟩:Addr).add j)=some u:=hown.cells (g:=g) rfl
      refine⟨_,_,e,?_,grown cap (by omega),hgb cap _,.inr ⟨rfl,hgb cap _⟩,by simp,fun h=> by omega⟩
      have hn:¬ (n+m≤cap):=hroom
      have h63':¬ (9223372036854775807 < ((n:Int)+(m:Int))):=by omega
      have hfit:=growslice_fits (need:=n+m) (old:=cap) (bytes:=i.bytes) (by omega) hbytes
      have h48':¬ (281474976710656 < Builtin.nextslicecap (n+m) cap * i.bytes):=by omega
      have hsd:=hsrc w.drew rfl
      have hfo:=run_firstCells_some (P:=P) w.drew i.size n ⟨g,0,none⟩ n cap xs hown.1 (by simpa using holds)
      simp[Builtin.append_,run_underlying ht,run_underlying hd,hdf,sizeOf,typeInfo,zeroValue,hi,hz,hxx.1,hn,h63',h48',Question.forced,hfo,hsd.2,newRow,grownCap]
      congr 2
      apply Array.ext'
      simp[List.append_assoc]
theorem run_append_zeros {P:Program}(w:World)(base:Nat)(t u ty e:TypeId)(i:TypeInfo)(z:Value)(size bytes:Nat)(ht:P.underlying t=some (.slice e))(kn:IntKind)(hd:P.underlying u=some (.int kn))
    (hi:P.info? e=some i) (hz:i.zero=some z) (hsize:i.size=size) (hby:i.bytes=bytes) (hzs:z.cells.size=size) (hz1:∀ x∈z.cells.toList,x.oneCell'=true)
    (v:Value) (n:Nat) (xs:List Value) (e0:TypeId) (hown1:own1 w base e0 size v n xs)
    (k:IntKind) (m:Nat) (news:List Value) (hl:news.length=m * size)
    (hnews:Builtin.zeroCells z.cells m=news.toArray) (h1:∀ u∈news,u.oneCell'=true)
    (h63:n+m≤maxLen) (hbytes:(n+m) * bytes≤140737488355328) (hbase:base≤w.heap.size):
    ∃ v' w' e',(Builtin.append_ #[t,u] ty #[v,.int k m]).run P w= .ok v' w'∧own1 w' base e' size v' (n+m) (xs++news)∧w.grownBy w' v.ownBlock∧(v'.ownBlock=v.ownBlock∨(v'.ownBlock=some w.heap.size∧w.grownBy w' none))∧
      (v'= .slice none 0 0↔v= .slice none 0 0∧m=0)∧(m=0→v'=v):=by
  obtain⟨hown,hone⟩:=hown1
  subst hsize
  subst hby
  have hsmall:n+m≤9223372036854775807:=by simp only[maxLen]at h63;omega
  have hlen:(xs++news).length=(n+m) * i.size:=by rw[List.length_append,hown.1,hl,Nat.add_mul]
  have hw:IntKind.i64.wrap (m:Int)=m:=by rw[IntKind.wrap_i64];omega
  have hneg:¬ ((m:Int) < 0):=by omega
  have h48i:¬ (281474976710656 < (m:Int) * (i.bytes:Int)):=by
    rw[← Int.natCast_mul]
    have:m * i.bytes≤(n+m) * i.bytes:=Nat.mul_le_mul_right _ (by omega)
    omega
  have hnil:m * i.size=0→news= []:=fun h0=> List.eq_nil_of_length_eq_zero (by omega)
  have hxs1:∀ x∈xs,x.oneCell'=true:=by
    intro x hx
    rcases hown.2 with⟨rfl,rfl⟩ | ⟨g,cap,cur,rfl,hbg,hg,hnc,hcm,hcs,htake⟩
    · have:xs= []:=List.eq_nil_of_length_eq_zero (by simpa using hown.1)
      rw[this]at hx
      cases hx
    · rw[← htake]at hx
      exact hone g cur e0 (0,0) rfl hg x (List.mem_of_mem_take hx)
  have grown:∀ (old:Nat),old < n+m→
   own1 (w.drew.alloc (.cells (xs.toArray++news.toArray++Builtin.zeroCells z.cells (grownCap w (n+m) old e - (n+m))) e)) base e i.size
     (.slice (some ⟨w.heap.size,0,none⟩) (n+m) (grownCap w (n+m) old e)) (n+m) (xs++news):=by
    intro old ho
    have hge:=grownCap_ge w (n+m) old e
    have hcm:grownCap w (n+m) old e≤maxLen:=grownCap_le_maxLen w (n+m) old e h63
    refine own1_new (g:=w.heap.size) ⟨hlen,.inr ⟨w.heap.size,_,_,rfl,hbase,heap_alloc_new w.drew _,hge,hcm,?_,?_⟩⟩ rfl (heap_alloc_new w.drew _) ?_
    rotate_left 2
    · intro x hx
      simp only[Array.toList_append,List.mem_append]at hx
      rcases hx with(hx | hx) | hx
      · exact hxs1 x hx
      · exact h1 x hx
      · exact zeroCells_one hz1 x hx
    · simp only[Array.size_append,List.size_toArray,size_zeroCells,hzs,hown.1,hl,← Nat.add_mul]
      congr 1
      omega
    · simp only[Array.toList_append,List.append_assoc]
      rw[← List.append_assoc,← hlen]
      exact List.take_left
  have hgb:∀ (old:Nat) row,w.grownBy (w.drew.alloc (.cells (xs.toArray++news.toArray++Builtin.zeroCells z.cells (grownCap w (n+m) old e - (n+m))) e)) row:=fun old row=>
    ⟨rfl,rfl,rfl,by simp,fun k hk _=> heap_alloc_old w.drew _ k hk⟩
  rcases hown.2 with⟨rfl,rfl⟩ | ⟨g,cap,cur,rfl,hbg,hg,hnc,hcm,hcs,htake⟩
  · have hx:xs= []:=List.eq_nil_of_length_eq_zero (by simpa using hown.1)
    subst hx
    by_cases hm:m=0
    · subst hm
      have hn:news= []:=List.eq_nil_of_length_eq_zero (by simpa using hl)
      subst hn
      refine⟨.slice none 0 0,w,e,?_,own1_nil w base e i.size,⟨rfl,rfl,rfl,Nat.le_refl _,fun _ _ _=> rfl⟩,.inl rfl,by simp,fun _=> rfl⟩
      simp[Builtin.append_,asInt,asIntOf,hw,hneg,h48i,hnews,run_underlying ht,run_underlying hd,sizeOf,typeInfo,hi,show IntKind.i64.wrap 0=0 from rfl]
    · refine⟨_,_,e,?_,grown 0 (by omega),hgb 0 _,.inr ⟨rfl,hgb 0 _⟩,by simp[hm],fun h=> absurd h hm⟩
      have hn:m≠0:=hm
      have h63':¬ (9223372036854775807 < (m:Int)):=by omega
      have hnx:Builtin.nextslicecap m 0=m:=nextslicecap_zero (by omega)
      have h48':¬ (281474976710656 < Builtin.nextslicecap m 0 * i.bytes):=by rw[hnx];simp only[Nat.zero_add]at hbytes;omega
      by_cases hms:m * i.size=0
      · have hne:=hnil hms
        simp[Builtin.append_,asInt,asIntOf,hw,hneg,h48i,hnews,run_underlying ht,run_underlying hd,sizeOf,typeInfo,zeroValue,hi,hz,hn,h63',h48',Question.forced,run_firstCells_none,newRow,grownCap,hms,hne]
      simp[hms,Builtin.append_,asInt,asIntOf,hw,hneg,h48i,hnews,run_underlying ht,run_underlying hd,sizeOf,typeInfo,zeroValue,hi,hz,hn,h63',h48',Question.forced,run_firstCells_none,newRow,grownCap]
  · by_cases hroom:n+m≤cap
    · have hfit:n * i.size+news.length≤cur.size:=by rw[hl,hcs,← Nat.add_mul];exact Nat.mul_le_mul_right _ hroom
      have hst:=run_storeCells_at P g (n * i.size) e0 news 0 cur w hg (by simpa using hfit) h1
      simp only[Nat.add_zero]at hst
      refine⟨.slice (some ⟨g,0,none⟩) (n+m) cap,w.setRow g (cur.toList.take (n * i.size)++news++cur.toList.drop (n * i.size+news.length)).toArray,e0,?_,own1_new (g:=g) ⟨hlen,.inr ⟨g,cap,_,rfl,hbg,setRow_heap w g cur _ e0 _ hg,hroom,hcm,?_,?_⟩⟩ rfl (setRow_heap w g cur _ e0 _ hg) ?_,⟨rfl,rfl,rfl,by simp,fun k _ hk=> setRow_other w g k _ (fun e=> hk (by simp[Value.ownBlock,e]))⟩,.inl rfl,by simp,fun h=> by subst h;rfl⟩
      · by_cases hms:m * i.size=0
        · have hne:=hnil hms
          rw[hne]at hst
          simp[Builtin.append_,asInt,asIntOf,hw,hneg,h48i,hnews,run_underlying ht,run_underlying hd,sizeOf,typeInfo,zeroValue,hi,hz,hroom,Addr.add_lit,hst,hms,hne]
        · simp[Builtin.append_,asInt,asIntOf,hw,hneg,h48i,hnews,run_underlying ht,run_underlying hd,sizeOf,typeInfo,zeroValue,hi,hz,hroom,Addr.add_lit,hst,hms]
      · simp only[List.size_toArray,List.length_append,List.length_take,List.length_drop,Array.length_toList]
        omega
      · rw[htake,← hlen]
        exact List.take_left
      · intro x hx
        simp only[List.mem_append]at hx
        rcases hx with(hx | hx) | hx
        · exact hone g cur e0 (0,0) rfl hg x (List.mem_of_mem_take hx)
        · exact h1 x hx
        · exact hone g cur e0 (0,0) rfl hg x (List.mem_of_mem_drop hx)
    · have holds:∀ j u,xs[j]? =some u→w.cell? ((⟨g,0,none⟩:Addr).add j)=some u:=hown.cells (g:=g) rfl
      refine⟨_,_,e,?_,grown cap (by omega),hgb cap _,.inr ⟨rfl,hgb cap _⟩,by simp,fun h=> by omega⟩
      have hn:¬ (n+m≤cap):=hroom
      have h63':¬ (9223372036854775807 < ((n:Int)+(m:Int))):=by omega
      have hfit:=growslice_fits (need:=n+m) (old:=cap) (bytes:=i.bytes) (by omega) hbytes
      have h48':¬ (281474976710656 < Builtin.nextslicecap (n+m) cap * i.bytes):=by omega
      have hfo:=run_firstCells_some (P:=P) w.drew i.size n ⟨g,0,none⟩ n cap xs hown.1 (by simpa using holds)
      by_cases hms:m * i.size=0
      · have hne:=hnil hms
        simp[Builtin.append_,asInt,asIntOf,hw,hneg,h48i,hnews,run_underlying ht,run_underlying hd,sizeOf,typeInfo,zeroValue,hi,hz,hn,h63',h48',Question.forced,hfo,newRow,grownCap,hms,hne]
      simp[Builtin.append_,asInt,asIntOf,hw,hneg,h48i,hnews,run_underlying ht,run_underlying hd,sizeOf,typeInfo,zeroValue,hi,hz,hn,h63',h48',Question.forced,hfo,newRow,grownCap,hms]
      congr 2
      apply Array.ext'
      simp[List.append_assoc]
section
variable {P:Program}{Pr:Prog}{κ:K}{st:St}
def K.tip (κ:K)(size:Nat):K:={κ with tk:=κ.tk++ [⟨.slice none 0 0,0,size,0⟩]}
theorem Inv.tip (hi:Inv Pr κ st)(size:Nat):κ.le (κ.tip size)∧Inv Pr (κ.tip size) {st with tips:=st.tips++ [0]}:=by
  have hle:κ.le (κ.tip size):=⟨rfl,rfl,fun _ _ _ h=> h,fun _ _ h=> h,fun t tok h=> ⟨tok,by show(κ.tk++ [_])[t]? =_;rw[List.getElem?_append_left (List.getElem?_eq_some_iff.1 h).1];exact h,rfl,Nat.le_refl _,fun _=> rfl⟩,fun _ _ _ h=> h⟩
  have hget:∀ {t:Nat} {tok:Tok},(κ.tip size).tk[t]? =some tok→κ.tk[t]? =some tok∨tok=⟨.slice none 0 0,0,size,0⟩:=by
    intro t tok h
    have h:(κ.tk++ [_])[t]? =some tok:=h
    rw[List.getElem?_append]at h
    split at h
    · exact .inl h
    · right
      have:=List.mem_of_getElem? h
      simpa using this
  refine⟨hle,⟨hi.below,hi.len,by show st.tips++ [0]=(κ.tk++ [_]).map _;rw[hi.tips];simp,hi.nd,hi.ρb,?_,?_,?_,?_,hi.muts,hi.globs,hi.wok⟩⟩
  · intro id cs h
    obtain⟨b,arr,e,h1,h2,h3,h4⟩:=hi.rows id cs h
    exact⟨b,arr,e,h1,h2,h3.mono fun _ _=> RepC.mono hle,h4⟩
  · intro id es h
    obtain⟨b,arr,c,h1,h2,h3,hst⟩:=hi.maps id es h
    exact⟨b,arr,c,h1,h2,h3.mono fun _ _=> RepE.mono hle,hst⟩
  · intro t tok h
    rcases hget h with h | rfl
    · exact hi.toks t tok h
    · exact⟨⟨[],own1_nil _ _ _ _⟩,fun g hg=> by simp[Value.ownBlock]at hg⟩
  · intro t t' tok tok' g h h' hg hg'
    rcases hget h with h | rfl
    · rcases hget h' with h' | rfl
      · exact hi.tdis t t' tok tok' g h h' hg hg'
      · simp[Value.ownBlock]at hg'
    · simp[Value.ownBlock]at hg
theorem tip_rep (hi:Inv Pr κ st)(size:Nat):Rep (κ.tip size) (.own size 0 false [] st.tips.length) (.slice none 0 0):=by
  refine⟨?_,⟨.slice none 0 0,0,size,0⟩,?_,rfl,Nat.le_refl _,fun _=> rfl⟩
  · simp only[RepD]
    exact⟨none,0,rfl,Nat.le_refl _,rfl,fun _=> rfl,.inl trivial⟩
  · show(κ.tk++ [_])[_]? =_
    rw[hi.tips]
    simp
def K.app (κ:K)(w':World)(t:Nat)(v':Value)(e':TypeId)(size n':Nat):K:=
  {κ with w:=w',tk:=κ.tk.set t ⟨v',e',size,n'⟩,wr:=fun b o=> (κ.wr b o∧(v'.ownBlock=some b→n' * size≤o))∨(b=κ.w.heap.size∧v'.ownBlock=some b∧n' * size≤o)}
theorem app_inv (hi:Inv Pr κ st){t:Nat}{tok:Tok}(htok:κ.tk[t]? =some tok){w':World}{v':Value}{e':TypeId}{m:Nat}{xs news:List Value}(hown:κ.w.ownsRow κ.w0.heap.size tok.e tok.size tok.v tok.n xs)
    (hown1:own1 w' κ.w0.heap.size e' tok.size v' (tok.n+m) (xs++news)) (hg:κ.w.grownBy w' tok.v.ownBlock) (hb:v'.ownBlock=tok.v.ownBlock∨(v'.ownBlock=some κ.w.heap.size∧κ.w.grownBy w' none)) (hm:m=0→v'=tok.v):
    κ.le (κ.app w' t v' e' tok.size (tok.n+m))∧Inv Pr (κ.app w' t v' e' tok.size (tok.n+m)) {st with tips:=st.tips.set t (tok.n+m)}:=by
  have hown':=hown1.1
  obtain⟨_,htk⟩:=hi.toks t tok htok
  have htl:=(List.getElem?_eq_some_iff.1 htok).1
  have hxs:=hown.1
  have hcell:∀ b o x,κ.imm b o x→w'.cell? ⟨b,o,none⟩=some x:=by
    intro b o x hx
    have hlt:=lt_of_cell hx.1
    rcases hb with hb | ⟨hb,hgn⟩
    · by_cases hbg:tok.v.ownBlock=some b
      · have hno:¬ (tok.n * tok.size≤o):=fun h=> hx.2 ((htk b hbg).2 o h)
        have hol:o < xs.length:=by omega
        have h1:=hown.cells hbg o xs[o] (List.getElem?_eq_getElem hol)
        rw[Addr.add_lit,Nat.zero_add,hx.1]at h1
        have h2:=hown'.cells (hb.trans hbg) o xs[o] (by rw[List.getElem?_append_left hol];exact List.getElem?_eq_getElem hol)
        rw[Addr.add_lit,Nat.zero_add]at h2
        rw[h2,← Option.some.inj h1]
      · exact(cell_block (hg.block b hlt (fun e=> hbg e.symm))).trans hx.1
    · exact(cell_block (hgn.block b hlt (by simp))).trans hx.1
  have hget:∀ {j:Nat} {tk':Tok},(κ.tk.set t ⟨v',e',tok.size,tok.n+m⟩)[j]? =some tk'→(j=t∧tk'=⟨v',e',tok.size,tok.n+m⟩)∨(j≠t∧κ.tk[j]? =some tk'):=by
    intro j tk' h
    rw[List.getElem?_set]at h
    by_cases he:t=j
    · subst he
      simp only[if_true,htl,Option.some.injEq]at h
      exact .inl ⟨rfl,h.symm⟩
    · rw[if_neg he]at h
      exact .inr ⟨fun e=> he e.symm,h⟩
  have hnew:∀ g,v'.ownBlock=some g→(∀ i:Nat,κ.ρ[i]? ≠some g)∧∀ j tk',j≠t→κ.tk[j]? =some tk'→tk'.v.ownBlock≠some g:=by
    intro g hgb
    rcases hb with hb | ⟨hb,_⟩
    · refine⟨(htk g (hb ▸ hgb)).1,fun j tk' hj hk e=> hj (hi.tdis j t tk' tok g hk htok e (hb ▸ hgb))⟩
    · have hgs:g=κ.w.heap.size:=by rw[hb]at hgb;exact(Option.some.inj hgb).symm
      refine⟨fun i hr=> by have:=(hi.ρb i g hr).2;omega,fun j tk' hj hk e=> ?_⟩
      obtain⟨⟨xs',h1⟩,_⟩:=hi.toks j tk' hk
      have:=(own_lt' h1.1 e).2
      omega
  have hle:κ.le (κ.app w' t v' e' tok.size (tok.n+m)):=by
    refine⟨rfl,rfl,fun b o x hx=> ⟨hcell b o x hx,fun hw=> ?_⟩,fun _ _ h=> h,fun j tk' h=> ?_,fun b o hb0 hw=> .inl ⟨hw,fun hob=> by have:=(own_lt' hown' hob).1;omega⟩⟩
    · rcases hw with hw | hw
      · exact hx.2 hw.1
      · have:=lt_of_cell hx.1
        omega
    · by_cases he:j=t
      · subst he
        rw[htok]at h
        obtain rfl:=Option.some.inj h
        refine⟨⟨v',e',tok.size,tok.n+m⟩,?_,rfl,by simp,fun e=> hm (by simp at e;omega)⟩
        show(κ.tk.set j _)[j]? =_
        rw[List.getElem?_set,if_pos rfl,if_pos htl]
      · refine⟨tk',?_,rfl,Nat.le_refl _,fun _=> rfl⟩
        show(κ.tk.set t _)[j]? =_
        rw[List.getElem?_set,if_neg (fun e=> he e.symm)]
        exact h
  refine⟨hle,⟨?_,hi.len,?_,hi.nd,fun i b h=> ⟨(hi.ρb i b h).1,Nat.lt_of_lt_of_le (hi.ρb i b h).2 hg.size⟩,?_,?_,?_,?_,?_,fun n c h=> RepL.mono hle.imm _ _ _ (hi.globs n c h),hi.wok⟩⟩
  · exact hi.below.grown hg hi.below.size (fun k hk=> (own_lt' hown hk).1)
  · show st.tips.set t _=(κ.tk.set t _).map _
    rw[hi.tips,List.map_set]
  · intro id cs h
    obtain⟨b,arr,e,h1,h2,h3,h4⟩:=hi.rows id cs h
    have hbl:=(hi.ρb _ _ h1).2
    refine⟨b,arr,e,h1,(hg.block b hbl (fun e=> (htk b e.symm).1 id h1)).trans h2,h3.mono fun _ _=> RepC.mono hle,fun o=> .inl ⟨h4 o,fun hv=> absurd h1 ((hnew b hv).1 id)⟩⟩
  · intro id es h
    obtain⟨b,arr,c,h1,h2,h3,hst⟩:=hi.maps id es h
    have hbl:=(hi.ρb _ _ h1).2
    exact⟨b,arr,c,h1,(hg.block b hbl (fun e=> (htk b e.symm).1 id h1)).trans h2,h3.mono fun _ _=> RepE.mono hle,hst⟩
  · intro j tk' h
    rcases hget h with⟨rfl,rfl⟩ | ⟨hj,h⟩
    · refine⟨⟨_,hown1⟩,fun g hgb=> ⟨(hnew g hgb).1,fun o ho=> ?_⟩⟩
      rcases hb with hb | ⟨hb,_⟩
      · refine .inl ⟨(htk g (hb ▸ hgb)).2 o ?_,fun _=> ho⟩
        have:tok.n * tok.size≤(tok.n+m) * tok.size:=Nat.mul_le_mul_right _ (by omega)
        exact Nat.le_trans this ho
      · exact .inr ⟨by have hgb':v'.ownBlock=some g:=hgb;rw[hb]at hgb';exact(Option.some.inj hgb').symm,hgb,ho⟩
    · obtain⟨⟨xs',h1⟩,h2⟩:=hi.toks j tk' h
      refine⟨⟨xs',h1.kept hg ?_⟩,fun g hgb=> ⟨(h2 g hgb).1,fun o ho=> .inl ⟨(h2 g hgb).2 o ho,fun hv=> absurd hgb ((hnew g hv).2 j tk' hj h)⟩⟩⟩
      cases hq:tk'.v.ownBlock with
      | none=> exact .inl rfl
      | some g=> exact .inr fun e=> hj (hi.tdis j t tk' tok g h htok hq e.symm)
  · intro j j' tk1 tk2 g h1 h2 hg1 hg2
    rcases hget h1 with⟨q1,q1'⟩ | ⟨q1,q1'⟩ <;> rcases hget h2 with⟨q2,q2'⟩ | ⟨q2,q2'⟩
    · rw[q1,q2]
    · rw[q1']at hg1
      exact absurd hg2 ((hnew g hg1).2 j' tk2 q2 q2')
    · rw[q2']at hg2
      exact absurd hg1 ((hnew g hg2).2 j tk1 q1 q1')
    · exact hi.tdis j j' tk1 tk2 g q1' q2' hg1 hg2
  · intro b o h
    rcases h with h | h
    · exact Nat.lt_of_lt_of_le (hi.muts b o h.1) hg.size
    · exact(own_lt' hown' h.2.1).2
theorem own_nil_iff {w:World}{base:Nat}{e:TypeId}{size n:Nat}{v:Value}{xs:List Value}(h:w.ownsRow base e size v n xs):(v= .slice none 0 0∧n=0)∨∃ g cap,v= .slice (some ⟨g,0,none⟩) n cap∧v.ownBlock=some g∧n≤cap:=by
  rcases h.2 with h | ⟨g,cap,cur,rfl,_,_,h1,_⟩
  · exact .inl h
  · exact .inr ⟨g,cap,rfl,rfl,h1⟩
def zeroHas (P:Program)(t:TypeId):Bool:=match P.info? t with
  | some i=> match i.zero with
    | some v=> v.cells.size==i.size && v.cells.toList.all Value.oneCell'
    | none=> false
  | none=> false
theorem zeroHas_spec {t:TypeId}(h:zeroHas P t=true):∃ i v,P.info? t=some i∧i.zero=some v∧v.cells.size=i.size∧∀ x∈v.cells.toList,x.oneCell'=true:=by
  unfold zeroHas at h
  split at h
  · rename_i i hi
    split at h
    · rename_i v hv
      simp only[Bool.and_eq_true,beq_iff_eq,List.all_eq_true]at h
      exact⟨i,v,hi,hv,h.1,h.2⟩
    · cases h
  · cases h
theorem app_ownG (hi:Inv Pr κ st){T U ty:TypeId}{size:Nat}
    {n:Nat} {nz:Bool} {cs:List D} {t:Nat} {m:Nat} {ds:List D} {l:List Value} (htip:st.tips[t]? =some n) (hcl:cs.length=n * size) (hdl:ds.length=m * size) (ha:All2 (RepD κ.L κ.imm) ds l)
    {vs vx:Value} (hvs:Rep κ (.own size n nz cs t) vs)
    (hrun:∀ (v:Value) (xs:List Value) (e0:TypeId),own1 κ.w κ.w0.heap.size e0 size v n xs→∃ v' w' e',(Builtin.append_ #[T,U] ty #[v,vx]).run P κ.w= .ok v' w'∧own1 w' κ.w0.heap.size e' size v' (n+m) (xs++l)∧κ.w.grownBy w' v.ownBlock∧(v'.ownBlock=v.ownBlock∨(v'.ownBlock=some κ.w.heap.size∧κ.w.grownBy w' none))∧
      (v'= .slice none 0 0↔v= .slice none 0 0∧m=0)∧(m=0→v'=v)):
    Mem P Pr κ {st with tips:=st.tips.set t (n+m)} (.own size (n+m) (nz || decide (0 < n+m)) (cs++ds) t) (Builtin.append_ #[T,U] ty #[vs,vx]):=by
  obtain⟨hd,tok,htok,hsz,hle,hcur⟩:=hvs
  have htn:tok.n=n:=by
    have:=hi.tips
    rw[this,List.getElem?_map,htok]at htip
    simpa using htip
  subst htn
  obtain rfl:=hcur rfl
  subst hsz
  obtain⟨⟨xs,howns⟩,htk⟩:=hi.toks t tok htok
  have hll:=ha.length
  obtain⟨v',w',e',r1,r2s,r3,r4,r5,hm0⟩:=hrun tok.v xs tok.e howns
  have hown:=howns.1
  have r2:=r2s.1
  obtain⟨k1,k2⟩:=app_inv hi htok hown r2s r3 r4 hm0
  refine⟨_,v',r1,k1,k2,?_,⟨v',e',tok.size,tok.n+m⟩,?_,rfl,Nat.le_refl _,fun _=> rfl⟩
  · have hcells:∀ (b o:Nat),tok.v= .slice (some ⟨b,o,none⟩) tok.n (match tok.v with | .slice _ _ c=> c | _=> 0)→tok.v.ownBlock=some b:=fun b o h=> by rw[h];rfl
    simp only[RepD]at hd ⊢
    obtain⟨A,cap,hv,d1,d2,d3,d4⟩:=hd
    rcases own_nil_iff r2 with⟨hv',hz0⟩ | ⟨g,cap',hv',hob,hcap⟩
    · obtain⟨hvn,hm⟩:=r5.1 hv'
      have hA:A=none:=by
        rw[hv]at hvn
        exact(Value.slice.inj hvn).1
      subst hA
      have hn0:tok.n=0:=by omega
      refine⟨none,0,by rw[hv',hz0],by omega,?_,fun _=> rfl,.inl ?_⟩
      · rw[d2,hz0]
        rfl
      · have e1:cs= []:=List.eq_nil_of_length_eq_zero (by rw[hcl,hn0];simp)
        have e2:ds= []:=List.eq_nil_of_length_eq_zero (by rw[hdl,hm];simp)
        rw[e1,e2]
        rfl
    · refine⟨_,cap',hv',hcap,?_,by simp,.inr ⟨g,0,rfl,RepL.of fun j c hj=> ?_⟩⟩
      · by_cases hpos:0 < tok.n+m
        · simp[hpos]
        · have hm:m=0:=by omega
          have:=hm0 hm
          rw[this,hv]at hv'
          have hA:=(Value.slice.inj hv').1
          rw[d2,hA]
          rfl
      · have hnowr:j < (tok.n+m) * tok.size→¬ (κ.app w' t v' e' tok.size (tok.n+m)).wr g (0+j):=by
          rintro hj (hw | hw)
          · have:=hw.2 hob;omega
          · have:=hw.2.2;omega
        have hcw:=hown.1
        rw[List.getElem?_append]at hj
        split at hj
        · rename_i hjc
          rcases d4 with rfl | ⟨b,o,hA,hl4⟩
          · simp at hjc
          obtain⟨y,hy,hyr⟩:=hl4.get hj
          have hob0:tok.v.ownBlock=some b:=by rw[hv,hA];rfl
          have ho0:o=0:=by
            rcases own_nil_iff hown with⟨q,_⟩ | ⟨g0,c0,q,_⟩
            · rw[hv,hA]at q;simp at q
            · rw[hv,hA]at q
              simp only[Value.slice.injEq,Option.some.injEq,Addr.mk.injEq]at q
              exact q.1.2.1
          subst ho0
          have hjx:j < xs.length:=by omega
          have h9:=hown.cells hob0 j xs[j] (List.getElem?_eq_getElem hjx)
          rw[Addr.add_lit]at h9
          have hyx:y=xs[j]:=by
            have:=hy.1
            rw[h9]at this
            exact(Option.some.inj this).symm
          refine⟨y,⟨?_,hnowr ?_⟩,RepD.mono k1.imm _ _ hyr⟩
          · have:=r2.cells hob j y (by rw[List.getElem?_append_left hjx,List.getElem?_eq_getElem hjx,hyx])
            rw[Addr.add_lit]at this
            exact this
          · rw[Nat.add_mul];omega
        · rename_i hjc
          obtain⟨y,hy,hyr⟩:=ha.get hj
          have hyl:=(List.getElem?_eq_some_iff.1 hy).1
          refine⟨y,⟨?_,hnowr ?_⟩,RepD.mono k1.imm _ _ hyr⟩
          · have:=r2.cells hob j y (by rw[List.getElem?_append_right (by omega),show j - xs.length=j - cs.length by omega];exact hy)
            rw[Addr.add_lit]at this
            exact this
          · rw[Nat.add_mul];omega
  · show(κ.tk.set t _)[t]? =_
    rw[List.getElem?_set,if_pos rfl,if_pos (List.getElem?_eq_some_iff.1 htok).1]
theorem app_own (hi:Inv Pr κ st){T U ty e:TypeId}{size bytes:Nat}(hu:P.underlying T=some (.slice e))(hxt:∃ d,P.underlying U=some d∧∀ k,d≠ .int k)(hz:zeroHas P e=true)(hs:szIs P e size=true)(hby:bytesIs P e bytes=true)
    {n:Nat} {nz:Bool} {cs:List D} {t:Nat} {x:V} {m:Nat} {ds:List D} (hvw:vw size st x=some (m,ds)) (htip:st.tips[t]? =some n) (hcl:cs.length=n * size) (hb:(n+m) * bytes≤140737488355328) (hn:n+m≤140737488355328) (hdl:ds.length=m * size)
    {vs vx:Value} (hvs:Rep κ (.own size n nz cs t) vs) (hvx:Rep κ x vx):
    Mem P Pr κ {st with tips:=st.tips.set t (n+m)} (.own size (n+m) (nz || decide (0 < n+m)) (cs++ds) t) (Builtin.append_ #[T,U] ty #[vs,vx]):=by
  obtain⟨l,ha,hsrc,hone⟩:=src_cells hi hvw hdl hvx
  obtain⟨i,zv,h1,h2,h4,hz1⟩:=zeroHas_spec hz
  obtain⟨i',h1',h5⟩:=szIs_spec hs
  obtain rfl:i=i':=by rw[h1]at h1';exact Option.some.inj h1'
  have h6:i.bytes=bytes:=by
    unfold bytesIs at hby
    rw[h1]at hby
    simpa using hby
  have hll:=ha.length
  exact app_ownG hi htip hcl hdl ha hvs fun v xs e0 hown=> run_append_src (P:=P) κ.w κ.w0.heap.size T U ty e i zv size bytes hu hxt h1 h2 h5 h6 (by omega) hz1 v n xs e0 hown vx m l (by omega)
    (fun w' hw=> ⟨(hsrc P w' hw).1,by have:=(hsrc P w' hw).2 m (Nat.le_refl _);rwa [List.take_of_length_le (by omega)]at this⟩) hone (by simp only[maxLen];omega) hb hi.below.size
end
end Go.Sh
namespace Go.Sh
open Go.RowKit
section
variable {P:Program}{Pr:Prog}{κ:K}{st:St}
theorem app_mem (hi:Inv Pr κ st){T U ty e:TypeId}{size bytes:Nat}(hu:P.underlying T=some (.slice e))(hxt:∃ d,P.underlying U=some d∧∀ k,d≠ .int k)(hz:zeroHas P e=true)(hs:szIs P e size=true)(hby:bytesIs P e bytes=true)
    {s x r:V} {st':St} (h:appV size bytes st s x=some (r,st')) {vs vx:Value} (hvs:Rep κ s vs) (hvx:Rep κ x vx):Mem P Pr κ st' r (Builtin.append_ #[T,U] ty #[vs,vx]):=by
  unfold appV at h
  split at h
  · split at h
    · rename_i m ds hvw
      split at h
      · rename_i hc
        obtain⟨c1,c2,c3,c4,c5,c6,c7⟩:=hc
        simp only[Option.some.injEq,Prod.mk.injEq]at h
        obtain⟨rfl,rfl⟩:=h
        subst c1
        exact app_own hi hu hxt hz hs hby hvw c3 c4 c5 c6 c7 hvs hvx
      · cases h
    · cases h
  · split at h
    · rename_i m ds hvw
      split at h
      · rename_i hc
        obtain⟨c5,c6,c7⟩:=hc
        simp only[Option.some.injEq,Prod.mk.injEq]at h
        obtain⟨rfl,rfl⟩:=h
        have hvs:RepD _ _ _ _:=hvs
        simp only[RepD]at hvs
        obtain⟨A,cap,rfl,d1,d2,d3,d4⟩:=hvs
        have hA:A=none:=by cases A <;> simp at d2;rfl
        subst hA
        have hcap:=d3 rfl
        subst hcap
        obtain⟨k1,k2⟩:=hi.tip size
        have hvw':vw size {st with tips:=st.tips++ [0]} x=some (m,ds):=by
          rw[← hvw]
          cases x <;> rfl
        have hm:=app_own (P:=P) (ty:=ty) (T:=T) (U:=U) (t:=st.tips.length) (n:=0) (nz:=false) (cs:= []) k2 hu hxt hz hs hby hvw' (by simp) (by simp) (by simpa using c5) (by simpa using c6) c7 (tip_rep hi size) (Rep.mono k1 hvx)
        obtain⟨κ',v,m1,m2,m3,m4⟩:=hm
        refine⟨κ',v,m1,k1.trans m2,?_,?_⟩
        · simpa using m3
        · simpa using m4
      · cases h
    · cases h
  · cases h
theorem room_spec {bytes:Nat}{x:V}{n:Nat}(h:room bytes x=some n){v:Value}(hx:Rep κ x v):∃ k,v= .int k (n:Int)∧n * bytes≤281474976710656∧n≤281474976710656:=by
  unfold room at h
  split at h
  · split at h
    · rename_i k i hc
      simp only[Option.some.injEq]at h
      subst h
      rw[rep_i]at hx
      exact⟨_,by rw[hx,Int.toNat_of_nonneg hc.1],hc.2.1,by omega⟩
    · cases h
  · cases h
theorem run_make' {w:World}{t e:TypeId}{z:List D}{bytes n m:Nat}(hu:P.underlying t=some (.slice e))(hz:zeroIs P e z=true)(hby:bytesIs P e bytes=true)(hnm:n≤m)(hb:m * bytes≤281474976710656)(hm:m≤281474976710656)(k k':IntKind):
    ∃ zl,All2 (RepD κ.L κ.imm) z zl∧(Instr.makeSlice t (.int k (n:Int)) (.int k' (m:Int))).run P w= .ok (.slice (some ⟨w.heap.size,0,none⟩) n m) (w.alloc (.cells (reps m zl).toArray e)):=by
  obtain⟨i,zv,h1,h2,h3,h4⟩:=zeroIs_spec hz
  have h6:i.bytes=bytes:=by
    unfold bytesIs at hby
    rw[h1]at hby
    simpa using hby
  subst h6
  have hbi:(i.bytes:Int) * (m:Int)≤281474976710656:=by
    have:((i.bytes * m:Nat):Int)≤281474976710656:=by rw[Nat.mul_comm];omega
    rwa [Int.natCast_mul]at this
  have hr:=run_make (P:=P) w t e i zv hu h1 h2 k k' n m (by omega) (by omega) hbi (by omega)
  simp only[Int.toNat_natCast]at hr
  refine⟨zv.cells.toList,okDs_rep h3,?_⟩
  rw[hr,← h4]
  have:(madeCells zv.cells (m * zv.cells.size))=(reps m zv.cells.toList).toArray:=by
    apply Array.ext'
    rw[made_toList]
  rw[this]
theorem toDs_of:∀ (ds:List D),toDs (ofDs ds)=some ds
  | []=> rfl
  | d::ds=> by
    have:=toDs_of ds
    simp only[ofDs,List.map_cons,toDs,toD]
    unfold ofDs at this
    rw[this]
theorem app_ownZ (hi:Inv Pr κ st){T U ty e:TypeId}{size bytes:Nat}{z:List D}{kn k:IntKind}(hu:P.underlying T=some (.slice e))(hd:P.underlying U=some (.int kn))(hz:zeroIs P e z=true)(hs:szIs P e size=true)(hby:bytesIs P e bytes=true)
    {n:Nat} {nz:Bool} {cs:List D} {t:Nat} {m:Nat} (htip:st.tips[t]? =some n) (hcl:cs.length=n * size) (hb:(n+m) * bytes≤140737488355328) (hn:n+m≤140737488355328) (hdl:(reps m z).length=m * size)
    {vs:Value} (hvs:Rep κ (.own size n nz cs t) vs):
    Mem P Pr κ {st with tips:=st.tips.set t (n+m)} (.own size (n+m) (nz || decide (0 < n+m)) (cs++reps m z) t) (Builtin.append_ #[T,U] ty #[vs,.int k m]):=by
  obtain⟨i,zv,h1,h2,h3,h4⟩:=zeroIs_spec hz
  obtain⟨i',h1',h5⟩:=szIs_spec hs
  obtain rfl:i=i':=by rw[h1]at h1';exact Option.some.inj h1'
  have h6:i.bytes=bytes:=by
    unfold bytesIs at hby
    rw[h1]at hby
    simpa using hby
  have ha:All2 (RepD κ.L κ.imm) z zv.cells.toList:=okDs_rep h3
  have hr:=reps_cells ha m
  have hne:Builtin.zeroCells zv.cells m=(reps m zv.cells.toList).toArray:=by
    apply Array.ext'
    exact made_toList
  have hlen:(reps m zv.cells.toList).length=m * size:=by rw[reps_len,← h5,← h4];simp
  exact app_ownG hi htip hcl hdl hr hvs fun v xs e0 hown=> run_append_zeros (P:=P) κ.w κ.w0.heap.size T U ty e i zv size bytes hu kn hd h1 h2 h5 h6 (by rw[← h5,← h4]) (All2.one (ofDs_rep ha)) v n xs e0 hown k m _ hlen hne
    (All2.one (ofDs_rep hr)) (by simp only[maxLen];omega) hb hi.below.size
theorem appZ_mem (hi:Inv Pr κ st){T U ty e:TypeId}{size bytes:Nat}{z:List D}{kn:IntKind}(hu:P.underlying T=some (.slice e))(hd:P.underlying U=some (.int kn))(hz:zeroIs P e z=true)(hs:szIs P e size=true)(hby:bytesIs P e bytes=true)
    {s x r:V} {st':St} (h:appZV size bytes z st s x=some (r,st')) {vs vx:Value} (hvs:Rep κ s vs) (hvx:Rep κ x vx):Mem P Pr κ st' r (Builtin.append_ #[T,U] ty #[vs,vx]):=by
  unfold appZV at h
  split at h
  case h_2=> cases h
  rename_i k y
  split at h
  case isFalse=> cases h
  rename_i hy
  rw[rep_i]at hvx
  obtain⟨m,rfl⟩:∃ m:Nat,y=m:=⟨y.toNat,by omega⟩
  subst hvx
  rw[Int.toNat_natCast]at h
  unfold appV at h
  split at h
  · simp only[vw]at h
    split at h
    · rename_i hc
      obtain⟨c1,c2,c3,c4,c5,c6,c7⟩:=hc
      simp only[Option.some.injEq,Prod.mk.injEq]at h
      obtain⟨rfl,rfl⟩:=h
      subst c1
      exact app_ownZ hi hu hd hz hs hby c3 c4 c5 c6 c7 hvs
    · cases h
  · simp only[vw]at h
    split at h
    · rename_i hc
      obtain⟨c5,c6,c7⟩:=hc
      simp only[Option.some.injEq,Prod.mk.injEq]at h
      obtain⟨rfl,rfl⟩:=h
      have hvs:RepD _ _ _ _:=hvs
      simp only[RepD]at hvs
      obtain⟨A,cap,rfl,d1,d2,d3,d4⟩:=hvs
      have hA:A=none:=by cases A <;> simp at d2;rfl
      subst hA
      have hcap:=d3 rfl
      subst hcap
      obtain⟨k1,k2⟩:=hi.tip size
      have hm:=app_ownZ (P:=P) (ty:=ty) (T:=T) (U:=U) (k:=k) (m:=m) (t:=st.tips.length) (n:=0) (nz:=false) (cs:= []) k2 hu hd hz hs hby (by simp) (by simp) (by simpa using c5) (by simpa using c6) c7 (tip_rep hi size)
      obtain⟨κ',v,m1,m2,m3,m4⟩:=hm
      refine⟨κ',v,m1,k1.trans m2,?_,?_⟩
      · simpa using m3
      · simpa using m4
    · cases h
  · cases h
theorem clr_mem (hi:Inv Pr κ st){T ty e:TypeId}{size:Nat}{z:List D}(hu:P.underlying T=some (.slice e))(hz:zeroIs P e z=true)(hs:szIs P e size=true)
    {x r:V} {st':St} (h:clrV size z st x=some (r,st')) {vx:Value} (hvx:Rep κ x vx):Mem P Pr κ st' r (Builtin.clear_ #[T] ty #[vx]):=by
  have hnil:Rep κ (.tup []) (.tuple #[]):=⟨[],rfl,.nil⟩
  unfold clrV at h
  split at h
  · rename_i sz id off n cap
    obtain⟨b,o,h1,rfl,hcap,ho⟩:=hvx
    split at h
    · rename_i hsz
      obtain⟨rfl,hn⟩:=hsz
      split at h
      case h_2=> cases h
      rename_i cs hrow
      split at h
      case isFalse=> cases h
      rename_i hc
      simp only[Option.map_eq_some_iff,Prod.mk.injEq]at h
      obtain⟨st1,hst,rfl,rfl⟩:=h
      obtain⟨i,zv,z1,z2,z3,z4⟩:=zeroIs_spec hz
      have ha:All2 (RepD κ.L κ.imm) z zv.cells.toList:=okDs_rep z3
      have hr:=reps_cells ha n
      obtain⟨b',arr,e',h2,h3,h4,h5⟩:=hi.rows id cs hrow
      obtain rfl:b=b':=by rw[h1]at h2;exact Option.some.inj h2
      rcases ho with rfl | rfl
      · omega
      obtain⟨κ',q1,q2,q3⟩:=write_at (P:=P) hi hrow h1 h3 h4 h5 (ofDs_rep hr) (by simp only[ofDs,List.length_map,reps_len];rw[hc.2];exact hc.1) hst
      refine⟨κ',.tuple #[],?_,q2,q3,⟨[],rfl,.nil⟩⟩
      have hne:Builtin.zeroCells zv.cells n=(reps n zv.cells.toList).toArray:=by
        apply Array.ext'
        exact made_toList
      obtain⟨n',rfl⟩:∃ n',n=n'+1:=⟨n - 1,by omega⟩
      simp[Builtin.clear_,run_underlying hu,zeroValue,typeInfo,z1,z2,hne,q1]
    · split at h
      case isFalse=> cases h
      rename_i h0
      subst h0
      simp only[Option.some.injEq,Prod.mk.injEq]at h
      obtain⟨rfl,rfl⟩:=h
      refine⟨κ,.tuple #[],?_,K.le.refl _,hi,hnil⟩
      simp[Builtin.clear_,run_underlying hu]
  · simp only[Option.some.injEq,Prod.mk.injEq]at h
    obtain⟨rfl,rfl⟩:=h
    have hvx:RepD _ _ _ _:=hvx
    simp only[RepD]at hvx
    obtain⟨A,cap,rfl,_⟩:=hvx
    refine⟨κ,.tuple #[],?_,K.le.refl _,hi,hnil⟩
    cases A <;> simp[Builtin.clear_,run_underlying hu]
  · cases h
theorem mkR_mem (hi:Inv Pr κ st){t e:TypeId}{z:List D}{bytes n m:Nat}(hu:P.underlying t=some (.slice e))(hz:zeroIs P e z=true)(hby:bytesIs P e bytes=true)(hnm:n≤m){x y:V}(hx:room bytes x=some n)(hy:room bytes y=some m){vx vy:Value}(rx:Rep κ x vx)(ry:Rep κ y vy):
    Mem P Pr κ (st.push (.row (ofDs (reps m z)))) (.rsl z.length st.heap.length 0 n m) (Instr.makeSlice t vx vy):=by
  obtain⟨k,rfl,b1,b2⟩:=room_spec hx rx
  obtain⟨k',rfl,b3,b4⟩:=room_spec hy ry
  obtain⟨zl,ha,hr⟩:=run_make' (κ:=κ) (w:=κ.w) hu hz hby hnm b3 b4 k k'
  exact slRef_mem hi hnm (by simpa using ofDs_rep (reps_cells ha m)) hr
theorem mkD_mem (hi:Inv Pr κ st){t e:TypeId}{z:List D}{bytes n m:Nat}(hu:P.underlying t=some (.slice e))(hz:zeroIs P e z=true)(hby:bytesIs P e bytes=true)(hnm:n≤m){x y:V}(hx:room bytes x=some n)(hy:room bytes y=some m){vx vy:Value}(rx:Rep κ x vx)(ry:Rep κ y vy):
    Mem P Pr κ st (.d (.sl n true (reps n z))) (Instr.makeSlice t vx vy):=by
  obtain⟨k,rfl,b1,b2⟩:=room_spec hx rx
  obtain⟨k',rfl,b3,b4⟩:=room_spec hy ry
  obtain⟨zl,ha,hr⟩:=run_make' (κ:=κ) (w:=κ.w) hu hz hby hnm b3 b4 k k'
  refine slNew_mem hi hnm (toDs_of _) (k:=n * zl.length) ?_ hr
  have:(reps m zl).take (n * zl.length)=reps n zl:=by
    apply List.ext_getElem?
    intro j
    rw[List.getElem?_take]
    split
    · rename_i hj
      have:n * zl.length≤m * zl.length:=Nat.mul_le_mul_right _ hnm
      rw[reps_get (by omega),reps_get hj]
    · rw[List.getElem?_eq_none (by rw[reps_len];omega)]
  simp only[this]
  exact ofDs_rep (reps_cells ha n)
theorem mkO_mem (hi:Inv Pr κ st){t e:TypeId}{z:List D}{bytes n m:Nat}(hu:P.underlying t=some (.slice e))(hz:zeroIs P e z=true)(hby:bytesIs P e bytes=true)(hnm:n≤m){x y:V}(hx:room bytes x=some n)(hy:room bytes y=some m){vx vy:Value}(rx:Rep κ x vx)(ry:Rep κ y vy):
    Mem P Pr κ {st with tips:=st.tips++ [n]} (.own z.length n true (reps n z) st.tips.length) (Instr.makeSlice t vx vy):=by
  obtain⟨k,rfl,b1,b2⟩:=room_spec hx rx
  obtain⟨k',rfl,b3,b4⟩:=room_spec hy ry
  obtain⟨zl,ha,hr⟩:=run_make' (κ:=κ) (w:=κ.w) hu hz hby hnm b3 b4 k k'
  have hzl:=ha.length
  -- first a token,then the row
  let w':=κ.w.alloc (.cells (reps m zl).toArray e)
  let κ':K:={κ with w:=w',tk:=κ.tk++ [⟨.slice (some ⟨κ.w.heap.size,0,none⟩) n m,e,z.length,n⟩],wr:=fun b o=> κ.wr b o∨(b=κ.w.heap.size∧n * z.length≤o)}
  have hold:∀ b,b < κ.w.heap.size→w'.heap[b]? =κ.w.heap[b]? :=fun b h=> heap_alloc_old κ.w _ b h
  have hle:κ.le κ':=by
    refine⟨rfl,rfl,fun b o x hx=> ?_,fun _ _ h=> h,fun t tok h=> ⟨tok,?_,rfl,Nat.le_refl _,fun _=> rfl⟩,fun _ _ _ h=> .inl h⟩
    · have hlt:=lt_of_cell hx.1
      exact⟨(cell_block (hold b hlt)).trans hx.1,fun hw=> hw.elim hx.2 (fun h=> by omega)⟩
    · show(κ.tk++ [_])[t]? =_
      rw[List.getElem?_append_left (List.getElem?_eq_some_iff.1 h).1]
      exact h
  have hown:w'.ownsRow κ.w0.heap.size e z.length (.slice (some ⟨κ.w.heap.size,0,none⟩) n m) n (reps n zl):=by
    refine⟨by rw[reps_len,hzl],.inr ⟨κ.w.heap.size,m,(reps m zl).toArray,rfl,hi.below.size,heap_alloc_new κ.w _,hnm,by simp only[maxLen];omega,by simp[reps_len,hzl],?_⟩⟩
    apply List.ext_getElem?
    intro j
    rw[List.getElem?_take]
    split
    · rename_i hj
      have:n * z.length≤m * z.length:=Nat.mul_le_mul_right _ hnm
      rw[hzl]at hj this
      show(reps m zl)[j]? =_
      rw[reps_get (by omega),reps_get hj]
    · rw[List.getElem?_eq_none (by rw[reps_len,← hzl];omega)]
  have hget:∀ {j:Nat} {tok:Tok},κ'.tk[j]? =some tok→(j < κ.tk.length∧κ.tk[j]? =some tok)∨(j=κ.tk.length∧tok=⟨.slice (some ⟨κ.w.heap.size,0,none⟩) n m,e,z.length,n⟩):=by
    intro j tok h
    have h:(κ.tk++ [_])[j]? =some tok:=h
    rw[List.getElem?_append]at h
    split at h
    · exact .inl ⟨by assumption,h⟩
    · rename_i hge
      have hlt:=(List.getElem?_eq_some_iff.1 h).1
      simp at hlt
      have he:j=κ.tk.length:=by omega
      subst he
      simp at h
      exact .inr ⟨rfl,h.symm⟩
  refine⟨κ',_,hr,hle,⟨hi.below.alloc hi.below.size _,hi.len,?_,hi.nd,fun i b h=> ⟨(hi.ρb i b h).1,by have:=(hi.ρb i b h).2;show b < w'.heap.size;simp only[w',World.size_alloc];omega⟩,?_,?_,?_,?_,?_,fun nm c h=> RepL.mono hle.imm _ _ _ (hi.globs nm c h),hi.wok⟩,?_,⟨.slice (some ⟨κ.w.heap.size,0,none⟩) n m,e,z.length,n⟩,?_,rfl,Nat.le_refl _,fun _=> rfl⟩
  · show st.tips++ [n]=(κ.tk++ [_]).map _
    rw[hi.tips]
    simp
  · intro id cs h
    obtain⟨b,arr,e',h1,h2,h3,h4⟩:=hi.rows id cs h
    exact⟨b,arr,e',h1,(hold b (hi.ρb _ _ h1).2).trans h2,h3.mono fun _ _=> RepC.mono hle,fun o=> .inl (h4 o)⟩
  · intro id es h
    obtain⟨b,arr,c,h1,h2,h3,hst⟩:=hi.maps id es h
    exact⟨b,arr,c,h1,(hold b (hi.ρb _ _ h1).2).trans h2,h3.mono fun _ _=> RepE.mono hle,hst⟩
  · intro j tok h
    rcases hget h with⟨_,h⟩ | ⟨_,rfl⟩
    · obtain⟨⟨xs,h1⟩,h2⟩:=hi.toks j tok h
      exact⟨⟨xs,h1.alloc _⟩,fun g hg=> ⟨(h2 g hg).1,fun o ho=> .inl ((h2 g hg).2 o ho)⟩⟩
    · refine⟨⟨_,own1_new (g:=κ.w.heap.size) hown rfl (heap_alloc_new κ.w _) (All2.one (ofDs_rep (by simpa using reps_cells ha m)))⟩,fun g hg=> ?_⟩
      have hgs:g=κ.w.heap.size:=by simpa[Value.ownBlock]using hg.symm
      subst hgs
      exact⟨fun i hr=> by have:=(hi.ρb i _ hr).2;omega,fun o ho=> .inr ⟨rfl,ho⟩⟩
  · intro j j' t1 t2 g h1 h2 hg1 hg2
    rcases hget h1 with⟨_,q1⟩ | ⟨q1,q1'⟩ <;> rcases hget h2 with⟨_,q2⟩ | ⟨q2,q2'⟩
    · exact hi.tdis j j' t1 t2 g q1 q2 hg1 hg2
    · obtain⟨⟨xs,r1⟩,_⟩:=hi.toks j t1 q1
      have:=(own_lt' r1.1 hg1).2
      rw[q2']at hg2
      have hgs:g=κ.w.heap.size:=by simpa[Value.ownBlock]using hg2.symm
      omega
    · obtain⟨⟨xs,r1⟩,_⟩:=hi.toks j' t2 q2
      have:=(own_lt' r1.1 hg2).2
      rw[q1']at hg1
      have hgs:g=κ.w.heap.size:=by simpa[Value.ownBlock]using hg1.symm
      omega
    · omega
  · intro b o h
    show b < w'.heap.size
    simp only[w',World.size_alloc]
    rcases h with h | h
    · have:=hi.muts b o h;omega
    · omega
  · simp only[RepD]
    refine⟨_,m,rfl,hnm,rfl,by simp,.inr ⟨κ.w.heap.size,0,rfl,RepL.of fun j c hj=> ?_⟩⟩
    have hal:=(reps_cells ha n)
    obtain⟨y,hy,hyr⟩:=hal.get hj
    have hjl:=(List.getElem?_eq_some_iff.1 hj).1
    rw[reps_len]at hjl
    refine⟨y,⟨?_,?_⟩,RepD.mono hle.imm _ _ hyr⟩
    · have:=hown.cells (g:=κ.w.heap.size) rfl j y hy
      rw[Addr.add_lit]at this
      exact this
    · rintro(hw | hw)
      · have:=hi.muts _ _ hw;omega
      · omega
  · show(κ.tk++ [_])[_]? =_
    rw[hi.tips]
    simp
theorem ownNew_mem (hi:Inv Pr κ st){e:TypeId}{n size:Nat}{ds:List D}{arr:Array Value}(ha:All2 (RepD κ.L κ.imm) ds arr.toList)(hsz:arr.size=n * size)(hn63:n≤maxLen){s:Sem Value}
    (hr:s.run P κ.w= .ok (.slice (some ⟨κ.w.heap.size,0,none⟩) n n) (κ.w.alloc (.cells arr e))):Mem P Pr κ {st with tips:=st.tips++ [n]} (.own size n true ds st.tips.length) s:=by
  -- first a token,then the row
  let w':=κ.w.alloc (.cells arr e)
  let κ':K:={κ with w:=w',tk:=κ.tk++ [⟨.slice (some ⟨κ.w.heap.size,0,none⟩) n n,e,size,n⟩],wr:=fun b o=> κ.wr b o∨(b=κ.w.heap.size∧n * size≤o)}
  have hold:∀ b,b < κ.w.heap.size→w'.heap[b]? =κ.w.heap[b]? :=fun b h=> heap_alloc_old κ.w _ b h
  have hle:κ.le κ':=by
    refine⟨rfl,rfl,fun b o x hx=> ?_,fun _ _ h=> h,fun t tok h=> ⟨tok,?_,rfl,Nat.le_refl _,fun _=> rfl⟩,fun _ _ _ h=> .inl h⟩
    · have hlt:=lt_of_cell hx.1
      exact⟨(cell_block (hold b hlt)).trans hx.1,fun hw=> hw.elim hx.2 (fun h=> by omega)⟩
    · show(κ.tk++ [_])[t]? =_
      rw[List.getElem?_append_left (List.getElem?_eq_some_iff.1 h).1]
      exact h
  have hown:w'.ownsRow κ.w0.heap.size e size (.slice (some ⟨κ.w.heap.size,0,none⟩) n n) n arr.toList:=
    ⟨by simpa using hsz,.inr ⟨κ.w.heap.size,n,arr,rfl,hi.below.size,heap_alloc_new κ.w _,Nat.le_refl _,hn63,hsz,by rw[List.take_of_length_le (by simp;omega)]⟩⟩
  have hget:∀ {j:Nat} {tok:Tok},κ'.tk[j]? =some tok→(j < κ.tk.length∧κ.tk[j]? =some tok)∨(j=κ.tk.length∧tok=⟨.slice (some ⟨κ.w.heap.size,0,none⟩) n n,e,size,n⟩):=by
    intro j tok h
    have h:(κ.tk++ [_])[j]? =some tok:=h
    rw[List.getElem?_append]at h
    split at h
    · exact .inl ⟨by assumption,h⟩
    · rename_i hge
      have hlt:=(List.getElem?_eq_some_iff.1 h).1
      simp at hlt
      have he:j=κ.tk.length:=by omega
      subst he
      simp at h
      exact .inr ⟨rfl,h.symm⟩
  refine⟨κ',_,hr,hle,⟨hi.below.alloc hi.below.size _,hi.len,?_,hi.nd,fun i b h=> ⟨(hi.ρb i b h).1,by have:=(hi.ρb i b h).2;show b < w'.heap.size;simp only[w',World.size_alloc];omega⟩,?_,?_,?_,?_,?_,fun nm c h=> RepL.mono hle.imm _ _ _ (hi.globs nm c h),hi.wok⟩,?_,⟨.slice (some ⟨κ.w.heap.size,0,none⟩) n n,e,size,n⟩,?_,rfl,Nat.le_refl _,fun _=> rfl⟩
  · show st.tips++ [n]=(κ.tk++ [_]).map _
    rw[hi.tips]
    simp
  · intro id cs h
    obtain⟨b,arr,e',h1,h2,h3,h4⟩:=hi.rows id cs h
    exact⟨b,arr,e',h1,(hold b (hi.ρb _ _ h1).2).trans h2,h3.mono fun _ _=> RepC.mono hle,fun o=> .inl (h4 o)⟩
  · intro id es h
    obtain⟨b,arr,c,h1,h2,h3,hst⟩:=hi.maps id es h
    exact⟨b,arr,c,h1,(hold b (hi.ρb _ _ h1).2).trans h2,h3.mono fun _ _=> RepE.mono hle,hst⟩
  · intro j tok h
    rcases hget h with⟨_,h⟩ | ⟨_,rfl⟩
    · obtain⟨⟨xs,h1⟩,h2⟩:=hi.toks j tok h
      exact⟨⟨xs,h1.alloc _⟩,fun g hg=> ⟨(h2 g hg).1,fun o ho=> .inl ((h2 g hg).2 o ho)⟩⟩
    · refine⟨⟨_,own1_new (g:=κ.w.heap.size) hown rfl (heap_alloc_new κ.w _) (All2.one (ofDs_rep ha))⟩,fun g hg=> ?_⟩
      have hgs:g=κ.w.heap.size:=by simpa[Value.ownBlock]using hg.symm
      subst hgs
      exact⟨fun i hr=> by have:=(hi.ρb i _ hr).2;omega,fun o ho=> .inr ⟨rfl,ho⟩⟩
  · intro j j' t1 t2 g h1 h2 hg1 hg2
    rcases hget h1 with⟨_,q1⟩ | ⟨q1,q1'⟩ <;> rcases hget h2 with⟨_,q2⟩ | ⟨q2,q2'⟩
    · exact hi.tdis j j' t1 t2 g q1 q2 hg1 hg2
    · obtain⟨⟨xs,r1⟩,_⟩:=hi.toks j t1 q1
      have:=(own_lt' r1.1 hg1).2
      rw[q2']at hg2
      have hgs:g=κ.w.heap.size:=by simpa[Value.ownBlock]using hg2.symm
      omega
    · obtain⟨⟨xs,r1⟩,_⟩:=hi.toks j' t2 q2
      have:=(own_lt' r1.1 hg2).2
      rw[q1']at hg1
      have hgs:g=κ.w.heap.size:=by simpa[Value.ownBlock]using hg1.symm
      omega
    · omega
  · intro b o h
    show b < w'.heap.size
    simp only[w',World.size_alloc]
    rcases h with h | h
    · have:=hi.muts b o h;omega
    · omega
  · simp only[RepD]
    refine⟨_,n,rfl,Nat.le_refl _,rfl,by simp,.inr ⟨κ.w.heap.size,0,rfl,RepL.of fun j c hj=> ?_⟩⟩
    obtain⟨y,hy,hyr⟩:=ha.get hj
    have hjl:=(List.getElem?_eq_some_iff.1 hy).1
    simp only[Array.length_toList]at hjl
    refine⟨y,⟨?_,?_⟩,RepD.mono hle.imm _ _ hyr⟩
    · have:=hown.cells (g:=κ.w.heap.size) rfl j y hy
      rw[Addr.add_lit]at this
      exact this
    · rintro(hw | hw)
      · have:=hi.muts _ _ hw;omega
      · omega
  · show(κ.tk++ [_])[_]? =_
    rw[hi.tips]
    simp
theorem s2b_mem (hi:Inv Pr κ st){src dst e:TypeId}(hs:strIs P src=true)(hd:P.underlying dst=some (.slice e))(he:intIs P e .u8=true){l:List UInt8}{v:Value}(hx:Rep κ (.d (.s l)) v):
    Mem P Pr κ st (.d (.sl l.length true (byteCells l))) (convert src dst v):=by
  rw[rep_s]at hx
  subst hx
  have hg:κ.w.grownBy (Lib.bytesWorld κ.w e ⟨l.toArray⟩) none:=⟨rfl,rfl,rfl,by rw[Lib.bytesWorld_size];omega,fun k hk _=> Lib.bytesWorld_at_old κ.w e _ k hk⟩
  obtain⟨h1,h2⟩:=hi.grow hg
  refine⟨_,_,Lib.run_convert_string_bytes κ.w src dst e _ (strIs_spec hs) hd (intIs_spec he),h1,h2,?_⟩
  show RepD _ _ _ _
  simp only[RepD]
  refine⟨_,_,rfl,grownCap_ge _ _ _ _,rfl,by simp,.inr ⟨κ.w.heap.size,0,rfl,?_⟩⟩
  have ha:=(byteCells_rep (κ:=κ) l).mono fun d v hr=> RepD.mono h1.imm d v hr
  refine imm_new hi (Lib.bytesWorld_at_new κ.w e _) ha (fun j x hj=> ?_)
  have hjl:=(List.getElem?_eq_some_iff.1 hj).1
  simp only[List.length_map]at hjl
  unfold Lib.bytesCells
  rw[Array.getElem?_append_left (by simpa using hjl)]
  rw[List.getElem?_map]at hj
  simpa using hj
theorem bytesOf_spec:∀ {ds:List D} {l:List UInt8},bytesOf ds=some l→∃ ns:List Int,ds=ns.map (D.i .u8)∧l=ns.map fun n=> UInt8.ofNat n.toNat
  | [],l,h=> by
    simp only[bytesOf,Option.some.injEq]at h
    subst h
    exact⟨[],rfl,rfl⟩
  | d::ds,l,h=> by
    unfold bytesOf at h
    split at h
    · rename_i heq;cases heq
    · rename_i n r heq
      simp only[List.cons.injEq]at heq
      obtain⟨rfl,rfl⟩:=heq
      split at h
      · rename_i l' hl'
        simp only[Option.some.injEq]at h
        subst h
        obtain⟨ns,rfl,rfl⟩:=bytesOf_spec hl'
        exact⟨n::ns,rfl,rfl⟩
      · cases h
    · cases h
theorem b2s_mem (hi:Inv Pr κ st){src dst e:TypeId}(hs:P.underlying src=some (.slice e))(he:intIs P e .u8=true)(hd:strIs P dst=true){x z:V}(h:b2sV st x=some z)
    {v:Value} (hx:Rep κ x v):Mem P Pr κ st z (convert src dst v):=by
  obtain⟨n,ds,l,hvw,hl,hb,rfl,hnl⟩:∃ n ds l,vw 1 st x=some (n,ds)∧ds.length=n∧bytesOf ds=some l∧z= .d (.s l)∧∀ l,x≠ .d (.s l):=by
    unfold b2sV at h
    split at h
    · cases h
    · rename_i hns
      split at h
      · rename_i n ds hvw
        split at h
        · rename_i hl
          simp only[Option.map_eq_some_iff]at h
          obtain⟨l,hb,rfl⟩:=h
          exact⟨n,ds,l,hvw,hl,hb,rfl,hns⟩
        · cases h
      · cases h
  refine Mem.pure hi ?_
  obtain⟨ns,rfl,rfl⟩:=bytesOf_spec hb
  have hu8:=intIs_spec he
  have hst:=strIs_spec hd
  have hnl':ns.length=n:=by simpa using hl
  have main:∀ (b o cap:Nat),(∀ i,i < n→κ.w.cell? ⟨b,o+i,none⟩=some (.int .u8 (ns.getD i 0)))→∃ u,(convert src dst (.slice (some ⟨b,o,none⟩) n cap)).run P κ.w= .ok u κ.w∧Rep κ (.d (.s (ns.map fun n=> UInt8.ofNat n.toNat))) u:=fun b o cap hc=>
    ⟨_,run_convert_bytes_arg κ.w src e hs hu8 b o n cap ns hnl' hc dst hst,rep_s.2 rfl⟩
  have zero:∀ (A:Option Addr) (cap:Nat),n=0→∃ u,(convert src dst (.slice A n cap)).run P κ.w= .ok u κ.w∧Rep κ (.d (.s (ns.map fun n=> UInt8.ofNat n.toNat))) u:=fun A cap h0=> by
    subst h0
    have:ns= []:=List.eq_nil_of_length_eq_zero hnl'
    subst this
    cases A with
    | none=> exact⟨_,run_convert_bytes_nil κ.w src e hs hu8 0 cap dst hst,rep_s.2 rfl⟩
    | some a=>
      refine⟨.string ByteArray.empty,?_,rep_s.2 rfl⟩
      have hl0:(loadCells a 0).run P κ.w= .ok #[] κ.w:=rfl
      simp[convert,run_underlying hs,run_underlying hst,run_underlying hu8,Conv.bytesToString,hl0]
  have hD:∀ nz,RepD κ.L κ.imm (.sl n nz (ns.map (D.i .u8))) v→∃ u,(convert src dst v).run P κ.w= .ok u κ.w∧Rep κ (.d (.s (ns.map fun n=> UInt8.ofNat n.toNat))) u:=by
    intro nz hd
    simp only[RepD]at hd
    obtain⟨A,cap,rfl,d1,d2,d3,d4⟩:=hd
    rcases d4 with d4 | ⟨b,o,rfl,hl4⟩
    · have:n=0:=by
        have:=congrArg List.length d4
        simp at this
        simp[← hnl',this]
      exact zero A cap this
    · refine main b o cap fun i hi=> ?_
      have hin:i < ns.length:=by omega
      obtain⟨y,hy,hyr⟩:=hl4.get (j:=i) (c:= .i .u8 ns[i]) (by simp[hin])
      rw[repD_i]at hyr
      rw[hy.1,hyr]
      simp[hin]
  unfold vw at hvw
  split at hvw
  · simp only[Option.some.injEq,Prod.mk.injEq]at hvw
    obtain⟨rfl,rfl⟩:=hvw
    exact hD _ hx
  · simp only[Option.some.injEq,Prod.mk.injEq]at hvw
    obtain⟨rfl,rfl⟩:=hvw
    exact hD _ hx.1
  · rename_i sz id off k cap
    split at hvw
    case isFalse=> cases hvw
    rename_i hsz
    subst hsz
    simp only[Option.map_eq_some_iff,Prod.mk.injEq]at hvw
    obtain⟨ds',hds,rfl,rfl⟩:=hvw
    unfold cellsAt at hds
    split at hds
    case h_2=> cases hds
    rename_i cs hrow
    split at hds
    case isFalse=> cases hds
    rename_i hfit
    obtain⟨b,o,h1,rfl,hcap,ho⟩:=hx
    obtain⟨b',arr,e',h2,h3,h4,h5⟩:=hi.rows id cs hrow
    obtain rfl:b=b':=by rw[h1]at h2;exact Option.some.inj h2
    have ha:=toDs_rep hds ((h4.drop off).take (k * 1))
    rcases ho with rfl | rfl
    · exact zero _ _ (by omega)
    · refine main b o cap fun i hi'=> ?_
      have hin:i < ns.length:=by omega
      obtain⟨y,hy,hyr⟩:=ha.get (i:=i) (x:= .i .u8 ns[i]) (by simp[hin])
      rw[repD_i]at hyr
      have hy':=(take_get hy).2
      rw[List.getElem?_drop]at hy'
      rw[cell_of_row κ.w b (o+i) arr e' (0,0) h3]
      rw[hyr]at hy'
      simp only[Array.getElem?_toList]at hy'
      rw[hy']
      simp[hin]
  · exact absurd rfl (hnl _)
  · cases hvw
end
end Go.Sh
namespace Go.Sh
open Go.RowKit
section
variable {P:Program}{Pr:Prog}{κ:K}{st st':St}
theorem mkMap_mem (hi:Inv Pr κ st){t:TypeId}{r:Option Value}(hr:r=none∨∃ k n ky el,r=some (.int k n)∧P.underlying t=some (.map ky el)):Mem P Pr κ (st.push (.map [])) (.map st.heap.length) (Instr.makeMap t r):=by
  obtain⟨h1,h2⟩:=hi.pushI (.map #[] 0) (.map []) ⟨#[],0,rfl,.nil,MapKept.stamped_empty 0⟩
  refine⟨κ.push (.map #[] 0),.map (some κ.w.heap.size),?_,h1,h2,κ.w.heap.size,?_,rfl⟩
  · rcases hr with rfl | ⟨k,n,ky,el,rfl,hu⟩
    · simp[Instr.makeMap]
      rfl
    · simp[Instr.makeMap,run_underlying hu,asInt]
      rfl
  · rw[← hi.len]
    exact push_last κ _
theorem mk_beq (s s':List UInt8):((⟨s.toArray⟩:ByteArray)==⟨s'.toArray⟩)=(s==s'):=by
  show(s.toArray==s'.toArray)=_
  simp
def keyIs (P:Program)(k:TypeId):Bool:=match P.underlying k with
  | some (.int _)=> true
  | some .string=> true
  | _=> false
theorem sameNow_eqD {L:Link}{I:Imm}{kd:TypeDesc}{a b:D}{va vb:Value}(ha:RepD L I a va)(hb:RepD L I b vb)(hk:kd= .string∨∃ k,kd= .int k){r:Bool}{str:Bool}(hok:keyOk str a=true)(h:eqD a b=some r)
    (hkind:(kd= .string→∃ s,va= .string s)∧∀ k,kd= .int k→∃ k' n,va= .int k' n):Instr.sameNow kd va vb=some r:=by
  cases a <;> simp only[keyOk]at hok <;> try (cases hok;done)
  · rename_i k n
    simp only[RepD]at ha
    subst ha
    cases b <;> simp only[eqD]at h <;> try (cases h;done)
    rename_i k' m
    simp only[RepD]at hb
    subst hb
    split at h
    · rename_i hkk
      subst hkk
      rcases hk with rfl | ⟨k0,rfl⟩
      · obtain⟨s,hs⟩:=hkind.1 rfl
        cases hs
      · simpa[Instr.sameNow]using h
    · cases h
  · rename_i s
    simp only[RepD]at ha
    subst ha
    cases b <;> simp only[eqD]at h <;> try (cases h;done)
    rename_i s'
    simp only[RepD]at hb
    subst hb
    rcases hk with rfl | ⟨k0,rfl⟩
    · simp only[Option.some.injEq]at h
      subst h
      simp only[Instr.sameNow,Option.some.injEq]
      exact mk_beq s s'
    · obtain⟨k1,n,hn⟩:=hkind.2 k0 rfl
      cases hn
theorem findNow_sound {kd:TypeDesc}(hk:kd= .string∨∃ k,kd= .int k){k:D}{vk:Value}(hr:RepD κ.L κ.imm k vk){str:Bool}(hok:keyOk str k=true)(hkind:(kd= .string→∃ s,vk= .string s)∧∀ k,kd= .int k→∃ k' n,vk= .int k' n):
    ∀ {es:List (D×V)} {l:List MapEntry},All2 (RepE κ) es l→∀ {i:Nat} {r:Option V},findE k es=some r→
      (r=none→Instr.findNow kd vk l i=some none)∧(∀ v,r=some v→∃ j val,Instr.findNow kd vk l i=some (some (j,val))∧Rep1 κ v val)
  | [],l,ha,i,r,h=> by
    cases ha
    simp only[findE,Option.some.injEq]at h
    subst h
    exact⟨fun _=> rfl,fun v hv=> (by cases hv)⟩
  | (x,u)::es,l,ha,i,r,h=> by
    cases ha with
    | cons h1 h2=>
      simp only[findE]at h
      split at h
      · rename_i he
        simp only[Option.some.injEq]at h
        subst h
        have:=sameNow_eqD hr h1.1 hk hok he hkind
        refine⟨fun hn=> (by cases hn),fun v hv=> ?_⟩
        simp only[Option.some.injEq]at hv
        subst hv
        exact⟨i,_,by simp only[Instr.findNow,this],h1.2⟩
      · rename_i he
        have:=sameNow_eqD hr h1.1 hk hok he hkind
        obtain⟨q1,q2⟩:=findNow_sound hk hr hok hkind h2 (i:=i+1) h
        simp only[Instr.findNow,this]
        exact⟨q1,q2⟩
      · cases h
def keyTy (P:Program)(k:TypeId)(str:Bool):Bool:=match P.underlying k with
  | some (.int _)=> !str
  | some .string=> str
  | _=> false
theorem keyTy_spec {k:TypeId}{str:Bool}(h:keyTy P k str=true):∃ kd,P.underlying k=some kd∧(kd= .string∨∃ i,kd= .int i)∧∀ (κ:K) (x:D) (v:Value),keyOk str x=true→RepD κ.L κ.imm x v→(kd= .string→∃ s,v= .string s)∧∀ i,kd= .int i→∃ k' n,v= .int k' n:=by
  unfold keyTy at h
  split at h
  · rename_i i hu
    have hs:str=false:=by simpa using h
    subst hs
    refine⟨_,hu,.inr ⟨_,rfl⟩,fun κ x v hx hr=> ⟨fun e=> (by cases e),fun j _=> ?_⟩⟩
    cases x <;> simp[keyOk]at hx
    simp only[RepD]at hr
    exact⟨_,_,hr⟩
  · rename_i hu
    subst h
    refine⟨_,hu,.inl rfl,fun κ x v hx hr=> ⟨fun _=> ?_,fun j e=> (by cases e)⟩⟩
    cases x <;> simp[keyOk]at hx
    simp only[RepD]at hr
    exact⟨_,hr⟩
  · cases h
theorem run_checkKey {w:World}{b:Bool}{k:TypeId}{v:Value}{kd:TypeDesc}(hu:P.underlying k=some kd)(hk:kd= .string∨∃ i,kd= .int i):(Instr.checkKey b 10000 k v).run P w= .ok () w:=by
  rw[show(10000:Nat)=9999+1 from rfl,Instr.checkKey.eq_def]
  rcases hk with rfl | ⟨i,rfl⟩ <;> simp[run_underlying hu]
theorem run_findNow {w:World}{k:TypeId}{v:Value}{kd:TypeDesc}(hu:P.underlying k=some kd){l:List MapEntry}{r:Option (Nat×Value)}(h:Instr.findNow kd v l 0=some r):(Instr.findKey k v l).run P w= .ok r w:=by
  unfold Instr.findKey
  simp[run_underlying hu,h]
theorem lenM_run (hi:Inv Pr κ st){t k e:TypeId}(hu:P.underlying t=some (.map k e)){m:V}{n:Nat}(h:m= .d .nm∧n=0∨∃ id es,m= .map id∧st.mapOf id=some es∧n=es.length){vm:Value}(rm:Rep κ m vm)(ty:TypeId):
    (Builtin.len_ #[t] ty #[vm]).run P κ.w= .ok (goInt n) κ.w:=by
  rcases h with⟨rfl,rfl⟩ | ⟨id,es,rfl,hes,rfl⟩
  · have rm:RepD κ.L κ.imm .nm vm:=rm
    simp only[RepD]at rm
    subst rm
    simp[Builtin.len_,run_underlying hu]
  · obtain⟨b,h1,rfl⟩:=rm
    obtain⟨b',arr,clk,h2,h3,h4,hstm⟩:=hi.maps id es hes
    obtain rfl:b=b':=by rw[h1]at h2;exact Option.some.inj h2
    have:=h4.length
    simp[Builtin.len_,run_underlying hu,getObj,Sem.run,h3,Result.andThen,this]
theorem look_mem (hi:Inv Pr κ st){t k e:TypeId}(hu:P.underlying t=some (.map k e)){str:Bool}(hk:keyTy P k str=true){z:List D}{za:Bool}(hz:zeroOk P e z za=true){ok:Bool}{m key r:V}
    (h:lookV str ok (zeroV z za) st m key=some r) {vm vk:Value} (rm:Rep κ m vm) (rk:Rep κ key vk):Mem P Pr κ st r (Instr.lookup t vm vk ok):=by
  obtain⟨kd,hkd,hkk,hkv⟩:=keyTy_spec hk
  unfold lookV at h
  split at h
  case h_2=> cases h
  rename_i kx
  split at h
  case isFalse=> cases h
  rename_i hko
  have rk:RepD κ.L κ.imm kx vk:=rk
  have hkv:=hkv κ kx vk hko rk
  obtain⟨zv,hzr,hzz⟩:=zero_sound (κ:=κ) (w:=κ.w) hz
  split at h
  · simp only[Option.some.injEq]at h
    subst h
    have rm:RepD κ.L κ.imm .nm vm:=rm
    simp only[RepD]at rm
    subst rm
    have hf:(Instr.findKey k vk ([]:List MapEntry)).run P κ.w= .ok none κ.w:=run_findNow hkd rfl
    cases ok
    · refine⟨κ,zv,?_,K.le.refl _,hi,Rep.of1 hzz⟩
      simp[Instr.lookup,run_underlying hu,run_checkKey hkd hkk,hf,hzr]
    · refine⟨κ,.tuple #[zv,.bool false],?_,K.le.refl _,hi,[zv,.bool false],rfl,.cons hzz (.cons ?_ .nil)⟩
      · simp[Instr.lookup,run_underlying hu,run_checkKey hkd hkk,hf,hzr]
      · exact(show RepD κ.L κ.imm (.b false) (.bool false) from by simp only[RepD])
  · rename_i id
    split at h
    case h_2=> cases h
    rename_i es hes
    simp only[Option.map_eq_some_iff]at h
    obtain⟨fr,hfr,rfl⟩:=h
    obtain⟨b,h1,rfl⟩:=rm
    obtain⟨b',arr,clk,h2,h3,h4,hstm⟩:=hi.maps id es hes
    obtain rfl:b=b':=by rw[h1]at h2;exact Option.some.inj h2
    obtain⟨q1,q2⟩:=findNow_sound hkk rk hko hkv h4 (i:=0) hfr
    cases fr with
    | none=>
      have hf:=run_findNow (P:=P) (w:=κ.w) hkd (q1 rfl)
      cases ok
      · refine⟨κ,zv,?_,K.le.refl _,hi,Rep.of1 hzz⟩
        simp[Instr.lookup,run_underlying hu,run_checkKey hkd hkk,getObj,Sem.run,h3,Result.andThen,hf,hzr]
      · refine⟨κ,.tuple #[zv,.bool false],?_,K.le.refl _,hi,[zv,.bool false],rfl,.cons hzz (.cons (show RepD κ.L κ.imm (.b false) (.bool false) from by simp only[RepD]) .nil)⟩
        simp[Instr.lookup,run_underlying hu,run_checkKey hkd hkk,getObj,Sem.run,h3,Result.andThen,hf,hzr]
    | some u=>
      obtain⟨j,val,hj,hval⟩:=q2 u rfl
      have hf:=run_findNow (P:=P) (w:=κ.w) hkd hj
      cases ok
      · refine⟨κ,val,?_,K.le.refl _,hi,Rep.of1 hval⟩
        simp[Instr.lookup,run_underlying hu,run_checkKey hkd hkk,getObj,Sem.run,h3,Result.andThen,hf]
      · refine⟨κ,.tuple #[val,.bool true],?_,K.le.refl _,hi,[val,.bool true],rfl,.cons hval (.cons (show RepD κ.L κ.imm (.b true) (.bool true) from by simp only[RepD]) .nil)⟩
        simp[Instr.lookup,run_underlying hu,run_checkKey hkd hkk,getObj,Sem.run,h3,Result.andThen,hf]
  · cases h
theorem setE_sound {kd:TypeDesc}(hk:kd= .string∨∃ k,kd= .int k){k:D}{vk:Value}(hr:RepD κ.L κ.imm k vk){str:Bool}(hok:keyOk str k=true)(hkind:(kd= .string→∃ s,vk= .string s)∧∀ k,kd= .int k→∃ k' n,vk= .int k' n){x:V}{vx:Value}(hx:Rep1 κ x vx):
    ∀ {es:List (D×V)} {l:List MapEntry},All2 (RepE κ) es l→∀ {i:Nat} {es':List (D×V)},setE k x es=some es'→
      (Instr.findNow kd vk l i=some none∧(∀ born,All2 (RepE κ) es' (l++ [{key:=vk,val:=vx,born:=born}]))∧∀ e∈l,e.key≠vk)∨
      (∃ j val old,Instr.findNow kd vk l i=some (some (i+j,val))∧l[j]? =some old∧old.key=vk∧All2 (RepE κ) es' (l.modify j fun e=> {e with key:=vk,val:=vx}))
  | [],l,ha,i,es',h=> by
    cases ha
    simp only[setE,Option.some.injEq]at h
    subst h
    exact .inl ⟨rfl,fun born=> .cons ⟨hr,hx⟩ .nil,fun e he=> by cases he⟩
  | (y,u)::es,l,ha,i,es',h=> by
    cases ha with
    | cons h1 h2=>
      rename_i e0 l
      simp only[setE]at h
      split at h
      · rename_i he
        simp only[Option.some.injEq]at h
        subst h
        have hs:=sameNow_eqD hr h1.1 hk hok he hkind
        refine .inr ⟨0,e0.val,e0,by simp only[Instr.findNow,hs,Nat.add_zero],rfl,?_,by simpa using All2.cons ⟨hr,hx⟩ h2⟩
        have hky:k=y:=by
          cases k <;> simp only[keyOk]at hok <;> try (cases hok;done)
          · cases y <;> simp only[eqD]at he <;> try (cases he;done)
            split at he
            · rename_i hkk
              simp at he
              rw[hkk,he]
            · cases he
          · cases y <;> simp only[eqD]at he <;> try (cases he;done)
            simp at he
            rw[he]
        subst hky
        have h11:=h1.1
        cases k <;> simp only[keyOk]at hok <;> try (cases hok;done)
        · simp only[RepD]at h11 hr
          rw[h11,hr]
        · simp only[RepD]at h11 hr
          rw[h11,hr]
      · rename_i he
        simp only[Option.map_eq_some_iff]at h
        obtain⟨r',hr',rfl⟩:=h
        have hs:=sameNow_eqD hr h1.1 hk hok he hkind
        rcases setE_sound hk hr hok hkind hx h2 (i:=i+1) hr' with⟨q1,q2,q5⟩ | ⟨j,val,old,q1,q2,q3,q4⟩
        · refine .inl ⟨by simp only[Instr.findNow,hs];exact q1,fun born=> .cons h1 (q2 born),fun e he'=> ?_⟩
          rcases List.mem_cons.1 he' with rfl | he'
          · intro ek
            have h11:=h1.1
            rw[ek]at h11
            cases k <;> simp only[keyOk]at hok <;> try (cases hok;done)
            · cases y <;> simp only[eqD]at he <;> try (cases he;done)
              simp only[RepD]at h11 hr
              rw[h11]at hr
              simp only[Value.int.injEq]at hr
              simp[hr.1,hr.2]at he
            · cases y <;> simp only[eqD]at he <;> try (cases he;done)
              simp only[RepD]at h11 hr
              rw[h11]at hr
              have:=congrArg (fun v=> match v with | Value.string s=> s.data.toList | _=> []) hr
              simp at this
              simp[this]at he
          · exact q5 e he'
        · refine .inr ⟨j+1,val,old,by simp only[Instr.findNow,hs];rw[q1];congr 3;omega,by simpa using q2,q3,?_⟩
          simpa using All2.cons h1 q4
      · cases h
theorem mapSet_mem (hi:Inv Pr κ st){t k e:TypeId}(hu:P.underlying t=some (.map k e)){str:Bool}(hk:keyTy P k str=true){m key x:V}(h:mapSetV str st m key x=some st')(hx1:x.ok1=true)
    {vm vk vx:Value} (rm:Rep κ m vm) (rk:Rep κ key vk) (rx:Rep κ x vx):∃ κ',(Instr.mapUpdate t vm vk vx).run P κ.w= .ok () κ'.w∧κ.le κ'∧Inv Pr κ' st':=by
  obtain⟨kd,hkd,hkk,hkv⟩:=keyTy_spec hk
  unfold mapSetV at h
  split at h
  case h_2=> cases h
  rename_i id kx
  split at h
  case isFalse=> cases h
  rename_i hko
  have rk:RepD κ.L κ.imm kx vk:=rk
  have hkv:=hkv κ kx vk hko rk
  split at h
  case h_2=> cases h
  rename_i es hes
  split at h
  case h_2=> cases h
  rename_i es' hse
  obtain⟨b,h1,rfl⟩:=rm
  obtain⟨b',arr,clk,h2,h3,h4,hstm⟩:=hi.maps id es hes
  obtain rfl:b=b':=by rw[h1]at h2;exact Option.some.inj h2
  have rx1:Rep1 κ x vx:=Rep.to1 rx (by rintro vs rfl;simp[V.ok1]at hx1)
  have hset:∀ o:Obj,(setObj b o).run P κ.w= .ok () {κ.w with heap:=κ.w.heap.setIfInBounds b o}:=by
    intro o
    simp[setObj,Sem.run,h3]
  have hlt:=(hi.ρb _ _ h1).2
  unfold St.setBlk at h
  split at h
  case isFalse=> cases h
  simp only[Option.some.injEq]at h
  subst h
  have fin:∀ (l':List MapEntry) (clk':Nat),All2 (RepE κ) es' l'→MapKept.Stamped l'.toArray clk'→κ.le (κ.to {κ.w with heap:=κ.w.heap.setIfInBounds b (.map l'.toArray clk')})∧Inv Pr (κ.to {κ.w with heap:=κ.w.heap.setIfInBounds b (.map l'.toArray clk')}) {st with heap:=st.heap.set id (some (.map es'))}:=by
    intro l' clk' ha hst'
    refine Inv.put (o:= .map l'.toArray clk') hi h1 (fun c hc=> ?_) (by simp) rfl rfl rfl ?_ (.inr fun o x hx=> ?_) ⟨l'.toArray,clk',rfl,by simpa using ha,hst'⟩
    · exact Array.getElem?_setIfInBounds_ne (fun e=> hc e.symm)
    · simp[Array.getElem?_setIfInBounds,hlt]
    · simp[World.cell?,h3]at hx
  have hck:=run_checkKey (P:=P) (w:=κ.w) (b:=false) (v:=vk) hkd hkk
  rcases setE_sound hkk rk hko hkv rx1 h4 (i:=0) hse with⟨q1,q2,q5⟩ | ⟨j,val,old,q1,q2,q3,q4⟩
  · have hf:=run_findNow (P:=P) (w:=κ.w) hkd q1
    have hst1:MapKept.Stamped (arr.toList++ [({key:=vk,val:=vx,born:=clk}:MapEntry)]).toArray (clk+1):=by
      have:=MapKept.stamped_push hstm (key:=vk) (val:=vx) q5
      have e:(arr.toList++ [({key:=vk,val:=vx,born:=clk}:MapEntry)]).toArray=arr.push {key:=vk,val:=vx,born:=clk}:=by apply Array.ext';simp
      rw[e]
      exact this
    obtain⟨m1,m2⟩:=fin _ (clk+1) (q2 clk) hst1
    refine⟨_,?_,m1,m2⟩
    have hs:=hset (.map (arr.push {key:=vk,val:=vx,born:=clk}) (clk+1))
    have e:∀ en:MapEntry,(arr.toList++ [en]).toArray=arr.push en:=fun en=> by apply Array.ext';simp
    rw[e]
    simp[Instr.mapUpdate,run_underlying hu,hck,getObj,Sem.run,h3,Result.andThen,hf,hs]
    rfl
  · rw[Nat.zero_add]at q1
    have hf:=run_findNow (P:=P) (w:=κ.w) hkd q1
    have hst2:MapKept.Stamped (arr.toList.modify j fun(e:MapEntry)=> {e with key:=vk,val:=vx}).toArray clk:=by
      have:=MapKept.stamped_modify hstm j (fun(e:MapEntry)=> {e with key:=vk,val:=vx}) (fun _ _=> rfl) (fun e _ he=> by
        have:old=e:=by
          have h1:arr[j]? =some old:=by simpa using q2
          rw[h1]at he
          exact Option.some.inj he
        rw[← this]
        exact q3.symm)
      have e:(arr.toList.modify j fun(e:MapEntry)=> {e with key:=vk,val:=vx}).toArray=arr.modify j fun(e:MapEntry)=> {e with key:=vk,val:=vx}:=by apply Array.ext';simp
      rw[e]
      exact this
    obtain⟨m1,m2⟩:=fin _ clk q4 hst2
    refine⟨_,?_,m1,m2⟩
    have e:∀ f:MapEntry→MapEntry,(arr.toList.modify j f).toArray=arr.modify j f:=fun f=> by apply Array.ext';simp
    have hkey:((arr[j]?).map (·.key)).getD vk=vk:=by
      have:arr[j]? =some old:=by simpa using q2
      rw[this]
      exact q3
    have hst:(Instr.keyThatStays vk vk).run P κ.w= .ok vk κ.w:=by
      have:Instr.sameBits 10000 vk vk=true:=by
        cases kx <;> simp only[keyOk]at hko <;> try (cases hko;done)
        · simp only[RepD]at rk
          subst rk
          simp[Instr.sameBits,mk_beq]
        · simp only[RepD]at rk
          subst rk
          simp[Instr.sameBits,mk_beq]
      simp[Instr.keyThatStays,this]
    have hs:=hset (.map (arr.modify j fun e=> {e with key:=vk,val:=vx}) clk)
    rw[e]
    simp[Instr.mapUpdate,run_underlying hu,hck,getObj,Sem.run,h3,Result.andThen,hf,hkey,hst,hs]
    rfl
end
end Go.Sh
