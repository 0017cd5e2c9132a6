/- Part of the proof. -/
import Derived.Test.YtidigkielipghaaGreatDoorShLnmJ
set_option linter.unusedVariables false
set_option linter.unusedSimpArgs false
set_option linter.unusedSectionVars false
namespace Go.Sh
def firstR (S:List Byt8)(G:Gth):Option (Byt8×Int):=match viol S G 0 with
  | some n=> some (n,162)
  | none=> match viol S G 1 with
    | some n=> some (n,163)
    | none=> (viol S G 2).map fun n=> (n,164)
def rulesV:List V:= [.fn 334 [],.d (.i .i64 162),.fn 335 [],.d (.i .i64 163),.fn 336 [],.d (.i .i64 164)]
section
variable {pr:Prog}(hp:Sub nmFns pr){m:Nat}{G:Gth}{P:List (Nat×List V)}{s:St}{S:List Byt8}{E:Env}
include hp
theorem loopRR {q:Nat}(hs:GS m G P s)(hZ:(0,Z2)∈P)(hq:(q,rulesV)∈P)(hS:∀ n∈S,n∈keysN G)(hB:GB 1099511627775 G)(hSl:S.length < 1099511627776)
    (hE:mask [2,9,10,46,47,48] E= [(2,.ptr 0 0),(9,.map m),(10,dsl txC (decide (0 < S.length)) S),(46,.rsl 2 q 0 3 3),(47,.d (.i .i64 3)),(48,.d (.i .i64 0))]):
    ∃ e s',(firstR S G=none∧cden pr (.loop [2,9,10,46,47,48] false F320_b1) E s=some (.exit 2,e,s')∧e.get 2=some (.ptr 0 0)∧e.get 9=some (.map m)∧e.get 10=some (dsl txC (decide (0 < S.length)) S)∧GS m G P s')∨
      (∃ n c,firstR S G=some (n,c)∧cden pr (.loop [2,9,10,46,47,48] false F320_b1) E s=some (.ret,e,s')∧e.get 2=some (.ptr 0 0)∧e.get 3=some (.d (.s n))∧e.get 4=some (.d (.i .i64 c))∧s'.row 0=some Z2):=by
  obtain⟨r,hr,hQ⟩:∃ r,cden pr (.loop [2,9,10,46,47,48] false F320_b1) E s=some r∧((firstR S G=none∧∃ e s',r=(.exit 2,e,s')∧e.get 2=some (.ptr 0 0)∧e.get 9=some (.map m)∧e.get 10=some (dsl txC (decide (0 < S.length)) S)∧GS m G P s')∨
      (∃ n c,firstR S G=some (n,c)∧∃ e s',r=(.ret,e,s')∧e.get 2=some (.ptr 0 0)∧e.get 3=some (.d (.s n))∧e.get 4=some (.d (.i .i64 c))∧s'.row 0=some Z2)):=by
    obtain⟨J,hJ⟩:∃ J:Nat→Env→St→Prop,∀ n e t,J n e t↔∃ j,n=3 - j∧j≤3∧e= [(2,.ptr 0 0),(9,.map m),(10,dsl txC (decide (0 < S.length)) S),(46,.rsl 2 q 0 3 3),(47,.d (.i .i64 3)),(48,.d (.i .i64 (j:Nat)))]∧GS m G P t∧∀ i,i < j→viol S G i=none:=⟨_,fun _ _ _=> Iff.rfl⟩
    refine loop_j J ?_ (n:=3) ((hJ _ _ _).2 ⟨0,by omega,by omega,by rw[hE];simp,hs,fun i hi=> by omega⟩)
    intro n e t hh
    obtain⟨j,rfl,hj,rfl,ht,hv⟩:=(hJ _ _ _).1 hh
    rcases Nat.lt_or_ge j 3 with hlt | hge
    · have hn1:IntKind.wrap .i64 ((j:Int)+1)=j+1:=wrap_i64 (by omega) (by omega)
      obtain⟨o,f,code,hia,ho,htk,hfj,hcj⟩:∃ o f code,iaddrV 2 (.rsl 2 q 0 3 3) (.d (.i .i64 (j:Int)))=some (.ptr q o)∧o+2≤rulesV.length∧(rulesV.drop o).take 2= [.fn f [],.d (.i .i64 code)]∧f=334+j∧code=((162+j:Nat):Int):=by
        obtain rfl | rfl | rfl:j=0∨j=1∨j=2:=by omega
        · exact⟨0,334,162,rfl,by decide,rfl,rfl,rfl⟩
        · exact⟨2,335,163,rfl,by decide,rfl,rfl,rfl⟩
        · exact⟨4,336,164,rfl,by decide,rfl,rfl,rfl⟩
      have hqr:=ht.pr hq
      have hfl:=ht.fl
      generalize hRR:rulesV=RR at hqr ho htk
      obtain⟨sp,hsp⟩:∃ sp,sp=t.push (.row [.fn f [],.d (.i .i64 code)]):=⟨_,rfl⟩
      have hset6:∀ cs,(t.push (.row cs)).setBlk t.heap.length (.row [.fn f [],.d (.i .i64 code)])=some sp:=fun cs=> by rw[setBlk_push rfl (by rw[hfl];omega),hsp]
      have hrow6:∀ cs,(t.push (.row cs)).row t.heap.length=some cs:=fun cs=> row_push_new rfl
      have hp1:=ht.push [.fn f [],.d (.i .i64 code)]
      rw[← hsp]at hp1
      have h0:=ht.prlt hZ
      have hlt':(j:Int) < 3:=by omega
      have hlen:lenV (dsl txC (decide (0 < S.length)) S)=some S.length:=rfl
      simp only[F320_b1]
      have hfo:∀ x,escC t 0 0 (V.fn f [])=x→True:=fun _ _=> trivial
      have hok1:(V.fn f []).ok1=true:=rfl
      simp[hlt',hn1,hia,hqr,ho,htk,mkV,hset6,hrow6,lay,ofDs,hlen]
      generalize t.heap.length=r12 at hp1 h0
      clear hset6 hrow6 hsp
      generalize hL:cden pr (.loop _ _ F320_b2) _ _=w
      obtain⟨e,⟨v1,e1,g2,g9,g10,g46,g47,g48⟩ | ⟨n,s',v1,e1,g2,g3,g4,g0⟩⟩:=loopR hp (j:=j) (S:=S) (r12:=r12) (a46:= .rsl 2 q 0 3 3) (a47:= .d (.i .i64 3)) (a48:= .d (.i .i64 j)) (E:= [(2,.ptr 0 0),(9,.map m),(10,dsl txC (decide (0 < S.length)) S),(12,.ptr r12 0),(46,.rsl 2 q 0 3 3),(47,.d (.i .i64 3)),(48,.d (.i .i64 j)),(52,dsl txC (decide (0 < S.length)) S),(53,.d (.i .i64 S.length)),(54,.d (.i .i64 0))]) hlt hp1 (List.mem_cons_of_mem _ hZ) hfj List.mem_cons_self (by omega) hS hB hSl rfl
      · rw[e1]at hL
        subst hL
        simp[g2,g9,g10,g46,g47,g48,hn1]
        refine⟨3 - (j+1),by omega,(hJ _ _ _).2 ⟨j+1,rfl,hlt,by simp,hp1.sub fun x hx=> List.mem_cons_of_mem _ hx,fun i hi=> ?_⟩⟩
        by_cases h:i=j
        · rw[h,v1]
        · exact hv i (by omega)
      · rw[e1]at hL
        subst hL
        have hfr:firstR S G=some (n,code):=by
          unfold firstR
          obtain rfl | rfl | rfl:j=0∨j=1∨j=2:=by omega
          · rw[v1,hcj]
            rfl
          · rw[hv 0 (by omega)]
            simp only[v1,hcj]
            rfl
          · rw[hv 0 (by omega),hv 1 (by omega)]
            simp only[v1,hcj]
            rfl
        simp[hfr]
        exact⟨_,_,⟨rfl,rfl⟩,_,_,⟨rfl,rfl⟩,g2,g3,g4,g0⟩
    · obtain rfl:j=3:=by omega
      have hfr:firstR S G=none:=by
        unfold firstR
        rw[hv 0 (by omega),hv 1 (by omega),hv 2 (by omega)]
        rfl
      simp only[F320_b1]
      simp[hfr]
      exact⟨_,_,⟨rfl,rfl⟩,rfl,rfl,rfl,ht⟩
  rcases hQ with⟨h1,e,s',rfl,h2⟩ | ⟨n,c,h1,e,s',rfl,h2⟩
  · exact⟨e,s',.inl ⟨h1,hr,h2⟩⟩
  · exact⟨e,s',.inr ⟨n,c,h1,hr,h2⟩⟩
end
structure MW (m:Nat)(G:Gth)(R A B:Byt8→Nat)(r:Nat)(F:List Bnd)(Tb:List TbS)(s:St):Prop where
  fl:s.floor=0
  tf:s.tfloor=0
  mp:s.mapOf m=some ((keysN G).map fun n=> (.s n,.ptr (R n) 0))
  row:∀ n∈keysN G,s.row (R n)=some (knV (getN' n G) (A n) (B n))
  ne:∀ n∈keysN G,R n≠r
  r0:r≠0
  z:s.row 0=some Z2
  out:∃ fv tv a b,s.row r=some [fv,tv]∧Grw Bnd.cells 3 F a fv s∧Grw TbS.cells 5 Tb b tv s∧∀ x y,a=some x→b=some y→x≠y
section
variable {m:Nat}{G:Gth}{R A B:Byt8→Nat}{r:Nat}{F:List Bnd}{Tb:List TbS}{s:St}
theorem MW.fs (h:MW m G R A B r F Tb s){n:Byt8}(hn:n∈keysN G)(hb:F.length+(getN' n G).fs.length < 1099511627776):∃ fv tv fv' s1 s2,s.row r=some [fv,tv]∧appV 3 32 s fv (grl Bnd.cells 3 (getN' n G).fs (A n))=some (fv',s1)∧s1.row r=some [fv,tv]∧s1.setBlk r (.row [fv',tv])=some s2∧fv'.ok1=true∧fv'.cs= [fv']∧MW m G R A B r (F++(getN' n G).fs) Tb s2:=by
  obtain⟨fv,tv,a,b,hr,h1,h2,h3⟩:=h.out
  obtain⟨t',tips',fv',e1,e2,e3,e4,e5⟩:=h1.app (by':=32) Bnd.c3 h.tf (grl_vw Bnd.cells 3 (getN' n G).fs (A n) s) (by omega) (by omega)
  obtain⟨s1,hs1⟩:∃ s1:St,s1={s with tips:=tips'}:=⟨_,rfl⟩
  rw[← hs1]at e1 e2
  have hf1:s1.floor=0:=by rw[hs1];exact h.fl
  have hrow1:∀ i,s1.row i=s.row i:=fun i=> by rw[hs1];rfl
  have hmap1:∀ i,s1.mapOf i=s.mapOf i:=fun i=> by rw[hs1];rfl
  have hlr:=row_lt hr
  have hl1:s1.heap.length=s.heap.length:=by rw[hs1]
  have hmr:m≠r:=fun e=> row_map_ne hr h.mp e.symm
  refine⟨fv,tv,fv',s1,s1.put r [fv',tv],hr,e1,by rw[hrow1];exact hr,setBlk_put hf1,e2.one.1,e2.one.2,⟨hf1,by rw[← h.tf,hs1];rfl,?_,fun x hx=> ?_,h.ne,h.r0,?_,fv',tv,some t',b,row_put_eq (by rw[hl1];exact hlr),?_,?_,fun x y hx hy=> ?_⟩⟩
  · rw[mapOf_put hmr,hmap1]
    exact h.mp
  · rw[row_put_ne (h.ne x hx),hrow1]
    exact h.row x hx
  · rw[row_put_ne (Ne.symm h.r0),hrow1]
    exact h.z
  · exact e2.tips fun u _ _=> rfl
  · have:Grw TbS.cells 5 Tb b tv s1:=h2.tips fun u hu hlt=> by
      rw[hs1]
      refine e4 u hlt fun e=> ?_
      exact h3 u u e hu rfl
    exact this.tips fun u _ _=> rfl
  · obtain rfl:=Option.some.inj hx
    rcases e3 with e3 | e3
    · exact h3 _ _ e3 hy
    · intro e
      subst e
      subst hy
      have:=(List.getElem?_eq_some_iff.1 h2.2).1
      omega
theorem MW.ts (h:MW m G R A B r F Tb s)(t:TbS)(hb:Tb.length+1 < 1099511627776):∃ fv tv tv' s1 s2,s.row r=some [fv,tv]∧appV 5 48 s tv (.d (.sl 1 true t.cells))=some (tv',s1)∧s1.row r=some [fv,tv]∧s1.setBlk r (.row [fv,tv'])=some s2∧tv'.ok1=true∧tv'.cs= [tv']∧MW m G R A B r F (Tb++ [t]) s2:=by
  obtain⟨fv,tv,a,b,hr,h1,h2,h3⟩:=h.out
  have hvw:vw 5 s (.d (.sl 1 true t.cells))=some ([t].length,([t].map TbS.cells).flatten):=by simp[vw]
  obtain⟨t',tips',tv',e1,e2,e3,e4,e5⟩:=h2.app (by':=48) TbS.c5 h.tf hvw (by simp only[List.length_cons,List.length_nil];omega) (by simp only[List.length_cons,List.length_nil];omega)
  obtain⟨s1,hs1⟩:∃ s1:St,s1={s with tips:=tips'}:=⟨_,rfl⟩
  rw[← hs1]at e1 e2
  have hf1:s1.floor=0:=by rw[hs1];exact h.fl
  have hrow1:∀ i,s1.row i=s.row i:=fun i=> by rw[hs1];rfl
  have hmap1:∀ i,s1.mapOf i=s.mapOf i:=fun i=> by rw[hs1];rfl
  have hlr:=row_lt hr
  have hl1:s1.heap.length=s.heap.length:=by rw[hs1]
  have hmr:m≠r:=fun e=> row_map_ne hr h.mp e.symm
  refine⟨fv,tv,tv',s1,s1.put r [fv,tv'],hr,e1,by rw[hrow1];exact hr,setBlk_put hf1,e2.one.1,e2.one.2,⟨hf1,by rw[← h.tf,hs1];rfl,?_,fun x hx=> ?_,h.ne,h.r0,?_,fv,tv',a,some t',row_put_eq (by rw[hl1];exact hlr),?_,?_,fun x y hx hy=> ?_⟩⟩
  · rw[mapOf_put hmr,hmap1]
    exact h.mp
  · rw[row_put_ne (h.ne x hx),hrow1]
    exact h.row x hx
  · rw[row_put_ne (Ne.symm h.r0),hrow1]
    exact h.z
  · have:Grw Bnd.cells 3 F a fv s1:=h1.tips fun u hu hlt=> by
      rw[hs1]
      refine e4 u hlt fun e=> ?_
      exact h3 u u hu e rfl
    exact this.tips fun u _ _=> rfl
  · exact e2.tips fun u _ _=> rfl
  · obtain rfl:=Option.some.inj hy
    rcases e3 with e3 | e3
    · exact h3 _ _ hx e3
    · intro e
      subst e
      subst hx
      have:=(List.getElem?_eq_some_iff.1 h1.2).1
      omega
end
section
variable {pr:Prog}(hp:Sub nmFns pr){m:Nat}{G:Gth}{R A B:Byt8→Nat}{r:Nat}{s:St}{S:List Byt8}{E:Env}
include hp
theorem loopO (h:MW m G R A B r [] [] s)(hS:∀ n∈S,n∈keysN G)(hB:GB 262144 G)(hSl:S.length≤262144)
    (hE:mask [2,9,15,70,71,72] E= [(2,.ptr 0 0),(9,.map m),(15,.ptr r 0),(70,dsl txC (decide (0 < S.length)) S),(71,.d (.i .i64 S.length)),(72,.d (.i .i64 0))]):
    ∃ e s',cden pr (.loop [2,9,15,70,71,72] false F320_b3) E s=some (.exit 6,e,s')∧e.get 2=some (.ptr 0 0)∧e.get 15=some (.ptr r 0)∧MW m G R A B r (S.flatMap fun n=> (getN' n G).fs) (S.flatMap fun n=> (getN' n G).ts.take 1) s':=by
  have hu:=dsl_d txC1 (decide (0 < S.length)) S
  obtain⟨v,hv⟩:∃ v,v=dsl txC (decide (0 < S.length)) S:=⟨_,rfl⟩
  rw[← hv]at hu hE
  clear hv
  obtain⟨x,hx,e,s',rfl,hQ⟩:∃ x,cden pr (.loop [2,9,15,70,71,72] false F320_b3) E s=some x∧∃ e s',x=(.exit 6,e,s')∧e.get 2=some (.ptr 0 0)∧e.get 15=some (.ptr r 0)∧MW m G R A B r (S.flatMap fun n=> (getN' n G).fs) (S.flatMap fun n=> (getN' n G).ts.take 1) s':=by
    obtain⟨J,hJ⟩:∃ J:Nat→Env→St→Prop,∀ n e t,J n e t↔∃ i,n=S.length - i∧i≤S.length∧e= [(2,.ptr 0 0),(9,.map m),(15,.ptr r 0),(70,v),(71,.d (.i .i64 S.length)),(72,.d (.i .i64 (i:Nat)))]∧MW m G R A B r ((S.take i).flatMap fun n=> (getN' n G).fs) ((S.take i).flatMap fun n=> (getN' n G).ts.take 1) t∧((S.take i).flatMap fun n=> (getN' n G).fs).length≤i * 262144∧((S.take i).flatMap fun n=> (getN' n G).ts.take 1).length≤i:=⟨_,fun _ _ _=> Iff.rfl⟩
    refine loop_j J ?_ (n:=S.length) ((hJ _ _ _).2 ⟨0,by omega,by omega,by rw[hE];simp,by simpa using h,by simp,by simp⟩)
    intro n e t hh
    obtain⟨i,rfl,hi,rfl,ht,b1,b2⟩:=(hJ _ _ _).1 hh
    rcases Nat.lt_or_ge i S.length with hlt | hge
    · obtain⟨n,hn⟩:∃ n,S[i]? =some n:=⟨_,List.getElem?_eq_getElem hlt⟩
      have hnm:=hS n (List.mem_of_getElem? hn)
      have hn1:IntKind.wrap .i64 ((i:Int)+1)=i+1:=wrap_i64 (by omega) (by omega)
      have hia:=hu.iaddr (i:=(i:Int)) (k:= .i64) (by omega) (by simp;omega)
      simp only[Int.toNat_natCast]at hia
      have hld:∀ st,loadV 1 false st (elP 1 v i 0)=some (.d (.s n)):=fun st=> by
        rw[hu.load (el:=txC n) (by simp[hn]) (by omega) (by omega)]
        rfl
      have hgb:=hB n
      have hF:(S.take (i+1)).flatMap (fun n=> (getN' n G).fs)=(S.take i).flatMap (fun n=> (getN' n G).fs)++(getN' n G).fs:=by rw[List.take_add_one,hn];simp
      have hT:(S.take (i+1)).flatMap (fun n=> (getN' n G).ts.take 1)=(S.take i).flatMap (fun n=> (getN' n G).ts.take 1)++(getN' n G).ts.take 1:=by rw[List.take_add_one,hn];simp
      have hJ1:∀ t',MW m G R A B r ((S.take i).flatMap (fun n=> (getN' n G).fs)++(getN' n G).fs) ((S.take i).flatMap (fun n=> (getN' n G).ts.take 1)++(getN' n G).ts.take 1) t'→∃ q,q < S.length - i∧J q [(2,.ptr 0 0),(9,.map m),(15,.ptr r 0),(70,v),(71,.d (.i .i64 S.length)),(72,.d (.i .i64 ((i:Int)+1)))] t':=fun t' ht'=>
        ⟨S.length - (i+1),by omega,(hJ _ _ _).2 ⟨i+1,rfl,hlt,by simp,by rw[hF,hT];exact ht',by rw[hF,List.length_append];omega,by rw[hT,List.length_append,List.length_take];omega⟩⟩
      generalize (S.take i).flatMap (fun n=> (getN' n G).fs)=F at ht b1 hJ1
      generalize (S.take i).flatMap (fun n=> (getN' n G).ts.take 1)=Tb at ht b2 hJ1
      have hfd:=find_keys n R (keysN G)
      rw[if_pos hnm]at hfd
      have hmp:=ht.mp
      have hlook:lookV true false (.d .np) t (.map m) (.d (.s n))=some (.ptr (R n) 0):=by
        simp[lookV,keyOk,hmp,hfd,lookOut]
      have hz:zeroV [D.np] false= .d .np:=rfl
      have hrn:=ht.row n hnm
      obtain⟨fv,tv,fv',s1,s2,f1,f2,f3,f4,f5,f6,f7⟩:=ht.fs hnm (by omega)
      have hrn2:=f7.row n hnm
      obtain⟨k,hk⟩:∃ k,k=getN' n G:=⟨_,rfl⟩
      rw[← hk]at hrn hrn2 f2 f7 hJ1
      have hlt1:=grl_len TbS.cells 5 k.ts (B n)
      simp only[knV]at hrn hrn2
      cases hts:k.ts with
      | nil=>
        rw[hts]at hlt1 hrn hrn2 hJ1
        generalize grl Bnd.cells 3 k.fs (A n)=g1 at hrn hrn2 f2
        generalize grl TbS.cells 5 [] (B n)=g2 at hrn hrn2 hlt1
        simp only[List.length_nil]at hlt1
        simp[F320_b3,hlt,hn1,hia,hld,hlook,hz,hrn,f1,f2,f3,f4,f5,f6,hrn2,hlt1,lay]
        refine hJ1 _ ?_
        simpa using f7
      | cons t0 tr=>
        obtain⟨fv2,tv2,tv',s3,s4,g1,g2,g3,g4,g5,g6,g7⟩:=f7.ts t0 (by omega)
        obtain⟨w,hw1,hw2⟩:=grl_at TbS.c5 (by omega) (l:=k.ts) (t:=B n) (i:=0) (x:=t0) (by rw[hts];rfl)
        have hpos:(0:Int) < (k.ts.length:Int):=by rw[hts];simp
        rw[hts]at hJ1
        generalize grl Bnd.cells 3 k.fs (A n)=w1 at hrn hrn2 f2
        generalize grl TbS.cells 5 k.ts (B n)=w2 at hrn hrn2 hlt1 hw1
        generalize k.ts.length=N at hlt1 hpos
        have hpos':0 < N:=by omega
        have hw1':iaddrV 5 w2 (.d (.i .i64 0))=some w:=by simpa using hw1
        simp only[TbS.cells]at g2
        simp only[TbS.cells,ofDs,List.map_cons,List.map_nil]at hw2
        simp[F320_b3,hlt,hn1,hia,hld,hlook,hz,hrn,f1,f2,f3,f4,f5,f6,hrn2,hlt1,lay,hpos,hpos',g1,g2,g3,g4,g5,g6,hw1',hw2,fillV,ofDs,reps,toDs,toD]
        refine hJ1 _ ?_
        simpa using g7
    · obtain rfl:i=S.length:=by omega
      rw[List.take_of_length_le (Nat.le_refl _)]at ht
      simp[F320_b3]
      exact⟨_,_,⟨rfl,rfl⟩,rfl,rfl,ht⟩
  exact⟨e,s',hx,hQ⟩
end
end Go.Sh
