/- Part of the proof. -/
import Derived.Test.YtpgipjjhapapjaaShLsoA
import Derived.Test.YtpgipjjhapapjaaShShelfF
set_option linter.unusedVariables false
set_option linter.unusedSimpArgs false
set_option linter.unusedSectionVars false
namespace Go.Sh
def so8Fns:List (Nat×SFn):= [(390,F390),(392,F392),(395,F395),(396,F396),(398,F398),(399,F399),(328,F328)]
def wSo:Nat→Bool:=fun f=> f==390 || f==392 || f==395 || f==396 || f==399 || f==328 || f==167
def sC (s:Nm):List D:= [.s s]
theorem sC1 (s:Nm):(sC s).length=1:=rfl
theorem flD_s:∀ L:List Nm,flD sC L=L.map .s
  | []=> rfl
  | x::L=> by have:=flD_s L;simp only[flD,List.map_cons,List.flatten_cons,sC]at this ⊢;rw[this];rfl
def cpS (L:List Nm):V:= .d (.sl L.length true (L.map .s))
def P8 (pv:List (Nat×V×List D))(k w:V):Prop:=∃ L:List Nm,(1,k,flD sC L)∈pv∧w=cpS L∧L.length≤1099511627776
structure S8b where
  cnt:Int
  tot:Int
  F:V
  W:V
  K:V
  N:V
  fr:List (V×List Nm)
  was:List V
  kv:List V
  wv:List V
def S8b.R (b:S8b):List V:= [.d (.i .i64 b.cnt),.d (.i .i64 b.tot),.d (.b false),b.F,b.W,b.K,b.N]
structure S8 (s:St)(p:Nat)(b:S8b)(lab:Nat→Option Nat)(fs:Fs)(pv:List (Nat×V×List D))(al:List (Nat×List V)):Prop where
  hp:Hq s p b.R lab fs pv al
  f1:fs 1=some (1,b.fr.length,b.F,b.fr.map (·.1))
  f2:fs 2=some (1,b.fr.length,b.W,b.was)
  f4:fs 4=some (1,b.kv.length,b.K,b.kv)
  f5:fs 5=some (1,b.kv.length,b.N,b.wv)
  ff:∀ (i:Nat) x,b.fr[i]? =some x→fs (i+6)=some (1,x.2.length,x.1,ofDs (flD sC x.2))∧x.2.length≤4294967296
  hh:∀ (i:Nat) x h,b.fr[i]? =some x→b.was[i]? =some h→h=cpS x.2
  kw:∀ (i:Nat) k w,b.kv[i]? =some k→b.wv[i]? =some w→P8 pv k w
  none:∀ a,b.fr.length+6≤a→lab a=none∧fs a=none
  small:b.fr.length≤3∧b.kv.length≤900000000
  total:0≤b.tot∧b.tot≤4294967296
section
variable {pr:Prog}(hr:Sub ref8Fns pr){st:St}
include hr
theorem callW_sm8 {v w:V}{L:List Nm}(hl:L.length≤1099511627776)(h:Lst st 1 v (flD sC L))(hw:w=cpS L):CallW pr 167 [v,w] st fun r s=> st=s∧r= .d (.b true):=by
  obtain⟨n,nz,hs,hn⟩:=h.see 0
  rw[flD_s]at hs hn
  rw[List.length_map,Nat.mul_one]at hn
  subst hn
  have hs':see1 st 1 w=some (cpS L):=by rw[hw];rfl
  have hd:=den_sameT hr (st:=st0) (nz:=nz) (nz':=true) (a:=L) (b:=L) hl
  rw[decide_eq_true rfl]at hd
  refine .seen (k:=1) (seeA_two hs hs') (CallW.of_den hd ?_)
  simp[FreshR,FreshV,D.flat,pushO,V.flat]
end
section
variable {pr:Prog}(hp:Sub so8Fns pr)(hr:Sub ref8Fns pr){st:St}{p:Nat}{b:S8b}{lab:Nat→Option Nat}{fs:Fs}{pv:List (Nat×V×List D)}{al:List (Nat×List V)}
include hp
theorem den_mine (x:Int):∃ s:Nm,∀ st,den pr 398 [.d (.i .i64 x)] st=some (.d (.s s),st):=by
  obtain⟨b1,hb1⟩:=u8_ofB x
  obtain⟨b2,hb2⟩:=u8_ofB (x.fdiv 256)
  obtain⟨b3,hb3⟩:=u8_ofB (x.fdiv 65536)
  refine⟨[109,b1,b2,b3],fun st=> den_shut (hp.at 4 rfl) rfl rfl (by simp;rfl) ?_⟩
  have h2:shI .shr .i64 x 8=some (.i .i64 (x.fdiv 256)):=rfl
  have h3:shI .shr .i64 x 16=some (.i .i64 (x.fdiv 65536)):=rfl
  simp[F398,binV,h2,h3,convV,hb1,hb2,hb3,fillV,reps,lay,ofDs,toDs,toD,b2sV,vw,bytesOf]
omit hp in
theorem raw_cpX {n:Nat}{nz:Bool}{L:List D}(hn:L.length=n)(hl:n≤8796093022208):RawD pr F328 [.d (.sl n nz L)] fun v s=> v= .own 1 n true L 0∧s.tips[0]? =some n:=by
  have h1:n * 16≤140737488355328:=by omega
  have h2:n≤140737488355328:=by omega
  refine .of ?_
  simp[F328,fillV,reps,ofDs,appV,vw,hn,h1,h2]
theorem callW_cpX {v:V}{L:List Nm}(h:Lst st 1 v (flD sC L))(hl:L.length≤1099511627776):CallW pr 328 [v] st fun r s=> st=s∧r=cpS L:=by
  obtain⟨n,nz,hs,hn⟩:=h.see 0
  rw[flD_s]at hs hn
  rw[List.length_map,Nat.mul_one]at hn
  subst hn
  refine .seen (k:=1) (as:= [.d (.sl L.length nz (L.map .s))]) (by simp only[seeA,hs]) (((raw_cpX (by simp) (by omega)).callW (hp.at 6 rfl) rfl).mono ?_)
  rintro v s ⟨rfl,ht⟩
  have hfl:(L.map D.s).all D.flat=true:=by simp[D.flat]
  simp only[FreshR,FreshV,ht,hfl,List.length_map,Nat.mul_one,true_and]
  exact .inl ⟨rfl,rfl⟩
include hr
theorem callW_unt8 (h:S8 st p b lab fs pv al):CallW pr 396 [.ptr p 0] st fun r s=> st=s∧r= .d (.b true):=by
  refine .run wSo (hp.at 3 rfl) rfl ?_
  rw[start_raw _ rfl]
  refine codeC_of ?_
  have hrow:=h.hp.row
  simp only[S8b.R]at hrow
  have hlF:=h.hp.len h.f1
  have hsm:=h.small
  have wll:b.was.length=b.fr.length:=by have:=(h.hp.lr _ _ h.f2).1;simpa using this
  simp[F396,wSo]
  refine loopW_j wSo (fun n e s=> ∃ i,i≤b.fr.length∧n=b.fr.length - i∧e= [(0,.ptr p 0),(3,.d (.i .i64 (i:Nat)))]∧st=s) ?_ (n:=b.fr.length) ⟨0,Nat.zero_le _,rfl,by simp,rfl⟩
  rintro n e s ⟨i,hi,rfl,rfl,rfl⟩
  have w1:IntKind.wrap .i64 ((i:Int)+1)=i+1:=wrap_i64 (by omega) (by omega)
  rcases Nat.lt_or_ge i b.fr.length with hlt | hge
  · obtain⟨x,hx⟩:∃ x,b.fr[i]? =some x:=⟨_,List.getElem?_eq_getElem hlt⟩
    obtain⟨y,hy⟩:∃ y,b.was[i]? =some y:=⟨_,List.getElem?_eq_getElem (by omega)⟩
    have e1:=h.hh i x y hx hy
    obtain⟨hf,hlx⟩:=h.ff i x hx
    obtain⟨j1,c1,_,a1,a2,a3,a4⟩:=h.hp.get h.f1 i (x:=x.1) (by simp[hx]) (k:= .i64)
    obtain⟨j2,c2,_,b1,b2,b3,b4⟩:=h.hp.get h.f2 i hy (k:= .i64)
    simp[F396_b0,wSo,hrow,hlF,hlt]
    refine drawn2 14 [] (by decide) (by decide) ?_
    simp[DetW,hrow,a1,a2,a3,a4,b1,b2,b3,b4]
    rw[if_pos (by decide)]
    refine(callW_sm8 hr (by omega) ((h.hp.lr _ _ hf).lst).1 e1).mono ?_
    rintro r s' ⟨rfl,rfl⟩
    simp[F396_b0,wSo,w1]
    exact⟨b.fr.length - (i+1),by omega,i+1,by omega,rfl,rfl⟩
  · have:i=b.fr.length:=by omega
    subst this
    simp[F396_b0,wSo,hrow,hlF,FinW]
theorem callW_Holds8 (h:S8 st p b lab fs pv al):CallW pr 392 [.ptr p 0] st fun r s=> st=s∧r= .d (.b true):=by
  refine .run wSo (hp.at 1 rfl) rfl ?_
  rw[start_raw _ rfl]
  refine codeC_of ?_
  have hrow:=h.hp.row
  simp only[S8b.R]at hrow
  have hlF:=h.hp.len h.f4
  have hsm:=h.small
  have wll:b.wv.length=b.kv.length:=by have:=(h.hp.lr _ _ h.f5).1;simpa using this
  simp[F392,wSo]
  refine loopW_j wSo (fun n e s=> ∃ i,i≤b.kv.length∧n=b.kv.length - i∧e= [(0,.ptr p 0),(3,.d (.i .i64 (i:Nat)))]∧st=s) ?_ (n:=b.kv.length) ⟨0,Nat.zero_le _,rfl,by simp,rfl⟩
  rintro n e s ⟨i,hi,rfl,rfl,rfl⟩
  have w1:IntKind.wrap .i64 ((i:Int)+1)=i+1:=wrap_i64 (by omega) (by omega)
  rcases Nat.lt_or_ge i b.kv.length with hlt | hge
  · obtain⟨x,hx⟩:∃ x,b.kv[i]? =some x:=⟨_,List.getElem?_eq_getElem hlt⟩
    obtain⟨y,hy⟩:∃ y,b.wv[i]? =some y:=⟨_,List.getElem?_eq_getElem (by omega)⟩
    obtain⟨L,m1,e1,hl⟩:=h.kw i x y hx hy
    obtain⟨j1,c1,_,a1,a2,a3,a4⟩:=h.hp.get h.f4 i hx (k:= .i64)
    obtain⟨j2,c2,_,b1,b2,b3,b4⟩:=h.hp.get h.f5 i hy (k:= .i64)
    simp[F392_b0,wSo,hrow,hlF,hlt]
    refine drawn2 14 [] (by decide) (by decide) ?_
    simp[DetW,hrow,a1,a2,a3,a4,b1,b2,b3,b4]
    rw[if_pos (by decide)]
    refine(callW_sm8 hr hl (h.hp.pv _ m1).1 e1).mono ?_
    rintro r s' ⟨rfl,rfl⟩
    simp[F392_b0,wSo,w1]
    exact⟨b.kv.length - (i+1),by omega,i+1,by omega,rfl,rfl⟩
  · have:i=b.kv.length:=by omega
    subst this
    simp[F392_b0,wSo,hrow,hlF]
    refine(callW_unt8 hp hr h).mono ?_
    rintro r s' ⟨rfl,rfl⟩
    simp[FinW]
end
end Go.Sh
