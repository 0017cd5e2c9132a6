/- Part of the proof. -/
import GoSem.Core.View
import Derived.Laws.OwnMore
import Derived.Laws.CopyRow
import Derived.Below
import Derived.MapKept
import Derived.Laws.StructEq
import Derived.Laws.Slices
import Derived.Laws.BitsLemmas
import Derived.WideLaws
import Derived.Laws.Strings
namespace Go.Sh
inductive D where
  | i (k:IntKind) (n:Int)
  | b (b:Bool)
  | s (s:List UInt8)
  | sl (n:Nat) (nz:Bool) (cells:List D)
  | np
  | nm
  | ni
  | nf
  | ifc (tag:Nat) (agg:Bool) (cells:List D)
  | any
  deriving Inhabited
inductive V where
  | d (x:D)
  | agg (cs:List V)
  | tup (vs:List V)
  | own (size n:Nat) (nz:Bool) (cells:List D) (t:Nat)
  | ptr (id off:Nat)
  | ep (cells:List D)
  | rsl (size id off n cap:Nat)
  | map (id:Nat)
  | fn (f:Nat) (caps:List (Nat×Nat))
  | un
  deriving Inhabited
inductive Blk where
  | row (cs:List V)
  | map (es:List (D×V))
  deriving Inhabited
structure St where
  heap:List (Option Blk)
  tips:List Nat
  floor:Nat
  tfloor:Nat
inductive Opd where
  | t (n:Nat)
  | c (x:V)
  | g (name:Nat)
  | f (name:Nat)
inductive SOp where
  | mov (x:Opd)
  | tok (size:Nat) (x:Opd) -- a nil slice that will be appended to
  | pick (c a b:Opd)
  | bin (op:BinOp) (x y:Opd)
  | eqv (neg:Bool) (ks:List Nat) (x y:Opd)
  | un (op:UnOp) (x:Opd)
  | conv (k:IntKind) (x:Opd)
  | s2b (x:Opd)
  | b2s (x:Opd)
  | build (zero:List D) (parts:List (Nat×Nat×Opd)) -- place,cells,part
  | lits (n:Nat) (zero:List D) (parts:List (Nat×Nat×Opd))
  | litsR (n:Nat) (zero:List D) (parts:List (Nat×Nat×Opd))
  | litsO (n:Nat) (zero:List D) (parts:List (Nat×Nat×Opd))
  | box (x:Opd)
  | boxI (x:Opd)
  | alloc (zero:List D)
  | load (size:Nat) (agg:Bool) (p:Opd)
  | store (size:Nat) (p x:Opd)
  | storeX (size:Nat) (p x:Opd) (qs:List Nat) -- what these slots point to is elsewhere
  | faddr (off:Nat) (p:Opd)
  | field (off size:Nat) (agg:Bool) (x:Opd)
  | iaddr (size:Nat) (x i:Opd)
  | iaddrA (len size:Nat) (p i:Opd)
  | idx (len size:Nat) (agg:Bool) (x i:Opd)
  | idxS (x i:Opd)
  | slc (size:Nat) (x:Opd) (lo hi mx:Option Opd)
  | slcS (x:Opd) (lo hi:Option Opd)
  | slcA (len size:Nat) (p:Opd) (lo hi mx:Option Opd)
  | mkR (bytes:Nat) (zero:List D) (len cap:Opd)
  | mkD (bytes:Nat) (zero:List D) (len cap:Opd)
  | mkO (bytes size:Nat) (zero:List D) (len cap:Opd)
  | len (str:Bool) (x:Opd)
  | lenA (n:Nat)
  | app (size bytes:Nat) (s x:Opd)
  | appR (size bytes:Nat) (zero:List D) (s x:Opd) -- no run has an answer:see the triples
  | appZ (size bytes:Nat) (zero:List D) (s x:Opd) -- so many zeros
  | cpy (size:Nat) (dst src:Opd)
  | clr (size:Nat) (zero:List D) (x:Opd)
  | mkMap (r:Option Opd)
  | lenM (m:Opd)
  | look (str ok:Bool) (zero:List D) (zagg:Bool) (m k:Opd)
  | mapSet (str:Bool) (m k x:Opd)
  | mkI (tag:Nat) (agg:Bool) (x:Opd)
  | assertT (tag:Nat) (others:List Nat) (ok:Bool) (zero:List D) (zagg:Bool) (x:Opd)
  | extract (i:Nat) (x:Opd)
  | nilChk (x:Opd)
  | call (f:Nat) (args:List Opd)
  | invoke (table:List (Nat×Nat)) (recv:Opd) (args:List Opd)
  | mx (x y:Opd)
  | mn (x y:Opd)
  | mkFn (f:Nat) (caps:List Opd)
  | callC (fs:List Nat) (x:Opd) (args:List Opd)
structure SOper where
  dst:Option Nat
  guard:Option (Nat×Bool)
  op:SOp
inductive SCode where
  | skip
  | region (ops:List SOper) (draw:Bool) (anc:List Nat)
  | seq (a b:SCode)
  | cond (c:Opd) (a b:SCode)
  | block (id:Nat) (body:SCode)
  | loop (live:List Nat) (trunc:Bool) (body:SCode)
  | exit (id:Nat)
  | ret
  | keep (live:List Nat) (body:SCode)
inductive SRes where
  | tmp (t:Nat)
  | cell (t size:Nat) (agg:Bool)
structure SFn where
  nparams:Nat
  pure:Bool
  closed:Bool
  results:List SRes
  body:SCode
structure Prog where
  fn:Nat→Option SFn
  glob:Nat→Option (List D)
  prim:Nat→Option (List V→St→Option V)
/-! ### Values -/
def V.cs:V→List V
  | .agg cs=> cs
  | v=> [v]
def V.ok1:V→Bool
  | .tup _=> false
  | .un=> false
  | _=> true
def toD:V→Option D
  | .d x=> some x
  | .own _ n nz cs _=> some (.sl n nz cs)
  | _=> none
def toDs:List V→Option (List D)
  | []=> some []
  | v::vs=> match toD v with
    | some x=> match toDs vs with
      | some xs=> some (x::xs)
      | none=> none
    | none=> none
def mkV (agg:Bool)(cs:List V):Option V:=
  if agg then some (.agg cs) else match cs with
   | [c]=> some c
   | _=> none
def ofDs (ds:List D):List V:=ds.map .d
abbrev Env:=List (Nat×V)
def Env.get:Env→Nat→Option V
  | [],_=> none
  | (j,v)::r,i=> if j=i then some v else Env.get r i
def mask (live:List Nat)(e:Env):Env:=live.filterMap fun i=> (e.get i).map fun v=> (i,v)
def Opd.ev (P:Prog)(e:Env):Opd→Option V
  | .t n=> e.get n
  | .c x=> some x
  | .g n=> (P.glob n).map .ep
  | .f n=> some (.fn n [])
def evs (P:Prog)(e:Env):List Opd→Option (List V)
  | []=> some []
  | x::xs=> match x.ev P e with
    | some v=> match evs P e xs with
      | some vs=> some (v::vs)
      | none=> none
    | none=> none
/-! ### Operations on values alone -/
def bitI (op:BinOp)(k:IntKind)(x y:Int):Option D:=
  let a:=BitVec.ofInt k.bits x
  let b:=BitVec.ofInt k.bits y
  match op with
  | .and=> some (.i k (k.wrap (a &&& b).toNat))
  | .or=> some (.i k (k.wrap (a ||| b).toNat))
  | .xor=> some (.i k (k.wrap (a ^^^ b).toNat))
  | .andNot=> some (.i k (k.wrap (a &&& ~~~b).toNat))
  | _=> none
def shI (op:BinOp)(k:IntKind)(x y:Int):Option D:=
  if y < 0 then none else match op with
   | .shl=> some (.i k (k.wrap (x * 2 ^ (min y.toNat k.bits))))
   | .shr=> some (.i k (x.fdiv (2 ^ (min y.toNat k.bits))))
   | _=> none
def arI (op:BinOp)(k:IntKind)(x y:Int):Option D:=
  match op with
  | .add=> some (.i k (k.wrap (x+y)))
  | .sub=> some (.i k (k.wrap (x - y)))
  | .mul=> some (.i k (k.wrap (x * y)))
  | .quo=> if y=0 then none else some (.i k (k.wrap (x.tdiv y)))
  | .rem=> if y=0 then none else some (.i k (x.tmod y))
  | .and | .or | .xor | .andNot=> bitI op k x y
  | .eql=> some (.b (x==y))
  | .neq=> some (.b (x !=y))
  | .lss=> some (.b (x < y))
  | .leq=> some (.b (x≤y))
  | .gtr=> some (.b (x > y))
  | .geq=> some (.b (x≥y))
  | _=> none
def strLess:List UInt8→List UInt8→Bool
  | _,[]=> false
  | [],_::_=> true
  | a::x,b::y=> a < b || (a==b && strLess x y)
def binS (op:BinOp)(x y:List UInt8):Option D:=
  match op with
  | .add=> if x.length+y.length≤9223372036854775807 then some (.s (x++y)) else none
  | .eql=> some (.b (x==y))
  | .neq=> some (.b (!(x==y)))
  | .lss=> some (.b (strLess x y))
  | .leq=> some (.b (strLess x y || x==y))
  | .gtr=> some (.b (!(strLess x y || x==y)))
  | .geq=> some (.b (!strLess x y))
  | _=> none
def binV (op:BinOp):V→V→Option V
  | .d (.i k a),.d (.i k' b)=>
    match op with
    | .shl | .shr=> (shI op k a b).map .d
    | _=> if k=k' then(arI op k a b).map .d else none
  | .d (.s a),.d (.s b)=> (binS op a b).map .d
  | _,_=> none
def unV (op:UnOp):V→Option V
  | .d (.i k n)=> match op with
    | .neg=> some (.d (.i k (k.wrap (0 - n))))
    | .xor=> (bitI .xor k (if k.signed then -1 else k.max) n).map .d
    | _=> none
  | .d (.b b)=> match op with
    | .not=> some (.d (.b (!b)))
    | _=> none
  | _=> none
def eqD:D→D→Option Bool
  | .i k a,.i k' b=> if k=k' then some (a==b) else none
  | .b a,.b b=> some (a==b)
  | .s a,.s b=> some (a==b)
  | _,_=> none
def eqK:Nat→D→D→Option Bool
  | 0,.i k a,.i k' b=> if k=k' then some (a==b) else none
  | 1,.b a,.b b=> some (a==b)
  | 2,.s a,.s b=> some (a==b)
  | _,_,_=> none
def eqDs:List Nat→List D→List D→Option Bool
  | [],[],[]=> some true
  | k::ks,x::xs,y::ys=> match eqK k x y with
    | some true=> eqDs ks xs ys
    | some false=> some false
    | none=> none
  | _,_,_=> none
def eqV (ks:List Nat)(x y:V):Option Bool:=match ks with
  | [10]=> match x,y with
    | .d .ni,.d .ni=> some true
    | .d .ni,.d (.ifc ..)=> some false
    | .d (.ifc ..),.d .ni=> some false
    | _,_=> none
  | [11]=> match x,y with
    | .d (.sl _ nz _),.d (.sl 0 false [])=> some (!nz)
    | .own _ _ nz _ _,.d (.sl 0 false [])=> some (!nz)
    | .rsl ..,.d (.sl 0 false [])=> some false
    | _,_=> none
  | [12]=> match x,y with
    | .ptr ..,.d .np=> some false
    | .ep ..,.d .np=> some false
    | .d .np,.d .np=> some true
    | _,_=> none
  | [13]=> match x,y with
    | .map _,.d .nm=> some false
    | .d .nm,.d .nm=> some true
    | _,_=> none
  | 9::ks=> match x,y with
    | .agg xs,.agg ys=> match toDs xs,toDs ys with
      | some a,some b=> if a.length=ks.length∧b.length=ks.length then eqDs ks a b else none
      | _,_=> none
    | _,_=> none
  | [1]=> match x,y with
    | .d (.b a),.d (.b b)=> some (a==b)
    | _,_=> none
  | _=> none
def convV (k:IntKind):V→Option V
  | .d (.i _ n)=> some (.d (.i k (k.wrap n)))
  | _=> none
def byteCells (l:List UInt8):List D:=l.map fun b=> .i .u8 b.toNat
def bytesOf:List D→Option (List UInt8)
  | []=> some []
  | .i .u8 n::r=> match bytesOf r with
    | some l=> some (UInt8.ofNat n.toNat::l)
    | none=> none
  | _=> none
def lenS:V→Option Nat
  | .d (.s l)=> some l.length
  | _=> none
def lenV:V→Option Nat
  | .d (.sl n _ _)=> some n
  | .own _ n _ _ _=> some n
  | .rsl _ _ _ n _=> some n
  | _=> none
def intV:V→Option Int
  | .d (.i _ n)=> some n
  | _=> none
def lay {α:Type}(cs:List α)(off:Nat)(xs:List α):List α:=cs.take off++xs++cs.drop (off+xs.length)
def fillV:List V→List (Nat×Nat×V)→Option (List V)
  | cs,[]=> some cs
  | cs,(off,size,v)::r=> if v.ok1=true∧v.cs.length=size∧off+size≤cs.length then fillV (lay cs off v.cs) r else none
def partsV (P:Prog)(e:Env):List (Nat×Nat×Opd)→Option (List (Nat×Nat×V))
  | []=> some []
  | (o,s,x)::r=> match x.ev P e with
    | some v=> match partsV P e r with
      | some vs=> some ((o,s,v)::vs)
      | none=> none
    | none=> none
def reps {α:Type}(n:Nat)(z:List α):List α:=(List.replicate n z).flatten
/-! ### Operations on the state -/
def St.row (st:St)(id:Nat):Option (List V):=match st.heap[id]? with
  | some (some (.row cs))=> some cs
  | _=> none
def St.mapOf (st:St)(id:Nat):Option (List (D×V)):=match st.heap[id]? with
  | some (some (.map es))=> some es
  | _=> none
def St.setBlk (st:St)(id:Nat)(b:Blk):Option St:=if st.floor≤id then some {st with heap:=st.heap.set id (some b)} else none
def St.push (st:St)(b:Blk):St:={st with heap:=st.heap++ [some b]}
def cellsAt (st:St)(id off k:Nat):Option (List D):=match st.row id with
  | some cs=> if off+k≤cs.length then toDs ((cs.drop off).take k) else none
  | none=> none
def vw (size:Nat)(st:St):V→Option (Nat×List D)
  | .d (.sl n _ cs)=> some (n,cs)
  | .own _ n _ cs _=> some (n,cs)
  | .rsl sz id off n _=> if sz=size then(cellsAt st id off (n * size)).map fun ds=> (n,ds) else none
  | .d (.s l)=> if size=1 then some (l.length,byteCells l) else none
  | _=> none
def loadV (size:Nat)(agg:Bool)(st:St):V→Option V
  | .ptr id off=> match st.row id with
    | some cs=> if off+size≤cs.length then mkV agg ((cs.drop off).take size) else none
    | none=> none
  | .ep cells=> if 0 < size∧size≤cells.length then mkV agg (ofDs (cells.take size)) else none
  | _=> none
def storeV (size:Nat)(st:St)(p x:V):Option St:=match p with
  | .ptr id off=> match st.row id with
    | some cs=> if x.ok1=true∧x.cs.length=size∧off+size≤cs.length then st.setBlk id (.row (lay cs off x.cs)) else none
    | none=> none
  | _=> none
def faddrV (off:Nat):V→Option V
  | .ptr id o=> some (.ptr id (o+off))
  | .ep cells=> some (.ep (cells.drop off))
  | _=> none
def fieldV (off size:Nat)(agg:Bool):V→Option V
  | .agg cs=> if off+size≤cs.length then mkV agg ((cs.drop off).take size) else none
  | _=> none
def iaddrV (size:Nat)(x i:V):Option V:=match intV i with
  | none=> none
  | some i=> match x with
    | .d (.sl n _ cs)=> if 0≤i∧i < n then some (.ep (cs.drop (i.toNat * size))) else none
    | .own _ n _ cs _=> if 0≤i∧i < n then some (.ep (cs.drop (i.toNat * size))) else none
    | .rsl _ id off n _=> if 0≤i∧i < n then some (.ptr id (off+i.toNat * size)) else none
    | _=> none
def iaddrAV (len size:Nat)(p i:V):Option V:=match intV i with
  | none=> none
  | some i=> if 0≤i∧i < len then faddrV (i.toNat * size) p else none
def idxV (len size:Nat)(agg:Bool)(x i:V):Option V:=match intV i with
  | none=> none
  | some i=> if 0≤i∧i < len then fieldV (i.toNat * size) size agg x else none
def idxSV (x i:V):Option V:=match x,intV i with
  | .d (.s l),some i=> if 0≤i then(l[i.toNat]?).map fun b=> .d (.i .u8 b.toNat) else none
  | _,_=> none
def bnd (x:Option V)(dflt:Nat)(y:Nat):Option Nat:=match x with
  | none=> some dflt
  | some v=> match intV v with
    | some i=> if 0≤i∧i≤y then some i.toNat else none
    | none=> none
def bnds (n cap:Nat)(lo hi mx:Option V):Option (Nat×Nat×Nat):=
  match bnd mx cap cap with
  | none=> none
  | some m=> match bnd hi n m with
    | none=> none
    | some h=> match bnd lo 0 h with
      | none=> none
      | some l=> some (l,h,m)
def slcV (size:Nat)(x:V)(lo hi mx:Option V):Option V:=match x with
  | .d (.sl n nz cs)=> if mx.isSome then none else(bnds n n lo hi none).map fun(l,h,_)=> .d (.sl (h - l) nz ((cs.drop (l * size)).take ((h - l) * size)))
  | .own _ n nz cs _=> if mx.isSome then none else(bnds n n lo hi none).map fun(l,h,_)=> .d (.sl (h - l) nz ((cs.drop (l * size)).take ((h - l) * size)))
  | .rsl sz id off n cap=> if sz=size then(bnds n cap lo hi mx).map fun(l,h,m)=> .rsl size id (off+l * size) (h - l) (m - l) else none
  | _=> none
def slcSV (x:V)(lo hi:Option V):Option V:=match x with
  | .d (.s l)=> (bnds l.length l.length lo hi none).map fun(a,h,_)=> .d (.s ((l.drop a).take (h - a)))
  | _=> none
def slcAV (len size:Nat)(x:V)(lo hi mx:Option V):Option V:=match x with
  | .ptr id off=> (bnds len len lo hi mx).map fun(l,h,m)=> .rsl size id (off+l * size) (h - l) (m - l)
  | .ep cs=> if mx.isSome then none else(bnds len len lo hi none).map fun(l,h,_)=> .d (.sl (h - l) true ((cs.drop (l * size)).take ((h - l) * size)))
  | _=> none
def room (bytes:Nat)(x:V):Option Nat:=match x with
  | .d (.i _ n)=> if 0≤n∧n.toNat * bytes≤281474976710656∧n≤281474976710656 then some n.toNat else none
  | _=> none
def appV (size bytes:Nat)(st:St)(s x:V):Option (V×St):=match s with
  | .own sz n nz cs t=> match vw size st x with
    | some (m,ds)=>
      if sz=size∧st.tfloor≤t∧st.tips[t]? =some n∧cs.length=n * size∧(n+m) * bytes≤140737488355328∧n+m≤140737488355328∧ds.length=m * size then
       some (.own size (n+m) (nz || decide (0 < n+m)) (cs++ds) t,{st with tips:=st.tips.set t (n+m)})
      else none
    | none=> none
  | .d (.sl 0 false [])=> match vw size st x with
    | some (m,ds)=>
      if m * bytes≤140737488355328∧m≤140737488355328∧ds.length=m * size then
       some (.own size m (decide (0 < m)) ds st.tips.length,{st with tips:=st.tips++ [m]})
      else none
    | none=> none
  | _=> none
def appZV (size bytes:Nat)(z:List D)(st:St)(s x:V):Option (V×St):=match x with
  | .d (.i _ n)=> if 0≤n∧n≤140737488355328 then appV size bytes st s (.d (.sl n.toNat true (reps n.toNat z))) else none
  | _=> none
def clrV (size:Nat)(z:List D)(st:St)(x:V):Option (V×St):=match x with
  | .rsl sz id off n _=>
    if sz=size∧0 < n then match st.row id with
     | some cs=> if off+n * size≤cs.length∧z.length=size then(st.setBlk id (.row (lay cs off (ofDs (reps n z))))).map fun s=> (.tup [],s) else none
     | none=> none
    else if n=0 then some (.tup [],st) else none
  | .d (.sl 0 _ _)=> some (.tup [],st)
  | _=> none
def b2sV (st:St)(x:V):Option V:=match x with
  | .d (.s _)=> none
  | x=> match vw 1 st x with
    | some (n,ds)=> if ds.length=n then(bytesOf ds).map fun l=> .d (.s l) else none
    | none=> none
def cpyV (size:Nat)(st:St)(dst src:V):Option (V×St):=match dst with
  | .rsl sz id off n _=> if sz≠size then none else match st.row id,vw size st src with
    | some cs,some (m,ds)=>
      if off+n * size≤cs.length∧ds.length=m * size then
       (st.setBlk id (.row (lay cs off (ofDs (ds.take (min m n * size)))))).map fun st'=> (.d (.i .i64 (min m n:Nat)),st')
      else none
    | _,_=> none
  | .d (.sl n _ _)=> if n≠0 then none else match vw size st src with
    | some (m,ds)=> if ds.length=m * size then some (.d (.i .i64 0),st) else none
    | none=> none
  | _=> none
def keyOk (str:Bool):D→Bool
  | .i .. => !str
  | .s _=> str
  | _=> false
def findE (k:D):List (D×V)→Option (Option V)
  | []=> some none
  | (x,v)::r=> match eqD k x with
    | some true=> some (some v)
    | some false=> findE k r
    | none=> none
def setE (k:D)(v:V):List (D×V)→Option (List (D×V))
  | []=> some [(k,v)]
  | (x,u)::r=> match eqD k x with
    | some true=> some ((k,v)::r)
    | some false=> (setE k v r).map fun r'=> (x,u)::r'
    | none=> none
def lookOut (ok:Bool)(z:V)(r:Option V):V:=if ok then .tup [r.getD z,.d (.b r.isSome)]else r.getD z
def lookV (str ok:Bool)(z:V)(st:St)(m k:V):Option V:=
  match k with
  | .d k=> if keyOk str k then match m with
    | .d .nm=> some (lookOut ok z none)
    | .map id=> match st.mapOf id with
      | some es=> (findE k es).map (lookOut ok z)
      | none=> none
    | _=> none
    else none
  | _=> none
def mapSetV (str:Bool)(st:St)(m k x:V):Option St:=match m,k with
  | .map id,.d k=> if keyOk str k then match st.mapOf id with
    | some es=> match setE k x es with
      | some es'=> st.setBlk id (.map es')
      | none=> none
    | none=> none
    else none
  | _,_=> none
def mkIV (tag:Nat)(agg:Bool)(x:V):Option V:=match x with
  | .agg cs=> if agg then(toDs cs).map fun ds=> .d (.ifc tag true ds) else none
  | x=> if agg then none else(toD x).map fun y=> .d (.ifc tag false [y])
def assertV (tag:Nat)(others:List Nat)(ok:Bool)(z:V)(x:V):Option V:=match x with
  | .d .ni=> if ok then some (.tup [z,.d (.b false)]) else none
  | .d (.ifc u agg ds)=> if u=tag then(mkV agg (ofDs ds)).map fun v=> if ok then .tup [v,.d (.b true)]else v
    else if ok && others.contains u then some (.tup [z,.d (.b false)]) else none
  | _=> none
def minV (lt:Int→Int→Bool):V→V→Option V
  | .d (.i k a),.d (.i k' b)=> if k=k' then some (.d (.i k (if lt b a then b else a))) else none
  | _,_=> none
def escC (st:St)(h t:Nat):V→Option V
  | .d x=> some (.d x)
  | .own sz n nz cs k=> if k < t then some (.own sz n nz cs k) else some (.d (.sl n nz cs))
  | .ptr id off=> if id < h then some (.ptr id off) else none
  | .ep cs=> some (.ep cs)
  | .map id=> if id < h then some (.map id) else none
  | .fn f caps=> if caps.all (fun p=> decide (p.1 < h)) then some (.fn f caps) else none
  | .rsl size id off n cap=> if id < h then some (.rsl size id off n cap) else(cellsAt st id off (n * size)).map fun ds=> .d (.sl n true ds)
  | _=> none
def escs (st:St)(h t:Nat):List V→Option (List V)
  | []=> some []
  | v::r=> match escC st h t v with
    | some x=> match escs st h t r with
      | some xs=> some (x::xs)
      | none=> none
    | none=> none
def esc1 (st:St)(h t:Nat):V→Option V
  | .agg cs=> (escs st h t cs).map .agg
  | v=> escC st h t v
def esc1s (st:St)(h t:Nat):List V→Option (List V)
  | []=> some []
  | v::r=> match esc1 st h t v with
    | some x=> match esc1s st h t r with
      | some xs=> some (x::xs)
      | none=> none
    | none=> none
def esc (st:St)(h t:Nat):V→Option V
  | .tup vs=> (esc1s st h t vs).map .tup
  | v=> esc1 st h t v
def Env.del (i:Nat)(e:Env):Env:=e.filter fun p=> p.1 !=i
def escEnv (st:St)(h t:Nat):Env→Env
  | []=> []
  | (i,v)::r=> match esc1 st h t v with
    | some x=> (i,x)::escEnv st h t r
    | none=> (escEnv st h t r).del i
def apartV:V→V→Bool
  | .ptr i _,.ptr j _=> decide (i≠j)
  | .ep _,_=> true
  | _,_=> false
def apartE (e:Env)(p:V):List Nat→Bool
  | []=> true
  | q::r=> (match e.get q with
    | some v=> apartV v p
    | none=> false) && apartE e p r
/-! ### Runs -/
abbrev CallF:=Nat→List V→St→Option (V×St)
def evo (P:Prog)(e:Env):Option Opd→Option (Option V)
  | none=> some none
  | some x=> (x.ev P e).map some
def pureR (st:St)(x:Option V):Option (V×St):=match x with
  | some v=> some (v,st)
  | none=> none
def stR (x:Option St):Option (V×St):=match x with
  | some st=> some (.un,st)
  | none=> none
def bind1 (x:Option V)(f:V→Option (V×St)):Option (V×St):=match x with
  | some v=> f v
  | none=> none
def capsV:List V→Option (List (Nat×Nat))
  | []=> some []
  | .ptr id off::r=> match capsV r with
    | some cs=> some ((id,off)::cs)
    | none=> none
  | _=> none
def capPs (caps:List (Nat×Nat)):List V:=caps.map fun p=> .ptr p.1 p.2
def zeroV (z:List D)(agg:Bool):V:=if agg then .agg (ofDs z) else .d (z.headD .np)
def opS (P:Prog)(call:CallF)(e:Env)(st:St):SOp→Option (V×St)
  | .mov x=> pureR st (x.ev P e)
  | .tok size x=> bind1 (x.ev P e) fun v=> match v with
    | .d (.sl 0 false [])=> some (.own size 0 false [] st.tips.length,{st with tips:=st.tips++ [0]})
    | _=> none
  | .pick c a b=> bind1 (c.ev P e) fun c=> match c with
    | .d (.b c)=> bind1 (a.ev P e) fun a=> bind1 (b.ev P e) fun b=> some (if c then a else b,st)
    | _=> none
  | .bin op x y=> bind1 (x.ev P e) fun x=> bind1 (y.ev P e) fun y=> pureR st (binV op x y)
  | .eqv neg ks x y=> bind1 (x.ev P e) fun x=> bind1 (y.ev P e) fun y=> pureR st ((eqV ks x y).map fun b=> .d (.b (if neg then !b else b)))
  | .un op x=> bind1 (x.ev P e) fun x=> pureR st (unV op x)
  | .conv k x=> bind1 (x.ev P e) fun x=> pureR st (convV k x)
  | .s2b x=> bind1 (x.ev P e) fun x=> match x with
    | .d (.s l)=> some (.d (.sl l.length true (byteCells l)),st)
    | _=> none
  | .b2s x=> bind1 (x.ev P e) fun x=> pureR st (b2sV st x)
  | .build z ps=> match partsV P e ps with
    | some vs=> pureR st ((fillV (ofDs z) vs).map .agg)
    | none=> none
  | .lits n z ps=> match partsV P e ps with
    | some vs=> pureR st (match fillV (ofDs (reps n z)) vs with
      | some cs=> (toDs cs).map fun ds=> .d (.sl n true ds)
      | none=> none)
    | none=> none
  | .litsO n z ps=> match partsV P e ps with
    | some vs=> match fillV (ofDs (reps n z)) vs with
      | some cs=> match toDs cs with
        | some ds=> some (.own z.length n true ds st.tips.length,{st with tips:=st.tips++ [n]})
        | none=> none
      | none=> none
    | none=> none
  | .litsR n z ps=> match partsV P e ps with
    | some vs=> match fillV (ofDs (reps n z)) vs with
      | some cs=> some (.rsl z.length st.heap.length 0 n n,st.push (.row cs))
      | none=> none
    | none=> none
  | .box x=> bind1 (x.ev P e) fun v=> if v.ok1 then some (.ptr st.heap.length 0,st.push (.row v.cs)) else none
  | .boxI x=> bind1 (x.ev P e) fun v=> if v.ok1 then pureR st ((toDs v.cs).map .ep) else none
  | .alloc z=> some (.ptr st.heap.length 0,st.push (.row (ofDs z)))
  | .load size agg p=> bind1 (p.ev P e) fun p=> pureR st (loadV size agg st p)
  | .store size p x=> bind1 (p.ev P e) fun p=> bind1 (x.ev P e) fun x=> stR (storeV size st p x)
  | .storeX size p x qs=> bind1 (p.ev P e) fun p=> bind1 (x.ev P e) fun x=> if apartE e p qs=true then stR (storeV size st p x) else none
  | .faddr off p=> bind1 (p.ev P e) fun p=> pureR st (faddrV off p)
  | .field off size agg x=> bind1 (x.ev P e) fun x=> pureR st (fieldV off size agg x)
  | .iaddr size x i=> bind1 (x.ev P e) fun x=> bind1 (i.ev P e) fun i=> pureR st (iaddrV size x i)
  | .iaddrA len size p i=> bind1 (p.ev P e) fun p=> bind1 (i.ev P e) fun i=> pureR st (iaddrAV len size p i)
  | .idx len size agg x i=> bind1 (x.ev P e) fun x=> bind1 (i.ev P e) fun i=> pureR st (idxV len size agg x i)
  | .idxS x i=> bind1 (x.ev P e) fun x=> bind1 (i.ev P e) fun i=> pureR st (idxSV x i)
  | .slc size x lo hi mx=> bind1 (x.ev P e) fun x=> match evo P e lo,evo P e hi,evo P e mx with
    | some lo,some hi,some mx=> pureR st (slcV size x lo hi mx)
    | _,_,_=> none
  | .slcS x lo hi=> bind1 (x.ev P e) fun x=> match evo P e lo,evo P e hi with
    | some lo,some hi=> pureR st (slcSV x lo hi)
    | _,_=> none
  | .slcA len size x lo hi mx=> bind1 (x.ev P e) fun x=> match evo P e lo,evo P e hi,evo P e mx with
    | some lo,some hi,some mx=> pureR st (slcAV len size x lo hi mx)
    | _,_,_=> none
  | .mkR bytes z l c=> bind1 (l.ev P e) fun l=> bind1 (c.ev P e) fun c=> match room bytes l,room bytes c with
    | some n,some m=> if n≤m then some (.rsl z.length st.heap.length 0 n m,st.push (.row (ofDs (reps m z)))) else none
    | _,_=> none
  | .mkD bytes z l c=> bind1 (l.ev P e) fun l=> bind1 (c.ev P e) fun c=> match room bytes l,room bytes c with
    | some n,some m=> if n≤m then some (.d (.sl n true (reps n z)),st) else none
    | _,_=> none
  | .mkO bytes size z l c=> bind1 (l.ev P e) fun l=> bind1 (c.ev P e) fun c=> match room bytes l,room bytes c with
    | some n,some m=> if n≤m∧z.length=size then some (.own size n true (reps n z) st.tips.length,{st with tips:=st.tips++ [n]}) else none
    | _,_=> none
  | .len str x=> bind1 (x.ev P e) fun x=> pureR st ((if str then lenS x else lenV x).map fun(n:Nat)=> V.d (.i .i64 (n:Int)))
  | .lenA n=> some (.d (.i .i64 n),st)
  | .app size bytes s x=> bind1 (s.ev P e) fun s=> bind1 (x.ev P e) fun x=> appV size bytes st s x
  | .appR .. => none
  | .appZ size bytes z s x=> bind1 (s.ev P e) fun s=> bind1 (x.ev P e) fun x=> appZV size bytes z st s x
  | .clr size z x=> bind1 (x.ev P e) fun x=> clrV size z st x
  | .cpy size a b=> bind1 (a.ev P e) fun a=> bind1 (b.ev P e) fun b=> cpyV size st a b
  | .mkMap r=> match evo P e r with
    | some none=> some (.map st.heap.length,st.push (.map []))
    | some (some v)=> match intV v with
      | some _=> some (.map st.heap.length,st.push (.map []))
      | none=> none
    | none=> none
  | .lenM m=> bind1 (m.ev P e) fun m=> match m with
    | .d .nm=> some (.d (.i .i64 0),st)
    | .map id=> match st.mapOf id with
      | some es=> some (.d (.i .i64 es.length),st)
      | none=> none
    | _=> none
  | .look str ok z za m k=> bind1 (m.ev P e) fun m=> bind1 (k.ev P e) fun k=> pureR st (lookV str ok (zeroV z za) st m k)
  | .mapSet str m k x=> bind1 (m.ev P e) fun m=> bind1 (k.ev P e) fun k=> bind1 (x.ev P e) fun x=> if x.ok1 then stR (mapSetV str st m k x) else none
  | .mkI tag agg x=> bind1 (x.ev P e) fun x=> pureR st (mkIV tag agg x)
  | .assertT tag others ok z za x=> bind1 (x.ev P e) fun x=> pureR st (assertV tag others ok (zeroV z za) x)
  | .extract i x=> bind1 (x.ev P e) fun x=> match x with
    | .tup vs=> pureR st (vs[i]?)
    | _=> none
  | .nilChk x=> bind1 (x.ev P e) fun x=> match x with
    | .ptr id off=> some (.ptr id off,st)
    | .ep cs=> some (.ep cs,st)
    | .d (.ifc t a c)=> some (.d (.ifc t a c),st)
    | _=> none
  | .call f args=> match evs P e args with
    | some vs=> call f vs st
    | none=> none
  | .invoke table r args=> bind1 (r.ev P e) fun r=> match r with
    | .d (.ifc tag agg ds)=> match table.lookup tag,mkV agg (ofDs ds),evs P e args with
      | some f,some v,some vs=> call f (v::vs) st
      | _,_,_=> none
    | _=> none
  | .mx x y=> bind1 (x.ev P e) fun x=> bind1 (y.ev P e) fun y=> pureR st (minV (fun b a=> decide (a < b)) x y)
  | .mn x y=> bind1 (x.ev P e) fun x=> bind1 (y.ev P e) fun y=> pureR st (minV (fun b a=> decide (b < a)) x y)
  | .mkFn f caps=> match evs P e caps with
    | some vs=> pureR st ((capsV vs).map fun cs=> .fn f cs)
    | none=> none
  | .callC fs x args=> bind1 (x.ev P e) fun x=> match x with
    | .fn f caps=> if fs.contains f then match evs P e args with
      | some vs=> call f (vs++capPs caps) st
      | none=> none
      else none
    | _=> none
def put (e:Env)(dst:Option Nat)(v:V):Env:=match dst with
  | some d=> (d,v)::e
  | none=> e
def wants (ops:List SOper)(e:Env)(g:Option (Nat×Bool)):Option Bool:=match g with
  | none=> some true
  | some (j,b)=> match ops[j]? with
    | some o=> match o.dst with
      | some d=> match e.get d with
        | some (.d (.b x))=> some (x==b)
        | some .un=> some false
        | _=> none
      | none=> none
    | none=> none
def opsS (P:Prog)(call:CallF)(all:List SOper):List SOper→Env→St→Option (Env×St)
  | [],e,st=> some (e,st)
  | o::r,e,st=> match wants all e o.guard with
    | some true=> match opS P call e st o.op with
      | some (v,st')=> opsS P call all r (put e o.dst v) st'
      | none=> none
    | some false=> opsS P call all r (put e o.dst .un) st
    | none=> none
inductive Ex where
  | normal
  | exit (id:Nat)
  | ret
abbrev Out:=Ex×Env×St
def cutR (st:St)(trunc:Bool)(r:Out):Out:=
  if trunc then(r.1,escEnv r.2.2 st.heap.length st.tips.length r.2.1,{st with tips:=r.2.2.tips.take st.tips.length}) else r
def enterR (st:St)(trunc:Bool):St:=if trunc then {st with floor:=st.heap.length} else st
def round (live:List Nat)(trunc:Bool)(step:Env→St→Option Out)(e:Env)(st:St):Option Out:=
  (step (mask live e) (enterR st trunc)).map (cutR st trunc)
def iter (step:Env→St→Option Out):Nat→Env→St→Option Out
  | 0,_,_=> none
  | n+1,e,st=> match step e st with
    | some (.normal,e',st')=> iter step n e' st'
    | r=> r
def codeS (P:Prog)(call:CallF)(k:Nat):SCode→Env→St→Option Out
  | .skip,e,st=> some (.normal,e,st)
  | .region ops _ _,e,st=> match opsS P call ops ops e st with
    | some (e',st')=> some (.normal,e',st')
    | none=> none
  | .seq a b,e,st=> match codeS P call k a e st with
    | some (.normal,e',st')=> codeS P call k b e' st'
    | r=> r
  | .cond c a b,e,st=> match c.ev P e with
    | some (.d (.b true))=> codeS P call k a e st
    | some (.d (.b false))=> codeS P call k b e st
    | _=> none
  | .block id c,e,st=> match codeS P call k c e st with
    | some (.exit j,e',st')=> if j=id then some (.normal,e',st') else some (.exit j,e',st')
    | r=> r
  | .loop live tr c,e,st=> iter (round live tr (codeS P call k c)) k e st
  | .exit id,e,st=> some (.exit id,e,st)
  | .ret,e,st=> some (.ret,e,st)
  | .keep live c,e,st=> codeS P call k c (mask live e) st
def initE:Nat→List V→Env
  | _,[]=> []
  | n,v::vs=> (n,v)::initE (n+1) vs
def resOne (e:Env)(st:St):SRes→Option V
  | .tmp t=> e.get t
  | .cell t size agg=> match e.get t with
    | some p=> loadV size agg st p
    | none=> none
def resAll (e:Env)(st:St):List SRes→Option (List V)
  | []=> some []
  | r::rs=> match resOne e st r with
    | some v=> if v.ok1 then match resAll e st rs with
      | some vs=> some (v::vs)
      | none=> none
      else none
    | none=> none
def resV (e:Env)(st:St)(rs:List SRes):Option V:=match rs with
  | [r]=> resOne e st r
  | rs=> (resAll e st rs).map .tup
def finish (fn:SFn)(st:St)(r:Option Out):Option (V×St):=match r with
  | some (.exit _,_,_)=> none
  | some (_,e,st')=> match resV e st' fn.results with
    | some v=> if fn.pure then(esc st' st.heap.length st.tips.length v).map fun v=> (v,st) else some (v,st')
    | none=> none
  | none=> none
def start (fn:SFn)(st:St):St:=if fn.pure then {st with floor:=st.heap.length,tfloor:=st.tips.length} else st
def st0:St:={heap:= [],tips:= [],floor:=0,tfloor:=0}
def closeC:V→Option V
  | .d x=> some (.d x)
  | .own _ n nz cs _=> some (.d (.sl n nz cs))
  | .ep cs=> some (.ep cs)
  | _=> none
def closeCs:List V→Option (List V)
  | []=> some []
  | v::r=> match closeC v with
    | some x=> match closeCs r with
      | some xs=> some (x::xs)
      | none=> none
    | none=> none
def close1:V→Option V
  | .agg cs=> (closeCs cs).map .agg
  | v=> closeC v
def closeA:List V→Option (List V)
  | []=> some []
  | v::r=> match close1 v with
    | some x=> match closeA r with
      | some xs=> some (x::xs)
      | none=> none
    | none=> none
def SFn.shut (fn:SFn):Bool:=fn.closed
def enterF (fn:SFn)(run:Env→St→Option Out)(args:List V)(st:St):Option (V×St):=
  if fn.shut then(if fn.pure then match closeA args with
   | some as=> match finish fn st0 (run (initE 0 as) (start fn st0)) with
     | some r=> some (r.1,st)
     | none=> none
   | none=> none
   else none)
  else finish fn st (run (initE 0 args) (start fn st))
def runF (P:Prog):Nat→CallF
  | 0,_,_,_=> none
  | k+1,f,args,st=> match P.fn f with
    | some fn=> if args.length=fn.nparams then enterF fn (codeS P (runF P k) k fn.body) args st else none
    | none=> match P.prim f with
      | some g=> pureR st (g args st)
      | none=> none
end Go.Sh
set_option linter.unusedVariables false
namespace Go.Sh
open Go.RowKit
inductive All2 {α β:Type} (R:α→β→Prop):List α→List β→Prop where
  | nil:All2 R [] []
  | cons {x y xs ys}:R x y→All2 R xs ys→All2 R (x::xs) (y::ys)
theorem All2.length {α β:Type}{R:α→β→Prop}{xs:List α}{ys:List β}(h:All2 R xs ys):xs.length=ys.length:=by
  induction h with
  | nil=> rfl
  | cons _ _ ih=> simp[ih]
theorem All2.mono {α β:Type}{R S:α→β→Prop}(hs:∀ x y,R x y→S x y){xs:List α}{ys:List β}(h:All2 R xs ys):All2 S xs ys:=by
  induction h with
  | nil=> exact .nil
  | cons h _ ih=> exact .cons (hs _ _ h) ih
theorem All2.get {α β:Type}{R:α→β→Prop}{xs:List α}{ys:List β}(h:All2 R xs ys):∀ {i:Nat} {x:α},xs[i]? =some x→∃ y,ys[i]? =some y∧R x y:=by
  induction h with
  | nil=> intro i x hx;simp at hx
  | cons h _ ih=>
    intro i x hx
    cases i with
    | zero=> simp at hx;subst hx;exact⟨_,rfl,h⟩
    | succ i=> simp at hx;simpa using ih hx
theorem All2.append {α β:Type}{R:α→β→Prop}{xs xs':List α}{ys ys':List β}(h:All2 R xs ys)(h':All2 R xs' ys'):All2 R (xs++xs') (ys++ys'):=by
  induction h with
  | nil=> exact h'
  | cons h _ ih=> exact .cons h ih
theorem All2.take {α β:Type}{R:α→β→Prop}{xs:List α}{ys:List β}(h:All2 R xs ys):∀ n,All2 R (xs.take n) (ys.take n):=by
  induction h with
  | nil=> intro n;simp;exact .nil
  | cons h _ ih=> intro n;cases n with
    | zero=> exact .nil
    | succ n=> exact .cons h (ih n)
theorem All2.drop {α β:Type}{R:α→β→Prop}{xs:List α}{ys:List β}(h:All2 R xs ys):∀ n,All2 R (xs.drop n) (ys.drop n):=by
  induction h with
  | nil=> intro n;simp;exact .nil
  | cons h t ih=> intro n;cases n with
    | zero=> exact .cons h t
    | succ n=> exact ih n
theorem All2.of_get {α β:Type}{R:α→β→Prop}{xs:List α}:∀ {ys:List β},xs.length=ys.length→(∀ (i:Nat) x y,xs[i]? =some x→ys[i]? =some y→R x y)→All2 R xs ys:=by
  induction xs with
  | nil=> intro ys hl _;cases ys with
    | nil=> exact .nil
    | cons y ys=> simp at hl
  | cons x xs ih=> intro ys hl h;cases ys with
    | nil=> simp at hl
    | cons y ys=> exact .cons (h 0 x y rfl rfl) (ih (by simpa using hl) fun i a b ha hb=> h (i+1) a b (by simpa using ha) (by simpa using hb))
structure Link where
  ty:Nat→TypeId
  fn:Nat→FuncId
  gl:Nat→Nat
  ok:World→Prop
abbrev Imm:=Nat→Nat→Value→Prop
mutual
def RepD (L:Link)(I:Imm):D→Value→Prop
  | .i k n,v=> v= .int k n
  | .b b,v=> v= .bool b
  | .s l,v=> v= .string ⟨l.toArray⟩
  | .np,v=> v= .pointer none
  | .nm,v=> v= .map none
  | .ni,v=> v= .nilIface
  | .nf,v=> v= .nilFunc
  | .any,v=> v.cells= #[v]∧v.oneCell'=true
  | .sl n nz cs,v=> ∃ A cap,v= .slice A n cap∧n≤cap∧nz=A.isSome∧(A=none→cap=0)∧(cs= []∨∃ b o,A=some ⟨b,o,none⟩∧RepL L I cs b o)
  | .ifc tag agg cs,v=> ∃ l:List Value,v= .iface (L.ty tag) (if agg then .agg l.toArray else l.headD undef)∧(agg=false→l.length=1)∧RepA L I cs l
def RepL (L:Link)(I:Imm):List D→Nat→Nat→Prop
  | [],_,_=> True
  | c::cs,b,o=> (∃ x,I b o x∧RepD L I c x)∧RepL L I cs b (o+1)
def RepA (L:Link)(I:Imm):List D→List Value→Prop
  | [],l=> l= []
  | c::cs,l=> ∃ x r,l=x::r∧RepD L I c x∧RepA L I cs r
end
mutual
theorem RepD.mono {L:Link}{I J:Imm}(hIJ:∀ b o x,I b o x→J b o x):∀ (d:D) (v:Value),RepD L I d v→RepD L J d v
  | .i k n,v,h=> by simpa only[RepD]using h
  | .b b,v,h=> by simpa only[RepD]using h
  | .s l,v,h=> by simpa only[RepD]using h
  | .np,v,h=> by simpa only[RepD]using h
  | .nm,v,h=> by simpa only[RepD]using h
  | .ni,v,h=> by simpa only[RepD]using h
  | .nf,v,h=> by simpa only[RepD]using h
  | .any,v,h=> by simpa only[RepD]using h
  | .sl n nz cs,v,h=> by
    simp only[RepD]at h ⊢
    obtain⟨A,cap,h1,h2,h3,h4,h5⟩:=h
    refine⟨A,cap,h1,h2,h3,h4,h5.imp id ?_⟩
    rintro⟨b,o,ha,hl⟩
    exact⟨b,o,ha,RepL.mono hIJ cs b o hl⟩
  | .ifc tag agg cs,v,h=> by
    simp only[RepD]at h ⊢
    obtain⟨l,h1,h2,h3⟩:=h
    exact⟨l,h1,h2,RepA.mono hIJ cs l h3⟩
theorem RepL.mono {L:Link}{I J:Imm}(hIJ:∀ b o x,I b o x→J b o x):∀ (cs:List D) (b o:Nat),RepL L I cs b o→RepL L J cs b o
  | [],b,o,_=> by simp only[RepL]
  | c::cs,b,o,h=> by
    simp only[RepL]at h ⊢
    obtain⟨⟨x,hx,hd⟩,hr⟩:=h
    exact⟨⟨x,hIJ _ _ _ hx,RepD.mono hIJ c x hd⟩,RepL.mono hIJ cs b (o+1) hr⟩
theorem RepA.mono {L:Link}{I J:Imm}(hIJ:∀ b o x,I b o x→J b o x):∀ (cs:List D) (l:List Value),RepA L I cs l→RepA L J cs l
  | [],l,h=> by simpa only[RepA]using h
  | c::cs,l,h=> by
    simp only[RepA]at h ⊢
    obtain⟨x,r,h1,h2,h3⟩:=h
    exact⟨x,r,h1,RepD.mono hIJ c x h2,RepA.mono hIJ cs r h3⟩
end
theorem RepA.all2 {L:Link}{I:Imm}:∀ {cs:List D} {l:List Value},RepA L I cs l↔All2 (RepD L I) cs l
  | [],l=> by
    simp only[RepA]
    constructor
    · rintro rfl;exact .nil
    · intro h;cases h;rfl
  | c::cs,l=> by
    simp only[RepA]
    constructor
    · rintro⟨x,r,rfl,h1,h2⟩;exact .cons h1 (RepA.all2.1 h2)
    · intro h;cases h with
      | cons h1 h2=> exact⟨_,_,rfl,h1,RepA.all2.2 h2⟩
theorem RepL.get {L:Link}{I:Imm}:∀ {cs:List D} {b o:Nat},RepL L I cs b o→∀ {j:Nat} {c:D},cs[j]? =some c→∃ x,I b (o+j) x∧RepD L I c x
  | [],b,o,_,j,c,h=> by simp at h
  | d::cs,b,o,h,j,c,hj=> by
    simp only[RepL]at h
    cases j with
    | zero=> simp at hj;subst hj;simpa using h.1
    | succ j=>
      have:=RepL.get h.2 (j:=j) (by simpa using hj)
      rwa [show o+1+j=o+(j+1) by omega]at this
theorem RepL.of {L:Link}{I:Imm}:∀ {cs:List D} {b o:Nat},(∀ j c,cs[j]? =some c→∃ x,I b (o+j) x∧RepD L I c x)→RepL L I cs b o
  | [],b,o,_=> by simp only[RepL]
  | d::cs,b,o,h=> by
    simp only[RepL]
    refine⟨by simpa using h 0 d rfl,RepL.of fun j c hj=> ?_⟩
    have:=h (j+1) c (by simpa using hj)
    rwa [show o+(j+1)=o+1+j by omega]at this
theorem RepL.drop {L:Link}{I:Imm}{cs:List D}{b o:Nat}(h:RepL L I cs b o)(k:Nat):RepL L I (cs.drop k) b (o+k):=
  RepL.of fun j c hj=> by
    rw[List.getElem?_drop]at hj
    have:=h.get hj
    rwa [show o+k+j=o+(k+j) by omega]
theorem RepL.take {L:Link}{I:Imm}{cs:List D}{b o:Nat}(h:RepL L I cs b o)(k:Nat):RepL L I (cs.take k) b o:=
  RepL.of fun j c hj=> by
    rw[List.getElem?_take]at hj
    split at hj
    · exact h.get hj
    · cases hj
theorem RepL.vals {L:Link}{I:Imm}:∀ {cs:List D} {b o:Nat},RepL L I cs b o→∃ l:List Value,All2 (RepD L I) cs l∧∀ j x,l[j]? =some x→I b (o+j) x
  | [],b,o,_=> ⟨[],.nil,fun j x h=> by simp at h⟩
  | c::cs,b,o,h=> by
    simp only[RepL]at h
    obtain⟨⟨x,hx,hd⟩,hr⟩:=h
    obtain⟨l,h1,h2⟩:=RepL.vals hr
    refine⟨x::l,.cons hd h1,fun j y hj=> ?_⟩
    cases j with
    | zero=> simp at hj;subst hj;simpa using hx
    | succ j=>
      have:=h2 j y (by simpa using hj)
      rwa [show o+1+j=o+(j+1) by omega]at this
structure Tok where
  v:Value
  e:TypeId
  size:Nat
  n:Nat
structure K where
  L:Link
  w0:World
  w:World
  wr:Nat→Nat→Prop
  ρ:List Nat
  tk:List Tok
def K.imm (κ:K):Imm:=fun b o x=> κ.w.cell? ⟨b,o,none⟩=some x∧¬ κ.wr b o
def RepP (κ:K)(p:Nat×Nat)(v:Value):Prop:=∃ b,κ.ρ[p.1]? =some b∧v= .pointer (some ⟨b,p.2,none⟩)
def RepC (κ:K):V→Value→Prop
  | .d x,v=> RepD κ.L κ.imm x v
  | .own sz n nz cs t,v=> RepD κ.L κ.imm (.sl n nz cs) v∧∃ tok,κ.tk[t]? =some tok∧tok.size=sz∧n≤tok.n∧(tok.n=n→tok.v=v)
  | .ptr id off,v=> ∃ b,κ.ρ[id]? =some b∧v= .pointer (some ⟨b,off,none⟩)
  | .ep cs,v=> ∃ A,v= .pointer (some A)∧(cs= []∨∃ b o,A=⟨b,o,none⟩∧RepL κ.L κ.imm cs b o)
  | .rsl _ id off n cap,v=> ∃ b o,κ.ρ[id]? =some b∧v= .slice (some ⟨b,o,none⟩) n cap∧n≤cap∧(cap=0∨o=off)
  | .map id,v=> ∃ b,κ.ρ[id]? =some b∧v= .map (some b)
  | .fn f caps,v=> ∃ l:List Value,v= .func (.func (κ.L.fn f)) #[] l.toArray∧All2 (RepP κ) caps l
  | .agg _,_=> False
  | .tup _,_=> False
  | .un,_=> False
def Rep1 (κ:K):V→Value→Prop
  | .agg cs,v=> ∃ l:List Value,v= .agg l.toArray∧All2 (RepC κ) cs l
  | .un,v=> v=undef
  | x,v=> RepC κ x v
def Rep (κ:K):V→Value→Prop
  | .tup vs,v=> ∃ l:List Value,v= .tuple l.toArray∧All2 (Rep1 κ) vs l
  | x,v=> Rep1 κ x v
structure K.le (κ κ':K):Prop where
  L:κ'.L=κ.L
  w0:κ'.w0=κ.w0
  imm:∀ b o x,κ.imm b o x→κ'.imm b o x
  ρ:∀ (i:Nat) (b:Nat),κ.ρ[i]? =some b→κ'.ρ[i]? =some b
  tk:∀ (t:Nat) (tok:Tok),κ.tk[t]? =some tok→∃ tok',κ'.tk[t]? =some tok'∧tok'.size=tok.size∧tok.n≤tok'.n∧(tok'.n=tok.n→tok'.v=tok.v)
  wr:∀ b o,b < κ.w0.heap.size→κ.wr b o→κ'.wr b o
theorem K.le.refl (κ:K):κ.le κ:=⟨rfl,rfl,fun _ _ _ h=> h,fun _ _ h=> h,fun _ tok h=> ⟨tok,h,rfl,Nat.le_refl _,fun _=> rfl⟩,fun _ _ _ h=> h⟩
theorem K.le.trans {a b c:K}(h:a.le b)(k:b.le c):a.le c:=
  ⟨k.L.trans h.L,k.w0.trans h.w0,fun _ _ _ x=> k.imm _ _ _ (h.imm _ _ _ x),fun _ _ x=> k.ρ _ _ (h.ρ _ _ x),fun t tok x=> by
    obtain⟨t1,h1,h4,h2,h3⟩:=h.tk t tok x
    obtain⟨t2,k1,k4,k2,k3⟩:=k.tk t t1 h1
    exact⟨t2,k1,k4.trans h4,Nat.le_trans h2 k2,fun e=> by rw[k3 (by omega),h3 (by omega)]⟩,fun x o hx hw=> k.wr x o (by rw[h.w0];exact hx) (h.wr x o hx hw)⟩
theorem RepC.mono {κ κ':K}(h:κ.le κ'):∀ {x:V} {v:Value},RepC κ x v→RepC κ' x v
  | .d x,v,hr=> by simp only[RepC]at hr ⊢;rw[h.L];exact RepD.mono h.imm _ _ hr
  | .own sz n nz cs t,v,hr=> by
    simp only[RepC]at hr ⊢
    rw[h.L]
    obtain⟨h1,tok,h2,h5,h4,h3⟩:=hr
    obtain⟨tok',k1,k4,k2,k3⟩:=h.tk t tok h2
    exact⟨RepD.mono h.imm _ _ h1,tok',k1,k4.trans h5,by omega,fun e=> by rw[k3 (by omega)];exact h3 (by omega)⟩
  | .ptr id off,v,hr=> by
    obtain⟨b,h1,h2⟩:=hr
    exact⟨b,h.ρ _ _ h1,h2⟩
  | .ep cs,v,hr=> by
    obtain⟨A,h1,h2⟩:=hr
    exact⟨A,h1,h2.imp id fun⟨b,o,h3,h4⟩=> ⟨b,o,h3,by rw[h.L];exact RepL.mono h.imm _ _ _ h4⟩⟩
  | .rsl _ id off n cap,v,hr=> by
    obtain⟨b,o,h1,h2⟩:=hr
    exact⟨b,o,h.ρ _ _ h1,h2⟩
  | .map id,v,hr=> by
    obtain⟨b,h1,h2⟩:=hr
    exact⟨b,h.ρ _ _ h1,h2⟩
  | .fn f caps,v,hr=> by
    obtain⟨l,h1,h2⟩:=hr
    exact⟨l,by rw[h.L];exact h1,h2.mono fun _ _ ⟨b,q1,q2⟩=> ⟨b,h.ρ _ _ q1,q2⟩⟩
  | .agg _,_,hr=> hr
  | .tup _,_,hr=> hr
  | .un,_,hr=> hr
theorem Rep1.mono {κ κ':K}(h:κ.le κ'):∀ {x:V} {v:Value},Rep1 κ x v→Rep1 κ' x v
  | .agg cs,v,⟨l,h1,h2⟩=> ⟨l,h1,h2.mono fun _ _=> RepC.mono h⟩
  | .un,_,hr=> hr
  | .d _,_,hr=> RepC.mono (κ:=κ) h (x:= .d _) hr
  | .own ..,_,hr=> RepC.mono (κ:=κ) h (x:= .own ..) hr
  | .ptr ..,_,hr=> RepC.mono (κ:=κ) h (x:= .ptr ..) hr
  | .ep ..,_,hr=> RepC.mono (κ:=κ) h (x:= .ep ..) hr
  | .rsl s i o n c,_,hr=> RepC.mono (κ:=κ) h (x:= .rsl s i o n c) hr
  | .map ..,_,hr=> RepC.mono (κ:=κ) h (x:= .map ..) hr
  | .fn ..,_,hr=> RepC.mono (κ:=κ) h (x:= .fn ..) hr
  | .tup ..,_,hr=> hr
theorem Rep.mono {κ κ':K}(h:κ.le κ'):∀ {x:V} {v:Value},Rep κ x v→Rep κ' x v
  | .tup vs,v,⟨l,h1,h2⟩=> ⟨l,h1,h2.mono fun _ _=> Rep1.mono h⟩
  | .agg ..,_,hr=> Rep1.mono (κ:=κ) h (x:= .agg ..) hr
  | .un,_,hr=> hr
  | .d _,_,hr=> RepC.mono (κ:=κ) h (x:= .d _) hr
  | .own ..,_,hr=> RepC.mono (κ:=κ) h (x:= .own ..) hr
  | .ptr ..,_,hr=> RepC.mono (κ:=κ) h (x:= .ptr ..) hr
  | .ep ..,_,hr=> RepC.mono (κ:=κ) h (x:= .ep ..) hr
  | .rsl s i o n c,_,hr=> RepC.mono (κ:=κ) h (x:= .rsl s i o n c) hr
  | .map ..,_,hr=> RepC.mono (κ:=κ) h (x:= .map ..) hr
  | .fn ..,_,hr=> RepC.mono (κ:=κ) h (x:= .fn ..) hr
theorem Rep.of1 {κ:K}:∀ {x:V} {v:Value},Rep1 κ x v→Rep κ x v
  | .tup _,_,hr=> hr.elim
  | .agg ..,_,hr=> hr
  | .un,_,hr=> hr
  | .d _,_,hr=> hr
  | .own ..,_,hr=> hr
  | .ptr ..,_,hr=> hr
  | .ep ..,_,hr=> hr
  | .rsl ..,_,hr=> hr
  | .map ..,_,hr=> hr
  | .fn ..,_,hr=> hr
theorem Rep1.ofC {κ:K}:∀ {x:V} {v:Value},RepC κ x v→Rep1 κ x v
  | .tup _,_,hr=> hr.elim
  | .agg ..,_,hr=> hr.elim
  | .un,_,hr=> hr.elim
  | .d _,_,hr=> hr
  | .own ..,_,hr=> hr
  | .ptr ..,_,hr=> hr
  | .ep ..,_,hr=> hr
  | .rsl ..,_,hr=> hr
  | .map ..,_,hr=> hr
  | .fn ..,_,hr=> hr
def RepE (κ:K)(x:D×V)(e:MapEntry):Prop:=RepD κ.L κ.imm x.1 e.key∧Rep1 κ x.2 e.val
theorem RepE.mono {κ κ':K}(h:κ.le κ'){x:D×V}{e:MapEntry}(hr:RepE κ x e):RepE κ' x e:=
  ⟨by rw[h.L];exact RepD.mono h.imm _ _ hr.1,Rep1.mono h hr.2⟩
def own1 (w:World)(base:Nat)(e:TypeId)(size:Nat)(v:Value)(n:Nat)(xs:List Value):Prop:=
  w.ownsRow base e size v n xs∧∀ g cur e' f,v.ownBlock=some g→w.heap[g]? =some (.cells cur e' f)→∀ x∈cur.toList,x.oneCell'=true
theorem own1_nil (w:World)(base:Nat)(e:TypeId)(size:Nat):own1 w base e size (.slice none 0 0) 0 []:=⟨World.ownsRow_nil _ _ _ _,fun g _ _ _ h=> by simp[Value.ownBlock]at h⟩
theorem own1_new {w:World}{base:Nat}{e:TypeId}{size:Nat}{v:Value}{n:Nat}{xs:List Value}{g:Nat}{cur:Array Value}{e':TypeId}{f:Nat×Nat}(h:w.ownsRow base e size v n xs)(hg:v.ownBlock=some g)(hc:w.heap[g]? =some (.cells cur e' f))(h1:∀ x∈cur.toList,x.oneCell'=true):own1 w base e size v n xs:=by
  refine⟨h,fun g' cur' e'' f' hg' hc'=> ?_⟩
  obtain rfl:g=g':=Option.some.inj (hg.symm.trans hg')
  rw[hc]at hc'
  simp only[Option.some.injEq,Obj.cells.injEq]at hc'
  obtain⟨rfl,_⟩:=hc'
  exact h1
structure Inv (P:Prog)(κ:K)(st:St):Prop where
  below:Below κ.w0.heap.size κ.w0 κ.w
  len:κ.ρ.length=st.heap.length
  tips:st.tips=κ.tk.map (·.n)
  nd:∀ (i j b:Nat),κ.ρ[i]? =some b→κ.ρ[j]? =some b→i=j
  ρb:∀ (i b:Nat),κ.ρ[i]? =some b→κ.w0.heap.size≤b∧b < κ.w.heap.size
  rows:∀ (id:Nat) (cs:List V),st.row id=some cs→∃ b arr e,κ.ρ[id]? =some b∧κ.w.heap[b]? =some (.cells arr e (0,0))∧All2 (RepC κ) cs arr.toList∧∀ o,κ.wr b o
  maps:∀ (id:Nat) (es:List (D×V)),st.mapOf id=some es→∃ b arr clk,κ.ρ[id]? =some b∧κ.w.heap[b]? =some (.map arr clk)∧All2 (RepE κ) es arr.toList∧MapKept.Stamped arr clk
  toks:∀ (t:Nat) (tok:Tok),κ.tk[t]? =some tok→(∃ xs,own1 κ.w κ.w0.heap.size tok.e tok.size tok.v tok.n xs)∧
    ∀ g,tok.v.ownBlock=some g→(∀ i:Nat,κ.ρ[i]? ≠some g)∧∀ o,tok.n * tok.size≤o→κ.wr g o
  tdis:∀ (t t':Nat) (tok tok':Tok) (g:Nat),κ.tk[t]? =some tok→κ.tk[t']? =some tok'→tok.v.ownBlock=some g→tok'.v.ownBlock=some g→t=t'
  muts:∀ b o,κ.wr b o→b < κ.w.heap.size
  globs:∀ name cells,P.glob name=some cells→RepL κ.L κ.imm cells (κ.L.gl name) 0
  wok:∀ w',Below κ.w0.heap.size κ.w0 w'→κ.L.ok w'
theorem Inv.wok' {P:Prog}{κ:K}{st:St}(h:Inv P κ st):∀ w',Below κ.w.heap.size κ.w w'→κ.L.ok w':=fun w' k=> h.wok w' (h.below.trans (k.mono h.below.size))
def ERel (κ:K)(e:Env)(a:Act):Prop:=∀ i v,e.get i=some v→i < a.tmps.size∧Rep κ v (a.tmps.getD i undef)
theorem ERel.mono {κ κ':K}(h:κ.le κ'){e:Env}{a:Act}(hr:ERel κ e a):ERel κ' e a:=fun i v hv=> ⟨(hr i v hv).1,Rep.mono h (hr i v hv).2⟩
end Go.Sh
set_option linter.unusedSimpArgs false
namespace Go.Sh
open Go.RowKit
/-! ### Constants and operands -/
theorem repD_i {L:Link}{I:Imm}{k:IntKind}{n:Int}{v:Value}:RepD L I (.i k n) v↔v= .int k n:=by simp only[RepD]
theorem repD_b {L:Link}{I:Imm}{b:Bool}{v:Value}:RepD L I (.b b) v↔v= .bool b:=by simp only[RepD]
theorem repD_s {L:Link}{I:Imm}{l:List UInt8}{v:Value}:RepD L I (.s l) v↔v= .string ⟨l.toArray⟩:=by simp only[RepD]
def okD:Value→D→Bool
  | .int k n,.i k' m=> k==k' && n==m
  | .bool b,.b c=> b==c
  | .string s,.s l=> s.data.toList==l
  | .slice none 0 0,.sl 0 false []=> true
  | .pointer none,.np=> true
  | .map none,.nm=> true
  | .nilIface,.ni=> true
  | .nilFunc,.nf=> true
  | _,_=> false
def okDs:List Value→List D→Bool
  | [],[]=> true
  | v::vs,d::ds=> okD v d && okDs vs ds
  | _,_=> false
theorem okD_rep {L:Link}{I:Imm}{v:Value}{d:D}(h:okD v d=true):RepD L I d v:=by
  unfold okD at h
  split at h
  · simp only[Bool.and_eq_true,beq_iff_eq]at h
    obtain⟨rfl,rfl⟩:=h
    exact repD_i.2 rfl
  · simp only[beq_iff_eq]at h
    subst h
    exact repD_b.2 rfl
  · simp only[beq_iff_eq]at h
    subst h
    exact repD_s.2 rfl
  · simp only[RepD]
    exact⟨none,0,rfl,Nat.le_refl _,rfl,fun _=> rfl,.inl trivial⟩
  · simp only[RepD]
  · simp only[RepD]
  · simp only[RepD]
  · simp only[RepD]
  · cases h
theorem okDs_rep {L:Link}{I:Imm}:∀ {vs:List Value} {ds:List D},okDs vs ds=true→All2 (RepD L I) ds vs
  | [],[],_=> .nil
  | v::vs,d::ds,h=> by
    simp only[okDs,Bool.and_eq_true]at h
    exact .cons (okD_rep h.1) (okDs_rep h.2)
  | [],d::ds,h=> by simp[okDs]at h
  | v::vs,[],h=> by simp[okDs]at h
def okV:Value→V→Bool
  | .agg l,.agg cs=> match toDs cs with
    | some ds=> okDs l.toList ds
    | none=> false
  | v,.d x=> okD v x
  | _,_=> false
theorem toDs_ofDs:∀ {cs:List V} {ds:List D},toDs cs=some ds→(∀ x∈cs,∃ d,x= .d d)→cs=ds.map .d
  | [],ds,h,_=> by
    simp only[toDs,Option.some.injEq]at h
    subst h
    rfl
  | x::xs,ds,h,ha=> by
    obtain⟨d,rfl⟩:=ha x List.mem_cons_self
    simp only[toDs,toD]at h
    split at h
    · rename_i r hr
      simp only[Option.some.injEq]at h
      subst h
      rw[toDs_ofDs hr fun y hy=> ha y (List.mem_cons_of_mem _ hy)]
      rfl
    · cases h
def allD:List V→Bool
  | []=> true
  | .d _::r=> allD r
  | _=> false
theorem allD_spec:∀ {cs:List V},allD cs=true→∀ x∈cs,∃ d,x=V.d d
  | [],_,x,hx=> by cases hx
  | y::r,h,x,hx=> by
    cases y <;> simp only[allD]at h <;> try cases h
    rename_i d
    cases hx with
    | head=> exact⟨d,rfl⟩
    | tail _ hx=> exact allD_spec h x hx
def okO (L:Link):Operand→Opd→Bool
  | .tmp t,.t n=> t==n
  | .const v,.c x=> okV v x && (match x with | .agg cs=> allD cs | _=> true)
  | .global g,.g n=> g==L.gl n
  | .func f,.f n=> f==L.fn n
  | _,_=> false
theorem all2_map {α β γ:Type}{R:α→β→Prop}{f:γ→α}{S:γ→β→Prop}(hs:∀ x y,S x y→R (f x) y){xs:List γ}{ys:List β}(h:All2 S xs ys):All2 R (xs.map f) ys:=by
  induction h with
  | nil=> exact .nil
  | cons h _ ih=> exact .cons (hs _ _ h) ih
theorem opd_sound {P:Prog}{κ:K}{st:St}{e:Env}{a:Act}(hi:Inv P κ st)(hE:ERel κ e a){x:Operand}{y:Opd}(hok:okO κ.L x y=true){v:V}(hv:y.ev P e=some v):Rep κ v (a.eval x):=by
  unfold okO at hok
  split at hok
  · simp only[beq_iff_eq]at hok
    subst hok
    exact(hE _ _ hv).2
  · simp only[Opd.ev,Option.some.injEq]at hv
    subst hv
    simp only[Bool.and_eq_true]at hok
    obtain⟨hok,hall⟩:=hok
    unfold okV at hok
    split at hok
    · split at hok
      · rename_i ds hds
        simp only at hall
        refine⟨_,rfl,?_⟩
        rw[toDs_ofDs hds (allD_spec hall)]
        exact all2_map (f:=V.d) (S:=RepD κ.L κ.imm) (fun _ _ h=> h) (okDs_rep hok)
      · cases hok
    · exact okD_rep hok
    · cases hok
  · simp only[beq_iff_eq]at hok
    subst hok
    simp only[Opd.ev,Option.map_eq_some_iff]at hv
    obtain⟨cs,hg,rfl⟩:=hv
    exact⟨_,rfl,.inr ⟨_,_,rfl,hi.globs _ _ hg⟩⟩
  · simp only[beq_iff_eq]at hok
    subst hok
    simp only[Opd.ev,Option.some.injEq]at hv
    subst hv
    exact⟨[],rfl,.nil⟩
  · cases hok
section
variable {P:Program}{κ:K}{w:World}
theorem rep_i {k:IntKind}{n:Int}{v:Value}:Rep κ (.d (.i k n)) v↔v= .int k n:=by simp[Rep,Rep1,RepC,RepD]
theorem rep_b {b:Bool}{v:Value}:Rep κ (.d (.b b)) v↔v= .bool b:=by simp[Rep,Rep1,RepC,RepD]
theorem rep_s {l:List UInt8}{v:Value}:Rep κ (.d (.s l)) v↔v= .string ⟨l.toArray⟩:=by simp[Rep,Rep1,RepC,RepD]
/-! ### Integers, strings, bools -/
theorem eqGuard_int {op:BinOp}{t:TypeId}{x y:Operand}{k k':IntKind}{a b:Int}:(eqGuard op t x y (.int k a) (.int k' b)).run P w= .ok () w:=by
  unfold eqGuard
  cases op <;> simp
theorem eqGuard_str {op:BinOp}{t:TypeId}{x y:Operand}{a b:ByteArray}:(eqGuard op t x y (.string a) (.string b)).run P w= .ok () w:=by
  unfold eqGuard
  cases op <;> simp
theorem eqGuard_bool {op:BinOp}{t:TypeId}{x y:Operand}{a b:Bool}:(eqGuard op t x y (.bool a) (.bool b)).run P w= .ok () w:=by
  unfold eqGuard
  cases op <;> simp
theorem toList_mk (l:List UInt8):(⟨l.toArray⟩:ByteArray).toList=l:=by
  rw[ByteArray.toList_eq]
theorem strLess_eq:∀ (x y:List UInt8),strLess x y=Op.bytesLess x y
  | [],[]=> rfl
  | [],_::_=> rfl
  | _::_,[]=> rfl
  | a::x,b::y=> by simp only[strLess,Op.bytesLess,strLess_eq x y]
theorem size_mk (l:List UInt8):(⟨l.toArray⟩:ByteArray).size=l.length:=rfl
theorem append_mk (x y:List UInt8):(⟨x.toArray⟩:ByteArray)++(⟨y.toArray⟩:ByteArray)=⟨(x++y).toArray⟩:=by
  apply ByteArray.ext
  simp
theorem bitI_sound {op:BinOp}{k:IntKind}{a b:Int}{d:D}(h:bitI op k a b=some d):∃ n,d= .i k n∧(Op.intBits op k a b).run P w= .ok (.int k n) w:=by
  unfold bitI at h
  unfold Op.intBits
  cases op <;> simp only[Option.some.injEq]at h <;> first | (subst h;exact⟨_,rfl,rfl⟩) | (cases h)
theorem arI_sound {op:BinOp}{k:IntKind}{a b:Int}{d:D}(t:TypeId)(h:arI op k a b=some d):∃ v,(binOp op t (.int k a) (.int k b)).run P w= .ok v w∧RepD κ.L κ.imm d v:=by
  unfold arI at h
  split at h
  case h_4=>
    split at h
    · cases h
    · rename_i hb
      simp only[Option.some.injEq]at h
      subst h
      exact⟨_,by simp[binOp,Op.intDiv,hb],repD_i.2 rfl⟩
  case h_5=>
    split at h
    · cases h
    · rename_i hb
      simp only[Option.some.injEq]at h
      subst h
      exact⟨_,by simp[binOp,Op.intDiv,hb],repD_i.2 rfl⟩
  case h_6=>
    obtain⟨n,rfl,hr⟩:=bitI_sound (P:=P) (w:=w) h
    exact⟨_,by simpa[binOp]using hr,repD_i.2 rfl⟩
  case h_7=>
    obtain⟨n,rfl,hr⟩:=bitI_sound (P:=P) (w:=w) h
    exact⟨_,by simpa[binOp]using hr,repD_i.2 rfl⟩
  case h_8=>
    obtain⟨n,rfl,hr⟩:=bitI_sound (P:=P) (w:=w) h
    exact⟨_,by simpa[binOp]using hr,repD_i.2 rfl⟩
  case h_9=>
    obtain⟨n,rfl,hr⟩:=bitI_sound (P:=P) (w:=w) h
    exact⟨_,by simpa[binOp]using hr,repD_i.2 rfl⟩
  all_goals first
    | (cases h;done)
    | (simp only[Option.some.injEq]at h;subst h;first | exact⟨_,by simp[binOp,Op.intArith,Op.intCmp],repD_i.2 rfl⟩ | exact⟨_,by simp[binOp,Op.intArith,Op.intCmp],repD_b.2 rfl⟩)
theorem shI_sound {op:BinOp}{k k':IntKind}{a b:Int}{d:D}(t:TypeId)(h:shI op k a b=some d):∃ v,(binOp op t (.int k a) (.int k' b)).run P w= .ok v w∧RepD κ.L κ.imm d v:=by
  unfold shI at h
  split at h
  · cases h
  · rename_i hb
    cases op <;> simp only[Option.some.injEq]at h <;> first
      | (cases h;done)
      | (subst h;exact⟨_,by simp[binOp,Op.shift,hb],repD_i.2 rfl⟩)
theorem binS_sound {op:BinOp}{x y:List UInt8}{d:D}(t:TypeId)(h:binS op x y=some d):∃ v,(binOp op t (.string ⟨x.toArray⟩) (.string ⟨y.toArray⟩)).run P w= .ok v w∧RepD κ.L κ.imm d v:=by
  unfold binS at h
  split at h
  case h_1=>
    split at h
    · rename_i hb
      simp only[Option.some.injEq]at h
      subst h
      have hb':¬ ((9223372036854775807:Int) < ((x.length:Int)+(y.length:Int))):=by omega
      exact⟨_,by simp[binOp,Op.stringOp,size_mk,hb',append_mk],repD_s.2 rfl⟩
    · cases h
  all_goals first
    | (cases h;done)
    | (simp only[Option.some.injEq]at h;subst h;exact⟨_,by simp[binOp,Op.stringOp,toList_mk,strLess_eq],repD_b.2 rfl⟩)
theorem bin_sound {op:BinOp}{t:TypeId}{xo yo:Operand}{x y z:V}{vx vy:Value}(h:binV op x y=some z)(hx:Rep κ x vx)(hy:Rep κ y vy):
    ∃ v,(do eqGuard op t xo yo vx vy;binOp op t vx vy:Sem Value).run P w= .ok v w∧Rep κ z v:=by
  unfold binV at h
  split at h
  · rename_i k a k' b
    rw[rep_i]at hx hy
    subst hx
    subst hy
    have hsh:∀ d,shI op k a b=some d→∃ v,(do eqGuard op t xo yo (.int k a) (.int k' b);binOp op t (.int k a) (.int k' b):Sem Value).run P w= .ok v w∧Rep κ (.d d) v:=fun d hd=> by
      obtain⟨v,h1,h2⟩:=shI_sound (P:=P) (κ:=κ) (w:=w) (k':=k') t hd
      exact⟨v,by simp[eqGuard_int,h1],h2⟩
    split at h
    · simp only[Option.map_eq_some_iff]at h
      obtain⟨d,hd,rfl⟩:=h
      exact hsh d hd
    · simp only[Option.map_eq_some_iff]at h
      obtain⟨d,hd,rfl⟩:=h
      exact hsh d hd
    · split at h
      · rename_i hk
        subst hk
        simp only[Option.map_eq_some_iff]at h
        obtain⟨d,hd,rfl⟩:=h
        obtain⟨v,h1,h2⟩:=arI_sound (P:=P) (κ:=κ) (w:=w) t hd
        exact⟨v,by simp[eqGuard_int,h1],h2⟩
      · cases h
  · rw[rep_s]at hx hy
    subst hx
    subst hy
    simp only[Option.map_eq_some_iff]at h
    obtain⟨d,hd,rfl⟩:=h
    obtain⟨v,h1,h2⟩:=binS_sound (P:=P) (κ:=κ) (w:=w) t hd
    exact⟨v,by simp[eqGuard_str,h1],h2⟩
  · cases h
theorem un_sound {op:UnOp}{x z:V}{vx:Value}(h:unV op x=some z)(hx:Rep κ x vx):∃ v,(Op.unary op vx).run P w= .ok v w∧Rep κ z v:=by
  unfold unV at h
  split at h
  · rw[rep_i]at hx
    subst hx
    split at h
    · simp only[Option.some.injEq]at h
      subst h
      exact⟨_,by simp[Op.unary,Op.intArith],rep_i.2 rfl⟩
    · simp only[Option.map_eq_some_iff]at h
      obtain⟨d,hd,rfl⟩:=h
      obtain⟨n,rfl,hr⟩:=bitI_sound (P:=P) (w:=w) hd
      exact⟨_,by simpa[Op.unary]using hr,rep_i.2 rfl⟩
    · cases h
  · rw[rep_b]at hx
    subst hx
    split at h
    · simp only[Option.some.injEq]at h
      subst h
      exact⟨_,by simp[Op.unary],rep_b.2 rfl⟩
    · cases h
  · cases h
end
end Go.Sh
namespace Go.Sh
open Go.RowKit
/-! ### What the checker asks of types -/
def szIs (P:Program)(t:TypeId)(n:Nat):Bool:=match P.info? t with
  | some i=> i.size==n
  | none=> false
def bytesIs (P:Program)(t:TypeId)(n:Nat):Bool:=match P.info? t with
  | some i=> i.bytes==n
  | none=> false
def aggIs (P:Program)(t:TypeId)(b:Bool):Bool:=match P.underlying t with
  | some (.struct _)=> b
  | some (.array _ _)=> b
  | some _=> !b
  | none=> false
def zeroIs (P:Program)(t:TypeId)(z:List D):Bool:=match P.info? t with
  | some i=> match i.zero with
    | some v=> okDs v.cells.toList z && v.cells.size==i.size
    | none=> false
  | none=> false
section
variable {P:Program}{κ:K}{w:World}
theorem szIs_spec {t:TypeId}{n:Nat}(h:szIs P t n=true):∃ i,P.info? t=some i∧i.size=n:=by
  unfold szIs at h
  split at h
  · rename_i i hi;exact⟨i,hi,by simpa using h⟩
  · cases h
theorem run_sizeOf {t:TypeId}{n:Nat}(h:szIs P t n=true):(sizeOf t).run P w= .ok n w:=by
  obtain⟨i,hi,rfl⟩:=szIs_spec h
  simp[sizeOf,typeInfo,hi]
theorem run_isAgg {t:TypeId}{b:Bool}(h:aggIs P t b=true):(isAgg t).run P w= .ok b w:=by
  unfold aggIs at h
  unfold isAgg
  cases hu:P.underlying t with
  | none=> rw[hu]at h;cases h
  | some d=>
    rw[hu]at h
    simp only[Sem.run_bind,run_underlying hu,Result.andThen_ok]
    cases d <;> simp at h <;> subst h <;> rfl
theorem zeroIs_spec {t:TypeId}{z:List D}(h:zeroIs P t z=true):∃ i v,P.info? t=some i∧i.zero=some v∧okDs v.cells.toList z=true∧v.cells.size=i.size:=by
  unfold zeroIs at h
  split at h
  · rename_i i hi
    split at h
    · rename_i v hv
      simp only[Bool.and_eq_true,beq_iff_eq]at h
      exact⟨i,v,hi,hv,h.1,h.2⟩
    · cases h
  · cases h
/-! ### Cells of values -/
theorem RepC.cells {x:V}{v:Value}(h:RepC κ x v):v.cells= #[v]∧x.cs= [x]∧v.oneCell'=true:=by
  cases x with
  | d d=>
    simp only[RepC]at h
    cases d <;> simp only[RepD]at h
    case sl=> obtain⟨A,cap,rfl,_⟩:=h;exact⟨rfl,rfl,rfl⟩
    case ifc=> obtain⟨l,rfl,_⟩:=h;exact⟨rfl,rfl,rfl⟩
    case any=> exact⟨h.1,rfl,h.2⟩
    all_goals subst h;exact⟨rfl,rfl,rfl⟩
  | own sz n nz cs t=>
    simp only[RepC,RepD]at h
    obtain⟨⟨A,cap,rfl,_⟩,_⟩:=h
    exact⟨rfl,rfl,rfl⟩
  | ptr=> obtain⟨b,_,rfl⟩:=h;exact⟨rfl,rfl,rfl⟩
  | ep=> obtain⟨A,rfl,_⟩:=h;exact⟨rfl,rfl,rfl⟩
  | rsl=> obtain⟨b,o,_,rfl,_⟩:=h;exact⟨rfl,rfl,rfl⟩
  | map=> obtain⟨b,_,rfl⟩:=h;exact⟨rfl,rfl,rfl⟩
  | fn=> obtain⟨l,rfl,_⟩:=h;exact⟨rfl,rfl,rfl⟩
  | agg=> exact h.elim
  | tup=> exact h.elim
  | un=> exact h.elim
theorem Rep1.toC:∀ {x:V} {v:Value},Rep1 κ x v→x≠ .un→(∀ cs,x≠ .agg cs)→RepC κ x v
  | .d _,_,h,_,_=> h
  | .own ..,_,h,_,_=> h
  | .ptr ..,_,h,_,_=> h
  | .ep ..,_,h,_,_=> h
  | .rsl ..,_,h,_,_=> h
  | .map ..,_,h,_,_=> h
  | .fn ..,_,h,_,_=> h
  | .agg cs,_,_,_,h=> absurd rfl (h cs)
  | .tup ..,_,h,_,_=> h.elim
  | .un,_,_,h,_=> absurd rfl h
theorem Rep.to1:∀ {x:V} {v:Value},Rep κ x v→(∀ vs,x≠ .tup vs)→Rep1 κ x v
  | .d _,_,h,_=> h
  | .own ..,_,h,_=> h
  | .ptr ..,_,h,_=> h
  | .ep ..,_,h,_=> h
  | .rsl ..,_,h,_=> h
  | .map ..,_,h,_=> h
  | .fn ..,_,h,_=> h
  | .agg ..,_,h,_=> h
  | .un,_,h,_=> h
  | .tup vs,_,_,h=> absurd rfl (h vs)
theorem Rep1.cells {x:V}{v:Value}(h:Rep1 κ x v)(hx:x≠ .un):All2 (RepC κ) x.cs v.cells.toList:=by
  cases x with
  | agg cs=> obtain⟨l,rfl,h⟩:=h;simpa[V.cs,Value.cells]using h
  | un=> exact absurd rfl hx
  | tup=> exact h.elim
  | _=>
    replace h:=Rep1.toC h hx (by intro cs;simp)
    obtain⟨h1,h2,_⟩:=RepC.cells h
    rw[h1,h2]
    exact .cons h .nil
theorem All2.one {cs:List V}{l:List Value}(h:All2 (RepC κ) cs l):∀ v∈l,v.oneCell'=true:=by
  induction h with
  | nil=> intro v hv;cases hv
  | cons h _ ih=>
    intro v hv
    cases hv with
    | head=> exact(RepC.cells h).2.2
    | tail _ hv=> exact ih v hv
theorem toD_rep {x:V}{d:D}(h:toD x=some d){v:Value}(hr:RepC κ x v):RepD κ.L κ.imm d v:=by
  cases x <;> simp only[toD,Option.some.injEq]at h <;> try cases h
  · exact hr
  · exact hr.1
theorem toDs_rep:∀ {xs:List V} {ds:List D} (h:toDs xs=some ds) {l:List Value},All2 (RepC κ) xs l→All2 (RepD κ.L κ.imm) ds l
  | [],ds,h,l,ha=> by
    simp only[toDs,Option.some.injEq]at h
    subst h
    cases ha
    exact .nil
  | x::xs,ds,h,l,ha=> by
    simp only[toDs]at h
    split at h
    · rename_i d hd
      split at h
      · rename_i r hr
        simp only[Option.some.injEq]at h
        subst h
        cases ha with
        | cons h1 h2=> exact .cons (toD_rep hd h1) (toDs_rep hr h2)
      · cases h
    · cases h
theorem ofDs_rep {ds:List D}{l:List Value}(h:All2 (RepD κ.L κ.imm) ds l):All2 (RepC κ) (ofDs ds) l:=by
  induction h with
  | nil=> exact .nil
  | cons h _ ih=> exact .cons (x:=V.d _) h ih
/-! ### A part of a struct or an array -/
theorem mkV_rep {agg:Bool}{cs:List V}{z:V}(h:mkV agg cs=some z){l:List Value}(ha:All2 (RepC κ) cs l):Rep1 κ z (if agg then .agg l.toArray else l.headD undef):=by
  unfold mkV at h
  split at h
  · rename_i hagg
    simp only[Option.some.injEq]at h
    subst h
    subst hagg
    exact⟨l,rfl,ha⟩
  · rename_i hagg
    split at h
    · simp only[Option.some.injEq]at h
      subst h
      cases ha with
      | cons h1 h2=>
        cases h2
        simp only[hagg,if_false,List.headD_cons]
        simpa using Rep1.ofC h1
    · cases h
theorem mkV_len {agg:Bool}{cs:List V}{z:V}(h:mkV agg cs=some z):agg=false→cs.length=1:=by
  unfold mkV at h
  rintro rfl
  simp only[Bool.false_eq_true,if_false]at h
  split at h
  · rfl
  · cases h
theorem part_sound {t:TypeId}{off size:Nat}{agg:Bool}{cs:List V}{l:List Value}{z:V}(hs:szIs P t size=true)(hg:aggIs P t agg=true)(ha:All2 (RepC κ) cs l)(hl:off+size≤cs.length)
    (h:mkV agg ((cs.drop off).take size)=some z):∃ v,(part t l.toArray off).run P w= .ok v w∧Rep1 κ z v:=by
  have hr:=mkV_rep h ((ha.drop off).take size)
  refine⟨_,?_,hr⟩
  unfold part
  simp only[Sem.run_bind,run_isAgg hg,Result.andThen_ok]
  cases agg with
  | true=>
    simp only[if_true,Sem.run_bind,run_sizeOf hs,Result.andThen_ok,Sem.run_pure]
    congr 2
    simp[List.extract_toArray,List.take_drop,Nat.add_comm]
  | false=>
    have h1:=mkV_len h rfl
    have hlen:=ha.length
    simp only[List.length_take,List.length_drop]at h1
    have hsz:0 < size:=by omega
    obtain⟨v,hv⟩:∃ v,l[off]? =some v:=⟨l[off]'(by omega),List.getElem?_eq_getElem (by omega)⟩
    have hhd:((l.drop off).take size).headD undef=v:=by
      rw[List.headD_eq_head?_getD,List.head?_take,if_neg (by omega),List.head?_drop,hv]
      rfl
    rw[hhd]
    simp[hv]
end
end Go.Sh
namespace Go.Sh
open Go.RowKit
theorem cell_block {w w':World}{b o:Nat}(h:w'.heap[b]? =w.heap[b]?):w'.cell? ⟨b,o,none⟩=w.cell? ⟨b,o,none⟩:=World.cell?_of_block (w:=w) h
theorem lt_of_cell {w:World}{b o:Nat}{x:Value}(h:w.cell? ⟨b,o,none⟩=some x):b < w.heap.size:=World.block_lt_of_cell? w _ h
theorem own_lt' {w:World}{base:Nat}{e:TypeId}{size n:Nat}{v:Value}{xs:List Value}(h:w.ownsRow base e size v n xs){g:Nat}(hg:v.ownBlock=some g):base≤g∧g < w.heap.size:=h.lt g hg
theorem own1.kept {w w':World}{base:Nat}{e:TypeId}{size n:Nat}{v:Value}{xs:List Value}(h:own1 w base e size v n xs){row:Option Nat}(hg:w.grownBy w' row)(hne:v.ownBlock=none∨v.ownBlock≠row):own1 w' base e size v n xs:=by
  refine⟨h.1.kept hg hne,fun g cur e' f hb hc=> h.2 g cur e' f hb ?_⟩
  rw[← hg.block g (own_lt' h.1 hb).2 (fun q=> ?_)]
  · exact hc
  · rcases hne with hne | hne
    · rw[hne]at hb
      cases hb
    · exact hne (hb.trans q)
theorem own1.alloc {w:World}{base:Nat}{e:TypeId}{size n:Nat}{v:Value}{xs:List Value}(h:own1 w base e size v n xs)(o:Obj):own1 (w.alloc o) base e size v n xs:=by
  refine⟨h.1.alloc o,fun g cur e' f hb hc=> h.2 g cur e' f hb ?_⟩
  rw[← heap_alloc_old w o g (own_lt' h.1 hb).2]
  exact hc
theorem St.row_lt {st:St}{id:Nat}{cs:List V}(h:st.row id=some cs):id < st.heap.length:=by
  unfold St.row at h
  split at h
  · rename_i hh;exact(List.getElem?_eq_some_iff.1 hh).1
  · cases h
theorem St.mapOf_lt {st:St}{id:Nat}{es:List (D×V)}(h:st.mapOf id=some es):id < st.heap.length:=by
  unfold St.mapOf at h
  split at h
  · rename_i hh;exact(List.getElem?_eq_some_iff.1 hh).1
  · cases h
theorem row_push {st:St}{b:Blk}{id:Nat}:(st.push b).row id=if id=st.heap.length then(match b with | .row cs=> some cs | _=> none) else st.row id:=by
  unfold St.row St.push
  simp only[List.getElem?_append]
  split
  · rename_i h
    split at h
    · rename_i hlt
      rw[if_neg (by omega),h]
    · rename_i hge
      by_cases he:id=st.heap.length
      · subst he
        simp at h
        subst h
        simp
      · rw[List.getElem?_eq_none (by simp;omega)]at h
        cases h
  · rename_i h
    split
    · rename_i he
      subst he
      cases b with
      | row cs=> exact absurd (by simp) (h cs)
      | map es=> rfl
    · rename_i he
      split
      · rename_i cs hcs
        have hlt:=(List.getElem?_eq_some_iff.1 hcs).1
        exact absurd (by rw[if_pos hlt];exact hcs) (h cs)
      · rfl
theorem mapOf_push {st:St}{b:Blk}{id:Nat}:(st.push b).mapOf id=if id=st.heap.length then(match b with | .map cs=> some cs | _=> none) else st.mapOf id:=by
  unfold St.mapOf St.push
  simp only[List.getElem?_append]
  split
  · rename_i h
    split at h
    · rename_i hlt
      rw[if_neg (by omega),h]
    · rename_i hge
      by_cases he:id=st.heap.length
      · subst he
        simp at h
        subst h
        simp
      · rw[List.getElem?_eq_none (by simp;omega)]at h
        cases h
  · rename_i h
    split
    · rename_i he
      subst he
      cases b with
      | map cs=> exact absurd (by simp) (h cs)
      | row es=> rfl
    · rename_i he
      split
      · rename_i cs hcs
        have hlt:=(List.getElem?_eq_some_iff.1 hcs).1
        exact absurd (by rw[if_pos hlt];exact hcs) (h cs)
      · rfl
section
variable {P:Prog}{κ:K}{st:St}
def K.to (κ:K)(w':World):K:={κ with w:=w'}
theorem Inv.grow (hi:Inv P κ st){w':World}(hg:κ.w.grownBy w' none):κ.le (κ.to w')∧Inv P (κ.to w') st:=by
  have hb:∀ b,b < κ.w.heap.size→w'.heap[b]? =κ.w.heap[b]? :=fun b h=> hg.block b h (by simp)
  have hle:κ.le (κ.to w'):=⟨rfl,rfl,fun b o x h=> ⟨by have:=lt_of_cell h.1;exact(cell_block (hb b this)).trans h.1,h.2⟩,fun _ _ h=> h,fun _ tok h=> ⟨tok,h,rfl,Nat.le_refl _,fun _=> rfl⟩,fun _ _ _ h=> h⟩
  refine⟨hle,⟨hi.below.grown hg hi.below.size (by simp),hi.len,hi.tips,hi.nd,fun i b h=> ⟨(hi.ρb i b h).1,Nat.lt_of_lt_of_le (hi.ρb i b h).2 hg.size⟩,?_,?_,?_,hi.tdis,fun b o h=> Nat.lt_of_lt_of_le (hi.muts b o h) hg.size,fun n c h=> RepL.mono hle.imm _ _ _ (hi.globs n c h),hi.wok⟩⟩
  · intro id cs h
    obtain⟨b,arr,e,h1,h2,h3,h4⟩:=hi.rows id cs h
    exact⟨b,arr,e,h1,(hb b (hi.ρb _ _ h1).2).trans h2,h3.mono fun _ _=> RepC.mono hle,h4⟩
  · intro id es h
    obtain⟨b,arr,c,h1,h2,h3,hst⟩:=hi.maps id es h
    exact⟨b,arr,c,h1,(hb b (hi.ρb _ _ h1).2).trans h2,h3.mono fun _ _=> RepE.mono hle,hst⟩
  · intro t tok h
    obtain⟨⟨xs,h1⟩,h2⟩:=hi.toks t tok h
    exact⟨⟨xs,h1.kept hg (by cases tok.v.ownBlock <;> simp)⟩,h2⟩
theorem grownBy_heap {w w':World}(h:w'.heap=w.heap)(ho:w'.os=w.os)(ht:w'.tape=w.tape)(hp:w'.output=w.output):w.grownBy w' none:=
  ⟨ho,ht,hp,by rw[h];exact Nat.le_refl _,fun k _ _=> by rw[h]⟩
def K.push (κ:K)(o:Obj):K:={κ with w:=κ.w.alloc o,wr:=fun b o=> κ.wr b o∨b=κ.w.heap.size,ρ:=κ.ρ++ [κ.w.heap.size]}
theorem K.le_push (hi:Inv P κ st)(o:Obj):κ.le (κ.push o):=by
  refine⟨rfl,rfl,?_,?_,fun _ tok h=> ⟨tok,h,rfl,Nat.le_refl _,fun _=> rfl⟩,fun _ _ _ h=> .inl h⟩
  · intro b o' x h
    have hlt:=lt_of_cell h.1
    exact⟨(cell_block (heap_alloc_old κ.w o b hlt)).trans h.1,fun hw=> hw.elim h.2 (fun e=> by omega)⟩
  · intro i b h
    show(κ.ρ++ [_])[i]? =_
    rw[List.getElem?_append_left (List.getElem?_eq_some_iff.1 h).1]
    exact h
theorem get_push {κ:K}{o:Obj}{i b:Nat}(h:(κ.push o).ρ[i]? =some b):(i < κ.ρ.length∧κ.ρ[i]? =some b)∨(i=κ.ρ.length∧b=κ.w.heap.size):=by
  have h:(κ.ρ++ [κ.w.heap.size])[i]? =some b:=h
  rw[List.getElem?_append]at h
  split at h
  · exact .inl ⟨by assumption,h⟩
  · rename_i hge
    have:=(List.getElem?_eq_some_iff.1 h).1
    simp at this
    have he:i=κ.ρ.length:=by omega
    subst he
    simp at h
    exact .inr ⟨rfl,h.symm⟩
theorem push_last (κ:K)(o:Obj):(κ.push o).ρ[κ.ρ.length]? =some κ.w.heap.size:=by
  show(κ.ρ++ [_])[_]? =_
  simp
theorem Inv.pushI (hi:Inv P κ st)(o:Obj)(b:Blk)
    (hb:match b with
      | .row cs=> ∃ arr e,o= .cells arr e (0,0)∧All2 (RepC κ) cs arr.toList
      | .map es=> ∃ arr clk,o= .map arr clk∧All2 (RepE κ) es arr.toList∧MapKept.Stamped arr clk):κ.le (κ.push o)∧Inv P (κ.push o) (st.push b):=by
  have hle:=K.le_push hi o
  have hold:∀ k,k < κ.w.heap.size→(κ.w.alloc o).heap[k]? =κ.w.heap[k]? :=fun k h=> heap_alloc_old κ.w o k h
  refine⟨hle,⟨hi.below.alloc hi.below.size o,?_,hi.tips,?_,?_,?_,?_,?_,hi.tdis,?_,fun n c h=> RepL.mono hle.imm _ _ _ (hi.globs n c h),hi.wok⟩⟩
  · show(κ.ρ++ [_]).length=(st.heap++ [_]).length
    simp[hi.len]
  · intro i j c h1 h2
    rcases get_push h1 with⟨_,h1⟩ | ⟨h1,h1'⟩ <;> rcases get_push h2 with⟨_,h2⟩ | ⟨h2,h2'⟩
    · exact hi.nd i j c h1 h2
    · have:=(hi.ρb _ _ h1).2;omega
    · have:=(hi.ρb _ _ h2).2;omega
    · omega
  · intro i c h
    show _≤_∧_ < (κ.w.alloc o).heap.size
    rw[World.size_alloc]
    rcases get_push h with⟨_,h⟩ | ⟨_,h⟩
    · have:=hi.ρb _ _ h;exact⟨this.1,by omega⟩
    · have:=hi.below.size;exact⟨by subst h;exact this,by omega⟩
  · intro id cs h
    rw[row_push]at h
    split at h
    · rename_i he
      cases b with
      | map es=> cases h
      | row cs'=>
        simp only[Option.some.injEq]at h
        subst h
        obtain⟨arr,e,rfl,ha⟩:=hb
        refine⟨κ.w.heap.size,arr,e,?_,heap_alloc_new κ.w _,ha.mono fun _ _=> RepC.mono hle,fun _=> .inr rfl⟩
        rw[he,← hi.len]
        exact push_last κ _
    · obtain⟨c,arr,e,h1,h2,h3,h4⟩:=hi.rows id cs h
      exact⟨c,arr,e,hle.ρ _ _ h1,(hold c (hi.ρb _ _ h1).2).trans h2,h3.mono fun _ _=> RepC.mono hle,fun o=> .inl (h4 o)⟩
  · intro id es h
    rw[mapOf_push]at h
    split at h
    · rename_i he
      cases b with
      | row cs=> cases h
      | map es'=>
        simp only[Option.some.injEq]at h
        subst h
        obtain⟨arr,clk,rfl,ha,hst⟩:=hb
        refine⟨κ.w.heap.size,arr,clk,?_,heap_alloc_new κ.w _,ha.mono fun _ _=> RepE.mono hle,hst⟩
        rw[he,← hi.len]
        exact push_last κ _
    · obtain⟨c,arr,clk,h1,h2,h3,hst⟩:=hi.maps id es h
      exact⟨c,arr,clk,hle.ρ _ _ h1,(hold c (hi.ρb _ _ h1).2).trans h2,h3.mono fun _ _=> RepE.mono hle,hst⟩
  · intro t tok h
    obtain⟨⟨xs,h1⟩,h2⟩:=hi.toks t tok h
    refine⟨⟨xs,h1.alloc o⟩,fun g hg=> ⟨fun i hh=> ?_,fun o' ho=> .inl ((h2 g hg).2 o' ho)⟩⟩
    rcases get_push hh with⟨_,hh⟩ | ⟨_,hh⟩
    · exact(h2 g hg).1 i hh
    · have:=(own_lt' h1.1 hg).2;omega
  · intro c o' h
    show c < (κ.w.alloc o).heap.size
    rw[World.size_alloc]
    rcases h with h | h
    · have:=hi.muts c o' h;omega
    · omega
theorem St.row_set {st:St}{id j:Nat}{b:Blk}(hid:id < st.heap.length):St.row {st with heap:=st.heap.set id (some b)} j=if j=id then(match b with | .row cs=> some cs | _=> none) else st.row j:=by
  unfold St.row
  simp only[List.getElem?_set]
  by_cases h:id=j
  · subst h
    simp only[hid,if_true]
    cases b <;> rfl
  · rw[if_neg h,if_neg (fun e=> h e.symm)]
theorem St.mapOf_set {st:St}{id j:Nat}{b:Blk}(hid:id < st.heap.length):St.mapOf {st with heap:=st.heap.set id (some b)} j=if j=id then(match b with | .map cs=> some cs | _=> none) else st.mapOf j:=by
  unfold St.mapOf
  simp only[List.getElem?_set]
  by_cases h:id=j
  · subst h
    simp only[hid,if_true]
    cases b <;> rfl
  · rw[if_neg h,if_neg (fun e=> h e.symm)]
theorem Inv.put (hi:Inv P κ st){id b:Nat}{blk:Blk}{w':World}{o:Obj}(hb:κ.ρ[id]? =some b)(hw:∀ k,k≠b→w'.heap[k]? =κ.w.heap[k]?)(hs:w'.heap.size=κ.w.heap.size)
    (ho:w'.os=κ.w.os) (ht:w'.tape=κ.w.tape) (hp:w'.output=κ.w.output) (hnew:w'.heap[b]? =some o) (hmut:(∀ o,κ.wr b o)∨∀ o x,κ.w.cell? ⟨b,o,none⟩≠some x)
    (hblk:match blk with
      | .row cs=> ∃ arr e,o= .cells arr e (0,0)∧All2 (RepC κ) cs arr.toList∧∀ o,κ.wr b o
      | .map es=> ∃ arr clk,o= .map arr clk∧All2 (RepE κ) es arr.toList∧MapKept.Stamped arr clk):κ.le (κ.to w')∧Inv P (κ.to w') {st with heap:=st.heap.set id (some blk)}:=by
  have hid:id < st.heap.length:=by rw[← hi.len];exact(List.getElem?_eq_some_iff.1 hb).1
  have hle:κ.le (κ.to w'):=by
    refine⟨rfl,rfl,fun c o x h=> ⟨?_,h.2⟩,fun _ _ h=> h,fun _ tok h=> ⟨tok,h,rfl,Nat.le_refl _,fun _=> rfl⟩,fun _ _ _ h=> h⟩
    have hne:c≠b:=by
      rintro rfl
      rcases hmut with hm | hm
      · exact h.2 (hm o)
      · exact hm o x h.1
    exact(cell_block (hw c hne)).trans h.1
  have hbelow:Below κ.w0.heap.size κ.w0 w':=hi.below.trans ⟨ho,ht,hp,by omega,fun k hk=> hw k (by have:=(hi.ρb _ _ hb).1;omega)⟩
  refine⟨hle,⟨hbelow,by show κ.ρ.length=(st.heap.set _ _).length;rw[List.length_set];exact hi.len,hi.tips,hi.nd,fun i c h=> ⟨(hi.ρb i c h).1,by show c < w'.heap.size;rw[hs];exact(hi.ρb i c h).2⟩,?_,?_,?_,hi.tdis,fun c o h=> by show c < w'.heap.size;rw[hs];exact hi.muts c o h,fun n c h=> RepL.mono hle.imm _ _ _ (hi.globs n c h),hi.wok⟩⟩
  · intro j cs h
    rw[St.row_set hid]at h
    split at h
    · rename_i he
      subst he
      cases blk with
      | map es=> cases h
      | row cs'=>
        simp only[Option.some.injEq]at h
        subst h
        obtain⟨arr,e,rfl,ha,hm⟩:=hblk
        exact⟨b,arr,e,hb,hnew,ha.mono fun _ _=> RepC.mono hle,hm⟩
    · rename_i hne
      obtain⟨c,arr,e,h1,h2,h3,h4⟩:=hi.rows j cs h
      exact⟨c,arr,e,h1,(hw c (fun e=> hne (hi.nd _ _ _ (e ▸ h1) hb))).trans h2,h3.mono fun _ _=> RepC.mono hle,h4⟩
  · intro j es h
    rw[St.mapOf_set hid]at h
    split at h
    · rename_i he
      subst he
      cases blk with
      | row es=> cases h
      | map es'=>
        simp only[Option.some.injEq]at h
        subst h
        obtain⟨arr,clk,rfl,ha,hst⟩:=hblk
        exact⟨b,arr,clk,hb,hnew,ha.mono fun _ _=> RepE.mono hle,hst⟩
    · rename_i hne
      obtain⟨c,arr,clk,h1,h2,h3,hst⟩:=hi.maps j es h
      exact⟨c,arr,clk,h1,(hw c (fun e=> hne (hi.nd _ _ _ (e ▸ h1) hb))).trans h2,h3.mono fun _ _=> RepE.mono hle,hst⟩
  · intro t tok h
    obtain⟨⟨xs,h1⟩,h2⟩:=hi.toks t tok h
    refine⟨⟨xs,h1.kept (row:=some b) ⟨ho,ht,hp,by show κ.w.heap.size≤w'.heap.size;omega,fun k _ hk=> hw k (fun e=> hk (by rw[e]))⟩ ?_⟩,h2⟩
    cases hv:tok.v.ownBlock with
    | none=> exact .inl rfl
    | some g=>
      right
      intro e
      simp only[Option.some.injEq]at e
      subst e
      exact(h2 _ hv).1 id hb
def K.cut (κ:K)(h t:Nat):K:={κ with wr:=fun b o=> κ.wr b o∧∀ i,h≤i→κ.ρ[i]? ≠some b,ρ:=κ.ρ.take h,tk:=κ.tk.take t}
theorem K.le_cut {κ0 κ:K}(hle:κ0.le κ){h t:Nat}(hh:κ0.ρ.length≤h)(ht:κ0.tk.length≤t)(hρ:∀ (i b:Nat),κ.ρ[i]? =some b→κ.w0.heap.size≤b):κ0.le (κ.cut h t):=by
  refine⟨hle.L,hle.w0,fun b o x hx=> ⟨(hle.imm b o x hx).1,fun hw=> (hle.imm b o x hx).2 hw.1⟩,fun i b hb=> ?_,fun i tok hi=> ?_,fun b o hb hw=> ⟨hle.wr b o hb hw,fun i _ hib=> by have:=hρ i b hib;rw[hle.w0]at this;omega⟩⟩
  · show(κ.ρ.take h)[i]? =_
    have:=(List.getElem?_eq_some_iff.1 hb).1
    rw[List.getElem?_take,if_pos (by omega)]
    exact hle.ρ i b hb
  · have:=(List.getElem?_eq_some_iff.1 hi).1
    obtain⟨tok',h1,h2⟩:=hle.tk i tok hi
    refine⟨tok',?_,h2⟩
    show(κ.tk.take t)[i]? =_
    rw[List.getElem?_take,if_pos (by omega)]
    exact h1
theorem K.imm_cut {h t:Nat}:∀ b o x,κ.imm b o x→(κ.cut h t).imm b o x:=fun b o x hx=> ⟨hx.1,fun hw=> hx.2 hw.1⟩
theorem take_get {α:Type}{l:List α}{n i:Nat}{x:α}(h:(l.take n)[i]? =some x):i < n∧l[i]? =some x:=by
  rw[List.getElem?_take]at h
  split at h
  · exact⟨by assumption,h⟩
  · cases h
theorem esc_rep (hi:Inv P κ st){h t:Nat}{x z:V}(hz:escC st h t x=some z){v:Value}(hr:RepC κ x v):RepC (κ.cut h t) z v:=by
  cases x with
  | d d=>
    simp only[escC,Option.some.injEq]at hz
    subst hz
    exact RepD.mono K.imm_cut _ _ hr
  | own sz n nz cs k=>
    simp only[escC]at hz
    split at hz
    · rename_i hk
      simp only[Option.some.injEq]at hz
      subst hz
      obtain⟨h1,tok,h2,h3⟩:=hr
      refine⟨RepD.mono K.imm_cut _ _ h1,tok,?_,h3⟩
      show(κ.tk.take t)[k]? =_
      rw[List.getElem?_take,if_pos hk]
      exact h2
    · simp only[Option.some.injEq]at hz
      subst hz
      exact RepD.mono K.imm_cut _ _ hr.1
  | ptr id off=>
    simp only[escC]at hz
    split at hz
    · rename_i hk
      simp only[Option.some.injEq]at hz
      subst hz
      obtain⟨b,h1,h2⟩:=hr
      refine⟨b,?_,h2⟩
      show(κ.ρ.take h)[id]? =_
      rw[List.getElem?_take,if_pos hk]
      exact h1
    · cases hz
  | ep cs=>
    simp only[escC,Option.some.injEq]at hz
    subst hz
    obtain⟨A,h1,h2⟩:=hr
    exact⟨A,h1,h2.imp id fun⟨b,o,h3,h4⟩=> ⟨b,o,h3,RepL.mono K.imm_cut _ _ _ h4⟩⟩
  | map id=>
    simp only[escC]at hz
    split at hz
    · rename_i hk
      simp only[Option.some.injEq]at hz
      subst hz
      obtain⟨b,h1,h2⟩:=hr
      refine⟨b,?_,h2⟩
      show(κ.ρ.take h)[id]? =_
      rw[List.getElem?_take,if_pos hk]
      exact h1
    · cases hz
  | fn f caps=>
    simp only[escC]at hz
    split at hz
    · rename_i hk
      simp only[Option.some.injEq]at hz
      subst hz
      obtain⟨l,h1,h2⟩:=hr
      refine⟨l,h1,All2.of_get h2.length fun j c y hj hy=> ?_⟩
      obtain⟨y',hy',b,q1,q2⟩:=h2.get hj
      rw[hy]at hy'
      obtain rfl:=Option.some.inj hy'
      have hlt:=List.all_eq_true.1 hk c (List.mem_of_getElem? hj)
      exact⟨b,by show(κ.ρ.take h)[c.1]? =_;rw[List.getElem?_take,if_pos (of_decide_eq_true hlt)];exact q1,q2⟩
    · cases hz
  | rsl size id off n cap=>
    simp only[escC]at hz
    split at hz
    · rename_i hk
      simp only[Option.some.injEq]at hz
      subst hz
      obtain⟨b,o,h1,h2⟩:=hr
      refine⟨b,o,?_,h2⟩
      show(κ.ρ.take h)[id]? =_
      rw[List.getElem?_take,if_pos hk]
      exact h1
    · rename_i hk
      simp only[Option.map_eq_some_iff]at hz
      obtain⟨ds,hds,rfl⟩:=hz
      unfold cellsAt at hds
      split at hds
      case h_2=> cases hds
      rename_i cs hrow
      split at hds
      case isFalse=> cases hds
      rename_i hlen
      obtain⟨b,o,h1,rfl,hcap,ho⟩:=hr
      obtain⟨b',arr,e,h2,h3,h4,h5⟩:=hi.rows id cs hrow
      obtain rfl:b=b':=by rw[h1]at h2;exact Option.some.inj h2
      show RepD _ _ _ _
      simp only[RepD]
      have hA:=toDs_rep hds ((h4.drop off).take (n * size))
      rcases ho with rfl | rfl
      · obtain rfl:n=0:=by omega
        refine⟨_,0,rfl,hcap,rfl,by simp,.inl ?_⟩
        have:=hA.length
        simp only[Nat.zero_mul,List.take_zero,List.length_nil]at this
        exact List.eq_nil_of_length_eq_zero this
      refine⟨_,cap,rfl,hcap,rfl,by simp,.inr ⟨b,o,rfl,RepL.of fun j c hj=> ?_⟩⟩
      obtain⟨x,hx,hxd⟩:=hA.get hj
      refine⟨x,⟨?_,fun hw=> hw.2 id (by omega) h1⟩,RepD.mono K.imm_cut _ _ hxd⟩
      rw[List.getElem?_take]at hx
      split at hx
      · rw[List.getElem?_drop]at hx
        show κ.w.cell? _=_
        rw[cell_of_row κ.w b (o+j) arr e (0,0) h3]
        simpa using hx
      · cases hx
  | agg=> exact hr.elim
  | tup=> exact hr.elim
  | un=> exact hr.elim
theorem escs_rep (hi:Inv P κ st){h t:Nat}:∀ {xs zs:List V},escs st h t xs=some zs→∀ {l:List Value},All2 (RepC κ) xs l→All2 (RepC (κ.cut h t)) zs l
  | [],zs,hz,l,ha=> by
    simp only[escs,Option.some.injEq]at hz
    subst hz
    cases ha
    exact .nil
  | x::xs,zs,hz,l,ha=> by
    simp only[escs]at hz
    split at hz
    · rename_i y hy
      split at hz
      · rename_i ys hys
        simp only[Option.some.injEq]at hz
        subst hz
        cases ha with
        | cons h1 h2=> exact .cons (esc_rep hi hy h1) (escs_rep hi hys h2)
      · cases hz
    · cases hz
theorem esc1_rep (hi:Inv P κ st){h t:Nat}{x z:V}(hz:esc1 st h t x=some z){v:Value}(hr:Rep1 κ x v):Rep1 (κ.cut h t) z v:=by
  unfold esc1 at hz
  split at hz
  · simp only[Option.map_eq_some_iff]at hz
    obtain⟨zs,hzs,rfl⟩:=hz
    obtain⟨l,rfl,ha⟩:=hr
    exact⟨l,rfl,escs_rep hi hzs ha⟩
  · rename_i hna
    by_cases hu:x= .un
    · subst hu;simp[escC]at hz
    · exact Rep1.ofC (esc_rep hi hz (Rep1.toC hr hu (fun cs e=> hna cs e)))
theorem esc1s_rep (hi:Inv P κ st){h t:Nat}:∀ {xs zs:List V},esc1s st h t xs=some zs→∀ {l:List Value},All2 (Rep1 κ) xs l→All2 (Rep1 (κ.cut h t)) zs l
  | [],zs,hz,l,ha=> by
    simp only[esc1s,Option.some.injEq]at hz
    subst hz
    cases ha
    exact .nil
  | x::xs,zs,hz,l,ha=> by
    simp only[esc1s]at hz
    split at hz
    · rename_i y hy
      split at hz
      · rename_i ys hys
        simp only[Option.some.injEq]at hz
        subst hz
        cases ha with
        | cons h1 h2=> exact .cons (esc1_rep hi hy h1) (esc1s_rep hi hys h2)
      · cases hz
    · cases hz
theorem escT_rep (hi:Inv P κ st){h t:Nat}{x z:V}(hz:esc st h t x=some z){v:Value}(hr:Rep κ x v):Rep (κ.cut h t) z v:=by
  unfold esc at hz
  split at hz
  · simp only[Option.map_eq_some_iff]at hz
    obtain⟨zs,hzs,rfl⟩:=hz
    obtain⟨l,rfl,ha⟩:=hr
    exact⟨l,rfl,esc1s_rep hi hzs ha⟩
  · rename_i hna
    exact Rep.of1 (esc1_rep hi hz (Rep.to1 hr (fun vs e=> hna vs e)))
def keepsC (h t:Nat)(x:V):Prop:=match x with
  | .own _ _ _ _ k=> k < t
  | .ptr id _=> id < h
  | .rsl _ id .. => id < h
  | .map id=> id < h
  | .fn _ caps=> ∀ p∈caps,p.1 < h
  | _=> True
end
end Go.Sh
namespace Go.Sh
open Go.RowKit
structure Fl (a b:St):Prop where
  fl:b.floor=a.floor
  tfl:b.tfloor=a.tfloor
  hlen:a.heap.length≤b.heap.length
  tlen:a.tips.length≤b.tips.length
  heap:∀ id:Nat,id < a.floor→id < a.heap.length→b.heap[id]? =a.heap[id]?
  tips:∀ t:Nat,t < a.tfloor→t < a.tips.length→b.tips[t]? =a.tips[t]?
theorem Fl.refl (a:St):Fl a a:=⟨rfl,rfl,Nat.le_refl _,Nat.le_refl _,fun _ _ _=> rfl,fun _ _ _=> rfl⟩
theorem Fl.trans {a b c:St}(h:Fl a b)(k:Fl b c):Fl a c:=
  ⟨k.fl.trans h.fl,k.tfl.trans h.tfl,Nat.le_trans h.hlen k.hlen,Nat.le_trans h.tlen k.tlen,
    fun i h1 h2=> (k.heap i (by rw[h.fl];exact h1) (Nat.lt_of_lt_of_le h2 h.hlen)).trans (h.heap i h1 h2),
    fun i h1 h2=> (k.tips i (by rw[h.tfl];exact h1) (Nat.lt_of_lt_of_le h2 h.tlen)).trans (h.tips i h1 h2)⟩
theorem Fl.push (a:St)(b:Blk):Fl a (a.push b):=
  ⟨rfl,rfl,by simp[St.push],Nat.le_refl _,fun i _ h=> by simp only[St.push];rw[List.getElem?_append_left h],fun _ _ _=> rfl⟩
theorem Fl.setBlk {a b:St}{id:Nat}{blk:Blk}(h:a.setBlk id blk=some b):Fl a b:=by
  unfold St.setBlk at h
  split at h
  · rename_i hf
    simp only[Option.some.injEq]at h
    subst h
    refine⟨rfl,rfl,by simp,Nat.le_refl _,fun i h1 _=> ?_,fun _ _ _=> rfl⟩
    simp only[List.getElem?_set]
    rw[if_neg (by omega)]
  · cases h
theorem Fl.tip {a:St}(n:Nat):Fl a {a with tips:=a.tips++ [n]}:=
  ⟨rfl,rfl,Nat.le_refl _,by simp,fun _ _ _=> rfl,fun i _ h=> by simp only;rw[List.getElem?_append_left h]⟩
theorem Fl.tipSet {a:St}{t n:Nat}(h:a.tfloor≤t):Fl a {a with tips:=a.tips.set t n}:=
  ⟨rfl,rfl,Nat.le_refl _,by simp,fun _ _ _=> rfl,fun i h1 h2=> by simp only[List.getElem?_set];rw[if_neg (by omega)]⟩
theorem pureR_st {st st':St}{x:Option V}{v:V}(h:pureR st x=some (v,st')):x=some v∧st'=st:=by
  unfold pureR at h
  split at h
  · simp only[Option.some.injEq,Prod.mk.injEq]at h
    exact⟨by rw[h.1],h.2.symm⟩
  · cases h
theorem stR_st {st':St}{x:Option St}{v:V}(h:stR x=some (v,st')):x=some st'∧v= .un:=by
  unfold stR at h
  split at h
  · simp only[Option.some.injEq,Prod.mk.injEq]at h
    exact⟨by rw[h.2],h.1.symm⟩
  · cases h
theorem bind1_some {x:Option V}{f:V→Option (V×St)}{r:V×St}(h:bind1 x f=some r):∃ v,x=some v∧f v=some r:=by
  unfold bind1 at h
  split at h
  · exact⟨_,rfl,h⟩
  · cases h
theorem appV_fl {size bytes:Nat}{st st':St}{s x v:V}(h:appV size bytes st s x=some (v,st')):Fl st st':=by
  unfold appV at h
  split at h
  · split at h
    · split at h
      · rename_i hc
        simp only[Option.some.injEq,Prod.mk.injEq]at h
        obtain⟨_,rfl⟩:=h
        exact Fl.tipSet hc.2.1
      · cases h
    · cases h
  · split at h
    · split at h
      · simp only[Option.some.injEq,Prod.mk.injEq]at h
        obtain⟨_,rfl⟩:=h
        exact Fl.tip _
      · cases h
    · cases h
  · cases h
theorem storeV_fl {size:Nat}{st st':St}{p x:V}(h:storeV size st p x=some st'):Fl st st':=by
  unfold storeV at h
  split at h
  · split at h
    · split at h
      · exact Fl.setBlk h
      · cases h
    · cases h
  · cases h
theorem mapSetV_fl {str:Bool}{st st':St}{m k x:V}(h:mapSetV str st m k x=some st'):Fl st st':=by
  unfold mapSetV at h
  split at h
  · split at h
    · split at h
      · split at h
        · exact Fl.setBlk h
        · cases h
      · cases h
    · cases h
  · cases h
theorem cpyV_fl {size:Nat}{st st':St}{a b v:V}(h:cpyV size st a b=some (v,st')):Fl st st':=by
  unfold cpyV at h
  split at h
  · split at h
    · cases h
    · split at h
      · split at h
        · simp only[Option.map_eq_some_iff,Prod.mk.injEq]at h
          obtain⟨s,h1,_,rfl⟩:=h
          exact Fl.setBlk h1
        · cases h
      · cases h
  · split at h
    · cases h
    · split at h
      · split at h
        · simp only[Option.some.injEq,Prod.mk.injEq]at h
          exact h.2 ▸ Fl.refl _
        · cases h
      · cases h
  · cases h
def CallFl (call:CallF):Prop:=∀ f args st v st',call f args st=some (v,st')→Fl st st'
theorem opS_fl {P:Prog}{call:CallF}(hc:CallFl call){e:Env}{st st':St}{o:SOp}{v:V}(h:opS P call e st o=some (v,st')):Fl st st':=by
  cases o <;> simp only[opS]at h
  case mov=> exact(pureR_st h).2 ▸ Fl.refl _
  case tok=>
    obtain⟨x,_,h⟩:=bind1_some h
    split at h
    · simp only[Option.some.injEq,Prod.mk.injEq]at h
      obtain⟨_,rfl⟩:=h
      exact Fl.tip _
    · cases h
  case pick=>
    obtain⟨x,_,h⟩:=bind1_some h
    split at h
    · obtain⟨y,_,h⟩:=bind1_some h
      obtain⟨z,_,h⟩:=bind1_some h
      simp only[Option.some.injEq,Prod.mk.injEq]at h
      obtain⟨_,rfl⟩:=h
      exact Fl.refl _
    · cases h
  case s2b=>
    obtain⟨x,_,h⟩:=bind1_some h
    split at h
    · simp only[Option.some.injEq,Prod.mk.injEq]at h
      obtain⟨_,rfl⟩:=h
      exact Fl.refl _
    · cases h
  case build=>
    split at h
    · exact(pureR_st h).2 ▸ Fl.refl _
    · cases h
  case lits=>
    split at h
    · exact(pureR_st h).2 ▸ Fl.refl _
    · cases h
  case litsO=>
    split at h
    · split at h
      · split at h
        · simp only[Option.some.injEq,Prod.mk.injEq]at h
          obtain⟨_,rfl⟩:=h
          exact Fl.tip _
        · cases h
      · cases h
    · cases h
  case litsR=>
    split at h
    · split at h
      · simp only[Option.some.injEq,Prod.mk.injEq]at h
        obtain⟨_,rfl⟩:=h
        exact Fl.push _ _
      · cases h
    · cases h
  case box=>
    obtain⟨x,_,h⟩:=bind1_some h
    split at h
    · simp only[Option.some.injEq,Prod.mk.injEq]at h
      obtain⟨_,rfl⟩:=h
      exact Fl.push _ _
    · cases h
  case boxI=>
    obtain⟨x,_,h⟩:=bind1_some h
    split at h
    · exact(pureR_st h).2 ▸ Fl.refl _
    · cases h
  case alloc=>
    simp only[Option.some.injEq,Prod.mk.injEq]at h
    obtain⟨_,rfl⟩:=h
    exact Fl.push _ _
  case store=>
    obtain⟨x,_,h⟩:=bind1_some h
    obtain⟨y,_,h⟩:=bind1_some h
    exact storeV_fl (stR_st h).1
  case storeX=>
    obtain⟨x,_,h⟩:=bind1_some h
    obtain⟨y,_,h⟩:=bind1_some h
    split at h
    · exact storeV_fl (stR_st h).1
    · cases h
  case slc=>
    obtain⟨x,_,h⟩:=bind1_some h
    split at h
    · exact(pureR_st h).2 ▸ Fl.refl _
    · cases h
  case slcS=>
    obtain⟨x,_,h⟩:=bind1_some h
    split at h
    · exact(pureR_st h).2 ▸ Fl.refl _
    · cases h
  case slcA=>
    obtain⟨x,_,h⟩:=bind1_some h
    split at h
    · exact(pureR_st h).2 ▸ Fl.refl _
    · cases h
  case mkR=>
    obtain⟨x,_,h⟩:=bind1_some h
    obtain⟨y,_,h⟩:=bind1_some h
    split at h
    · split at h
      · simp only[Option.some.injEq,Prod.mk.injEq]at h
        obtain⟨_,rfl⟩:=h
        exact Fl.push _ _
      · cases h
    · cases h
  case mkD=>
    obtain⟨x,_,h⟩:=bind1_some h
    obtain⟨y,_,h⟩:=bind1_some h
    split at h
    · split at h
      · simp only[Option.some.injEq,Prod.mk.injEq]at h
        obtain⟨_,rfl⟩:=h
        exact Fl.refl _
      · cases h
    · cases h
  case mkO=>
    obtain⟨x,_,h⟩:=bind1_some h
    obtain⟨y,_,h⟩:=bind1_some h
    split at h
    · split at h
      · simp only[Option.some.injEq,Prod.mk.injEq]at h
        obtain⟨_,rfl⟩:=h
        exact Fl.tip _
      · cases h
    · cases h
  case lenA=>
    simp only[Option.some.injEq,Prod.mk.injEq]at h
    obtain⟨_,rfl⟩:=h
    exact Fl.refl _
  case appR=> cases h
  case appZ=>
    obtain⟨x,_,h⟩:=bind1_some h
    obtain⟨y,_,h⟩:=bind1_some h
    unfold appZV at h
    split at h
    · split at h
      · exact appV_fl h
      · cases h
    · cases h
  case app=>
    obtain⟨x,_,h⟩:=bind1_some h
    obtain⟨y,_,h⟩:=bind1_some h
    exact appV_fl h
  case clr=>
    obtain⟨x,_,h⟩:=bind1_some h
    unfold clrV at h
    split at h
    · split at h
      · split at h
        · split at h
          · simp only[Option.map_eq_some_iff,Prod.mk.injEq]at h
            obtain⟨s,h1,_,rfl⟩:=h
            exact Fl.setBlk h1
          · cases h
        · cases h
      · split at h
        · simp only[Option.some.injEq,Prod.mk.injEq]at h
          obtain⟨_,rfl⟩:=h
          exact Fl.refl _
        · cases h
    · simp only[Option.some.injEq,Prod.mk.injEq]at h
      obtain⟨_,rfl⟩:=h
      exact Fl.refl _
    · cases h
  case cpy=>
    obtain⟨x,_,h⟩:=bind1_some h
    obtain⟨y,_,h⟩:=bind1_some h
    exact cpyV_fl h
  case mkMap=>
    split at h
    · simp only[Option.some.injEq,Prod.mk.injEq]at h
      obtain⟨_,rfl⟩:=h
      exact Fl.push _ _
    · split at h
      · simp only[Option.some.injEq,Prod.mk.injEq]at h
        obtain⟨_,rfl⟩:=h
        exact Fl.push _ _
      · cases h
    · cases h
  case lenM=>
    obtain⟨x,_,h⟩:=bind1_some h
    split at h
    · simp only[Option.some.injEq,Prod.mk.injEq]at h
      obtain⟨_,rfl⟩:=h
      exact Fl.refl _
    · split at h
      · simp only[Option.some.injEq,Prod.mk.injEq]at h
        obtain⟨_,rfl⟩:=h
        exact Fl.refl _
      · cases h
    · cases h
  case mapSet=>
    obtain⟨x,_,h⟩:=bind1_some h
    obtain⟨y,_,h⟩:=bind1_some h
    obtain⟨z,_,h⟩:=bind1_some h
    split at h
    · exact mapSetV_fl (stR_st h).1
    · cases h
  case extract=>
    obtain⟨x,_,h⟩:=bind1_some h
    split at h
    · exact(pureR_st h).2 ▸ Fl.refl _
    · cases h
  case nilChk=>
    obtain⟨x,_,h⟩:=bind1_some h
    split at h <;> first
      | (cases h;done)
      | (simp only[Option.some.injEq,Prod.mk.injEq]at h
         obtain⟨_,rfl⟩:=h
         exact Fl.refl _)
  case call=>
    split at h
    · exact hc _ _ _ _ _ h
    · cases h
  case invoke=>
    obtain⟨x,_,h⟩:=bind1_some h
    split at h
    · split at h
      · exact hc _ _ _ _ _ h
      · cases h
    · cases h
  case mkFn=>
    split at h
    · exact(pureR_st h).2 ▸ Fl.refl _
    · cases h
  case callC=>
    obtain⟨x,_,h⟩:=bind1_some h
    split at h
    · split at h
      · split at h
        · exact hc _ _ _ _ _ h
        · cases h
      · cases h
    · cases h
  case mx=>
    obtain⟨x,_,h⟩:=bind1_some h
    obtain⟨y,_,h⟩:=bind1_some h
    exact(pureR_st h).2 ▸ Fl.refl _
  case mn=>
    obtain⟨x,_,h⟩:=bind1_some h
    obtain⟨y,_,h⟩:=bind1_some h
    exact(pureR_st h).2 ▸ Fl.refl _
  all_goals first
    | (obtain⟨x,_,h⟩:=bind1_some h
       first
        | exact(pureR_st h).2 ▸ Fl.refl _
        | (obtain⟨y,_,h⟩:=bind1_some h
           exact(pureR_st h).2 ▸ Fl.refl _))
theorem opsS_fl {P:Prog}{call:CallF}(hc:CallFl call){all:List SOper}:∀ {l:List SOper} {e e':Env} {st st':St},opsS P call all l e st=some (e',st')→Fl st st'
  | [],e,e',st,st',h=> by
    simp only[opsS,Option.some.injEq,Prod.mk.injEq]at h
    exact h.2 ▸ Fl.refl _
  | o::r,e,e',st,st',h=> by
    simp only[opsS]at h
    split at h
    · split at h
      · rename_i v s1 ho
        exact(opS_fl hc ho).trans (opsS_fl hc h)
      · cases h
    · exact opsS_fl hc h
    · cases h
def StepFl (step:Env→St→Option Out):Prop:=∀ e st x e' st',step e st=some (x,e',st')→Fl st st'
theorem round_fl {live:List Nat}{tr:Bool}{step:Env→St→Option Out}(hs:StepFl step):StepFl (round live tr step):=by
  intro e st x e' st' h
  unfold round at h
  simp only[Option.map_eq_some_iff]at h
  obtain⟨⟨x1,e1,s1⟩,h1,h2⟩:=h
  have hf:=hs _ _ _ _ _ h1
  unfold cutR at h2
  unfold enterR at hf
  cases tr with
  | false=>
    simp only[Bool.false_eq_true,if_false,Prod.mk.injEq]at h2 hf
    obtain⟨_,_,rfl⟩:=h2
    exact hf
  | true=>
    simp only[if_true,Prod.mk.injEq]at h2 hf
    obtain⟨_,_,rfl⟩:=h2
    refine⟨rfl,rfl,Nat.le_refl _,?_,fun _ _ _=> rfl,fun t h1 h2=> ?_⟩
    · have:=hf.tlen
      simp only[List.length_take]at this ⊢
      omega
    · have:=hf.tips t h1 h2
      simp only
      rw[List.getElem?_take,if_pos h2]
      exact this
theorem iter_fl {step:Env→St→Option Out}(hs:StepFl step):∀ n,StepFl (iter step n)
  | 0=> fun e st x e' st' h=> by simp[iter]at h
  | n+1=> fun e st x e' st' h=> by
    unfold iter at h
    split at h
    · rename_i e1 s1 h1
      exact(hs _ _ _ _ _ h1).trans (iter_fl hs n _ _ _ _ _ h)
    · exact hs _ _ _ _ _ h
theorem codeS_fl {P:Prog}{call:CallF}(hc:CallFl call)(k:Nat):∀ c:SCode,StepFl (codeS P call k c)
  | .skip=> fun e st x e' st' h=> by
    simp only[codeS,Option.some.injEq,Prod.mk.injEq]at h
    exact h.2.2 ▸ Fl.refl _
  | .region ops d _=> fun e st x e' st' h=> by
    simp only[codeS]at h
    split at h
    · rename_i h1
      simp only[Option.some.injEq,Prod.mk.injEq]at h
      obtain⟨_,rfl,rfl⟩:=h
      exact opsS_fl hc h1
    · cases h
  | .seq a b=> fun e st x e' st' h=> by
    simp only[codeS]at h
    split at h
    · rename_i h1
      exact(codeS_fl hc k a _ _ _ _ _ h1).trans (codeS_fl hc k b _ _ _ _ _ h)
    · exact codeS_fl hc k a _ _ _ _ _ h
  | .cond c a b=> fun e st x e' st' h=> by
    simp only[codeS]at h
    split at h
    · exact codeS_fl hc k a _ _ _ _ _ h
    · exact codeS_fl hc k b _ _ _ _ _ h
    · cases h
  | .block id c=> fun e st x e' st' h=> by
    simp only[codeS]at h
    split at h
    · rename_i h1
      split at h
      · simp only[Option.some.injEq,Prod.mk.injEq]at h
        obtain⟨_,rfl,rfl⟩:=h
        exact codeS_fl hc k c _ _ _ _ _ h1
      · simp only[Option.some.injEq,Prod.mk.injEq]at h
        obtain⟨_,rfl,rfl⟩:=h
        exact codeS_fl hc k c _ _ _ _ _ h1
    · exact codeS_fl hc k c _ _ _ _ _ h
  | .loop live tr c=> fun e st x e' st' h=> by
    simp only[codeS]at h
    exact iter_fl (round_fl (codeS_fl hc k c)) k _ _ _ _ _ h
  | .exit id=> fun e st x e' st' h=> by
    simp only[codeS,Option.some.injEq,Prod.mk.injEq]at h
    exact h.2.2 ▸ Fl.refl _
  | .ret=> fun e st x e' st' h=> by
    simp only[codeS,Option.some.injEq,Prod.mk.injEq]at h
    exact h.2.2 ▸ Fl.refl _
  | .keep live c=> fun e st x e' st' h=> by
    simp only[codeS]at h
    exact codeS_fl hc k c _ _ _ _ _ h
theorem runF_fl {P:Prog}:∀ k,CallFl (runF P k)
  | 0=> fun f args st v st' h=> by simp[runF]at h
  | k+1=> fun f args st v st' h=> by
    simp only[runF]at h
    split at h
    · rename_i fn hfn
      split at h
      · unfold enterF at h
        split at h
        · split at h
          case isFalse=> cases h
          split at h
          · split at h
            · simp only[Option.some.injEq,Prod.mk.injEq]at h
              exact h.2 ▸ Fl.refl _
            · cases h
          · cases h
        unfold finish at h
        split at h
        · cases h
        · rename_i e1 s1 _ hr
          have hf:=codeS_fl (runF_fl k) k fn.body _ _ _ _ _ hr
          split at h
          · split at h
            · simp only[Option.map_eq_some_iff,Prod.mk.injEq]at h
              obtain⟨_,_,_,rfl⟩:=h
              exact Fl.refl _
            · rename_i hp
              simp only[Option.some.injEq,Prod.mk.injEq]at h
              obtain⟨_,rfl⟩:=h
              simpa[start,hp]using hf
          · cases h
        · cases h
      · cases h
    · split at h
      · unfold pureR at h
        split at h
        · simp only[Option.some.injEq,Prod.mk.injEq]at h
          exact h.2 ▸ Fl.refl _
        · cases h
      · cases h
/-! ### The tie behind a cut -/
section
variable {P:Prog}{κ κ0:K}{st st0:St}
theorem RepC.keeps {x:V}{v:Value}(h:RepC κ0 x v):keepsC κ0.ρ.length κ0.tk.length x:=by
  cases x <;> simp only[keepsC]
  case own=> obtain⟨_,tok,h,_⟩:=h;exact(List.getElem?_eq_some_iff.1 h).1
  case ptr=> obtain⟨b,h,_⟩:=h;exact(List.getElem?_eq_some_iff.1 h).1
  case rsl=> obtain⟨b,o,h,_⟩:=h;exact(List.getElem?_eq_some_iff.1 h).1
  case map=> obtain⟨b,h,_⟩:=h;exact(List.getElem?_eq_some_iff.1 h).1
  case fn=>
    obtain⟨l,_,h⟩:=h
    intro p hp
    obtain⟨i,hi⟩:=List.mem_iff_getElem?.1 hp
    obtain⟨y,_,b,hb,_⟩:=h.get hi
    exact(List.getElem?_eq_some_iff.1 hb).1
theorem RepC.cut {x:V}{v:Value}{h t:Nat}(hk:keepsC h t x)(hr:RepC κ x v):RepC (κ.cut h t) x v:=by
  cases x with
  | d d=> exact RepD.mono K.imm_cut _ _ hr
  | own sz n nz cs k=>
    simp only[keepsC]at hk
    obtain⟨h1,tok,h2,h3⟩:=hr
    exact⟨RepD.mono K.imm_cut _ _ h1,tok,by show(κ.tk.take t)[k]? =_;rw[List.getElem?_take,if_pos hk];exact h2,h3⟩
  | ptr id off=>
    simp only[keepsC]at hk
    obtain⟨b,h1,h2⟩:=hr
    exact⟨b,by show(κ.ρ.take h)[id]? =_;rw[List.getElem?_take,if_pos hk];exact h1,h2⟩
  | ep cs=>
    obtain⟨A,h1,h2⟩:=hr
    exact⟨A,h1,h2.imp id fun⟨b,o,h3,h4⟩=> ⟨b,o,h3,RepL.mono K.imm_cut _ _ _ h4⟩⟩
  | rsl size id off n cap=>
    simp only[keepsC]at hk
    obtain⟨b,o,h1,h2⟩:=hr
    exact⟨b,o,by show(κ.ρ.take h)[id]? =_;rw[List.getElem?_take,if_pos hk];exact h1,h2⟩
  | map id=>
    simp only[keepsC]at hk
    obtain⟨b,h1,h2⟩:=hr
    exact⟨b,by show(κ.ρ.take h)[id]? =_;rw[List.getElem?_take,if_pos hk];exact h1,h2⟩
  | fn f caps=>
    simp only[keepsC]at hk
    obtain⟨l,h1,h2⟩:=hr
    refine⟨l,h1,All2.of_get h2.length fun j c y hj hy=> ?_⟩
    obtain⟨y',hy',b,q1,q2⟩:=h2.get hj
    rw[hy]at hy'
    obtain rfl:=Option.some.inj hy'
    exact⟨b,by show(κ.ρ.take h)[c.1]? =_;rw[List.getElem?_take,if_pos (hk c (List.mem_of_getElem? hj))];exact q1,q2⟩
  | agg=> exact hr.elim
  | tup=> exact hr.elim
  | un=> exact hr.elim
theorem all_keeps {cs:List V}{l:List Value}(h:All2 (RepC κ0) cs l):∀ x∈cs,keepsC κ0.ρ.length κ0.tk.length x:=by
  induction h with
  | nil=> intro x hx;cases hx
  | cons h _ ih=>
    intro x hx
    cases hx with
    | head=> exact h.keeps
    | tail _ hx=> exact ih x hx
theorem all_cut {h t:Nat}{cs:List V}{l:List Value}(ha:All2 (RepC κ) cs l)(hk:∀ x∈cs,keepsC h t x):All2 (RepC (κ.cut h t)) cs l:=by
  induction ha with
  | nil=> exact .nil
  | cons h1 _ ih=> exact .cons (h1.cut (hk _ List.mem_cons_self)) (ih fun x hx=> hk x (List.mem_cons_of_mem _ hx))
def keeps1 (h t:Nat)(x:V):Prop:=match x with
  | .agg cs=> ∀ x∈cs,keepsC h t x
  | x=> keepsC h t x
theorem Rep1.keeps {x:V}{v:Value}(h:Rep1 κ0 x v):keeps1 κ0.ρ.length κ0.tk.length x:=by
  cases x with
  | agg cs=> obtain⟨l,_,h⟩:=h;exact all_keeps h
  | un=> trivial
  | tup=> exact h.elim
  | d=> trivial
  | ep=> trivial
  | own=> exact RepC.keeps (Rep1.toC h (by simp) (by simp))
  | ptr=> exact RepC.keeps (Rep1.toC h (by simp) (by simp))
  | rsl=> exact RepC.keeps (Rep1.toC h (by simp) (by simp))
  | map=> exact RepC.keeps (Rep1.toC h (by simp) (by simp))
  | fn=> exact RepC.keeps (Rep1.toC h (by simp) (by simp))
theorem Rep1.cut {x:V}{v:Value}{h t:Nat}(hk:keeps1 h t x)(hr:Rep1 κ x v):Rep1 (κ.cut h t) x v:=by
  cases x with
  | agg cs=> obtain⟨l,h1,h2⟩:=hr;exact⟨l,h1,all_cut h2 hk⟩
  | un=> exact hr
  | tup=> exact hr.elim
  | d=> exact Rep1.ofC (RepC.cut (x:= .d _) trivial hr)
  | ep=> exact Rep1.ofC (RepC.cut (x:= .ep _) trivial hr)
  | own=> exact Rep1.ofC (RepC.cut hk (Rep1.toC hr (by simp) (by simp)))
  | ptr=> exact Rep1.ofC (RepC.cut hk (Rep1.toC hr (by simp) (by simp)))
  | rsl=> exact Rep1.ofC (RepC.cut hk (Rep1.toC hr (by simp) (by simp)))
  | map=> exact Rep1.ofC (RepC.cut hk (Rep1.toC hr (by simp) (by simp)))
  | fn=> exact Rep1.ofC (RepC.cut hk (Rep1.toC hr (by simp) (by simp)))
theorem ents_cut {es:List (D×V)}{l l0:List MapEntry}{h t:Nat}(h0:All2 (RepE κ0) es l0)(ha:All2 (RepE κ) es l)(hh:κ0.ρ.length=h)(ht:κ0.tk.length=t):All2 (RepE (κ.cut h t)) es l:=by
  subst hh
  subst ht
  induction ha generalizing l0 with
  | nil=> exact .nil
  | cons h1 _ ih=>
    cases h0 with
    | cons k1 k2=> exact .cons ⟨RepD.mono K.imm_cut _ _ h1.1,Rep1.cut k1.2.keeps h1.2⟩ (ih k2)
theorem Inv.cut (h0:Inv P κ0 st0)(hle:κ0.le κ)(hi:Inv P κ st)(hh:st.heap.take st0.heap.length=st0.heap){f tf:Nat}:
    κ0.le (κ.cut st0.heap.length st0.tips.length)∧Inv P (κ.cut st0.heap.length st0.tips.length) {heap:=st0.heap,tips:=st.tips.take st0.tips.length,floor:=f,tfloor:=tf}:=by
  have hl:=h0.len
  have ht:κ0.tk.length=st0.tips.length:=by rw[h0.tips];simp
  have hrow:∀ id,St.row {heap:=st0.heap,tips:=st.tips.take st0.tips.length,floor:=f,tfloor:=tf} id=st0.row id:=fun _=> rfl
  have hmap:∀ id,St.mapOf {heap:=st0.heap,tips:=st.tips.take st0.tips.length,floor:=f,tfloor:=tf} id=st0.mapOf id:=fun _=> rfl
  have hget:∀ id,id < st0.heap.length→st.heap[id]? =st0.heap[id]? :=fun id h=> by
    have:(st.heap.take st0.heap.length)[id]? =st0.heap[id]? :=by rw[hh]
    rwa [List.getElem?_take,if_pos h]at this
  have hρ:∀ i b,(κ.ρ.take st0.heap.length)[i]? =some b→i < st0.heap.length∧κ.ρ[i]? =some b:=fun i b h=> take_get h
  refine⟨K.le_cut hle (by omega) (by omega) (fun i b h=> (hi.ρb i b h).1),⟨hi.below,?_,?_,?_,?_,?_,?_,?_,?_,fun b o h=> hi.muts b o h.1,fun n c h=> RepL.mono K.imm_cut _ _ _ (hi.globs n c h),hi.wok⟩⟩
  · show(κ.ρ.take _).length=st0.heap.length
    have:st0.heap.length≤st.heap.length:=by
      have:=congrArg List.length hh
      simp only[List.length_take]at this
      omega
    rw[List.length_take,hi.len]
    omega
  · show st.tips.take _=(κ.tk.take _).map _
    rw[hi.tips,List.map_take]
  · intro i j b h1 h2
    exact hi.nd i j b (hρ _ _ h1).2 (hρ _ _ h2).2
  · intro i b h
    exact hi.ρb i b (hρ _ _ h).2
  · intro id cs h
    rw[hrow]at h
    have hlt:=St.row_lt h
    have h':st.row id=some cs:=by unfold St.row at h ⊢;rw[hget id hlt];exact h
    obtain⟨b,arr,e,h1,h2,h3,h4⟩:=hi.rows id cs h'
    obtain⟨b0,arr0,e0,k1,k2,k3,k4⟩:=h0.rows id cs h
    refine⟨b,arr,e,?_,h2,all_cut h3 ?_,fun o=> ⟨h4 o,fun i hge hib=> ?_⟩⟩
    · show(κ.ρ.take _)[id]? =_
      rw[List.getElem?_take,if_pos hlt]
      exact h1
    · have:=all_keeps k3
      rw[hl,ht]at this
      exact this
    · have:=hi.nd _ _ _ h1 hib
      omega
  · intro id es h
    rw[hmap]at h
    have hlt:=St.mapOf_lt h
    have h':st.mapOf id=some es:=by unfold St.mapOf at h ⊢;rw[hget id hlt];exact h
    obtain⟨b,arr,c,h1,h2,h3,hst⟩:=hi.maps id es h'
    obtain⟨b0,arr0,c0,k1,k2,k3,_⟩:=h0.maps id es h
    refine⟨b,arr,c,?_,h2,ents_cut k3 h3 hl ht,hst⟩
    show(κ.ρ.take _)[id]? =_
    rw[List.getElem?_take,if_pos hlt]
    exact h1
  · intro t tok h
    obtain⟨_,h⟩:=take_get h
    obtain⟨h1,h2⟩:=hi.toks t tok h
    refine⟨h1,fun g hg=> ⟨fun i hib=> (h2 g hg).1 i (hρ _ _ hib).2,fun o ho=> ⟨(h2 g hg).2 o ho,fun i _ hib=> (h2 g hg).1 i hib⟩⟩⟩
  · intro t t' tok tok' g h1 h2
    exact hi.tdis t t' tok tok' g (take_get h1).2 (take_get h2).2
theorem Inv.floor (hi:Inv P κ st){f tf:Nat}:Inv P κ {st with floor:=f,tfloor:=tf}:=
  ⟨hi.below,hi.len,hi.tips,hi.nd,hi.ρb,hi.rows,hi.maps,hi.toks,hi.tdis,hi.muts,hi.globs,hi.wok⟩
end
end Go.Sh
namespace Go.Sh
open Go.RowKit
def fieldIs (P:Program)(s:TypeId)(f off:Nat):Option Field:=match P.underlying s with
  | some (.struct fs)=> match fs[f]? with
    | some fd=> if fd.offset=off then some fd else none
    | none=> none
  | _=> none
def slIs (P:Program)(t:TypeId)(size:Nat):Bool:=match P.underlying t with
  | some (.slice e)=> szIs P e size
  | _=> false
def arrIs (P:Program)(t:TypeId)(len size:Nat):Bool:=match P.underlying t with
  | some (.array n e)=> n==len && szIs P e size
  | _=> false
def strIs (P:Program)(t:TypeId):Bool:=match P.underlying t with
  | some .string=> true
  | _=> false
def intIs (P:Program)(t:TypeId)(k:IntKind):Bool:=match P.underlying t with
  | some (.int k')=> k'==k
  | _=> false
section
variable {P:Program}{Pr:Prog}{κ:K}{st:St}{w:World}
theorem slIs_spec {t:TypeId}{n:Nat}(h:slIs P t n=true):∃ e,P.underlying t=some (.slice e)∧szIs P e n=true:=by
  unfold slIs at h
  split at h
  · exact⟨_,by assumption,h⟩
  · cases h
theorem arrIs_spec {t:TypeId}{len n:Nat}(h:arrIs P t len n=true):∃ e,P.underlying t=some (.array len e)∧szIs P e n=true:=by
  unfold arrIs at h
  split at h
  · simp only[Bool.and_eq_true,beq_iff_eq]at h
    obtain⟨rfl,h⟩:=h
    exact⟨_,by assumption,h⟩
  · cases h
theorem strIs_spec {t:TypeId}(h:strIs P t=true):P.underlying t=some .string:=by
  unfold strIs at h
  split at h
  · assumption
  · cases h
theorem intIs_spec {t:TypeId}{k:IntKind}(h:intIs P t k=true):P.underlying t=some (.int k):=by
  unfold intIs at h
  split at h
  · simp only[beq_iff_eq]at h
    subst h
    assumption
  · cases h
theorem fieldIs_spec {s:TypeId}{f off:Nat}{fd:Field}(h:fieldIs P s f off=some fd):∃ fs,P.underlying s=some (.struct fs)∧fs[f]? =some fd∧fd.offset=off:=by
  unfold fieldIs at h
  split at h
  · rename_i fs hfs
    split at h
    · rename_i fd' hfd
      split at h
      · rename_i ho
        simp only[Option.some.injEq]at h
        subst h
        exact⟨fs,hfs,hfd,ho⟩
      · cases h
    · cases h
  · cases h
/-! ### Loads -/
theorem run_loadVar_at {t:TypeId}{size:Nat}{agg:Bool}(hs:szIs P t size=true)(hg:aggIs P t agg=true){b o:Nat}{l:List Value}(hl:l.length=size)(h1:agg=false→size=1)
    (hc:∀ j x,l[j]? =some x→w.cell? ⟨b,o+j,none⟩=some x):(loadVar t ⟨b,o,none⟩).run P w= .ok (if agg then .agg l.toArray else l.headD undef) w:=by
  unfold loadVar
  simp only[Sem.run_bind,run_isAgg hg,Result.andThen_ok]
  cases agg with
  | true=>
    have h2:=run_loadCells_list (P:=P) w ⟨b,o,none⟩ l (fun j v hj=> by rw[Addr.add_lit];exact hc j v hj)
    simp only[if_true,Sem.run_bind,run_sizeOf hs,Result.andThen_ok]
    rw[← hl,h2]
    rfl
  | false=>
    have hone:=h1 rfl
    subst hone
    match l,hl with
    | [x],_=>
      have:=hc 0 x rfl
      simp only[Nat.add_zero]at this
      simp[this]
theorem load_sound (hi:Inv Pr κ st){t:TypeId}{size:Nat}{agg:Bool}(hs:szIs P t size=true)(hg:aggIs P t agg=true){p z:V}(h:loadV size agg st p=some z){vp:Value}(hp:Rep κ p vp):
    ∃ v,(Instr.loadAt t vp).run P κ.w= .ok v κ.w∧Rep1 κ z v:=by
  unfold loadV at h
  split at h
  · rename_i id off
    split at h
    · rename_i cs hrow
      split at h
      · rename_i hlen
        obtain⟨b,h1,rfl⟩:=hp
        obtain⟨b',arr,e,h2,h3,h4,h5⟩:=hi.rows id cs hrow
        obtain rfl:b=b':=by rw[h1]at h2;exact Option.some.inj h2
        have ha:=(h4.drop off).take size
        have hz:=mkV_rep h ha
        refine⟨_,?_,hz⟩
        have hlen4:=h4.length
        show(Instr.loadAt t (.pointer (some ⟨b,off,none⟩))).run P κ.w=_
        simp only[Instr.loadAt,Instr.sureAddr,Sem.run_bind,Sem.run_pure,Result.andThen_ok]
        refine run_loadVar_at hs hg ?_ ?_ ?_
        · simp only[List.length_take,List.length_drop];omega
        · intro hf
          have:=mkV_len h hf
          simp only[List.length_take,List.length_drop]at this
          omega
        · intro j x hj
          obtain⟨_,hj⟩:=take_get hj
          rw[List.getElem?_drop]at hj
          rw[cell_of_row κ.w b (off+j) arr e (0,0) h3]
          simpa using hj
      · cases h
    · cases h
  · rename_i cells
    split at h
    · rename_i hlen
      obtain⟨A,rfl,hl⟩:=hp
      obtain⟨b,o,rfl,hl2⟩:∃ b o,A=⟨b,o,none⟩∧RepL κ.L κ.imm cells b o:=hl.resolve_left (by rintro rfl;simp at hlen;omega)
      obtain⟨l,ha,hc⟩:=(hl2.take size).vals
      have hz:=mkV_rep h (ofDs_rep ha)
      refine⟨_,?_,hz⟩
      have:=ha.length
      simp only[List.length_take]at this
      show(Instr.loadAt t (.pointer (some ⟨b,o,none⟩))).run P κ.w=_
      simp only[Instr.loadAt,Instr.sureAddr,Sem.run_bind,Sem.run_pure,Result.andThen_ok]
      refine run_loadVar_at hs hg (by omega) ?_ (fun j x hj=> (hc j x hj).1)
      intro hf
      have:=mkV_len h hf
      simp only[ofDs,List.length_map,List.length_take]at this
      omega
    · cases h
  · cases h
/-! ### Addresses -/
theorem faddr_sound {s:TypeId}{f off:Nat}{fd:Field}(hf:fieldIs P s f off=some fd)(hz:(match P.info? fd.type with | some i=> i.size !=0 | none=> false)=true){p z:V}(h:faddrV off p=some z){vp:Value}(hp:Rep κ p vp):
    ∃ v,(Instr.fieldAt s vp f).run P w= .ok v w∧Rep κ z v:=by
  obtain⟨fs,h1,h2,rfl⟩:=fieldIs_spec hf
  cases hi:P.info? fd.type with
  | none=> rw[hi]at hz;cases hz
  | some i=>
    rw[hi]at hz
    have hz':i.size≠0:=by simpa using hz
    have hrun:∀ A,(Instr.fieldAt s (.pointer (some A)) f).run P w= .ok (.pointer (some (A.add fd.offset))) w:=fun b=> by
      simp[Instr.fieldAt,run_underlying h1,h2,Instr.sureAddr,fieldPlace,sizeOf,typeInfo,hi,hz']
    unfold faddrV at h
    split at h
    · simp only[Option.some.injEq]at h
      subst h
      obtain⟨b,h1,rfl⟩:=hp
      exact⟨_,hrun _,b,h1,by rw[Addr.add_lit]⟩
    · simp only[Option.some.injEq]at h
      subst h
      obtain⟨A,rfl,hl⟩:=hp
      refine⟨_,hrun A,_,rfl,?_⟩
      rcases hl with rfl | ⟨b,o,rfl,hl⟩
      · exact .inl (by simp)
      · exact .inr ⟨b,_,Addr.add_lit _ _ _,hl.drop _⟩
    · cases h
theorem intV_rep {x:V}{n:Int}(h:intV x=some n){v:Value}(hx:Rep κ x v):∃ k,v= .int k n:=by
  unfold intV at h
  split at h
  · simp only[Option.some.injEq]at h
    subst h
    exact⟨_,rep_i.1 hx⟩
  · cases h
theorem iaddr_sound {t:TypeId}{size:Nat}(ht:slIs P t size=true){x i z:V}(h:iaddrV size x i=some z){vx vi:Value}(hx:Rep κ x vx)(hi:Rep κ i vi):
    ∃ v,(Instr.indexAt t vx vi).run P w= .ok v w∧Rep κ z v:=by
  obtain⟨e,hu,hsz⟩:=slIs_spec ht
  unfold iaddrV at h
  split at h
  · cases h
  rename_i n hn
  obtain⟨k,rfl⟩:=intV_rep hn hi
  have hrun:∀ (b o len cap:Nat),0≤n→n < len→(Instr.indexAt t (.slice (some ⟨b,o,none⟩) len cap) (.int k n)).run P w= .ok (.pointer (some ⟨b,o+n.toNat * size,none⟩)) w:=fun b o len cap h0 h1=> by
    simp[Instr.indexAt,run_underlying hu,asIntOf,h0,h1,run_sizeOf hsz,Addr.add_lit]
  have hD:∀ (len:Nat) nz cs,RepD κ.L κ.imm (.sl len nz cs) vx→0≤n→n < len→∃ v,(Instr.indexAt t vx (.int k n)).run P w= .ok v w∧Rep κ (.ep (cs.drop (n.toNat * size))) v:=by
    intro len nz cs hd h0 h1
    simp only[RepD]at hd
    obtain⟨A,cap,rfl,h2,h3,h4,h5⟩:=hd
    rcases h5 with rfl | ⟨b,o,rfl,hl⟩
    · cases A with
      | none=>
        have:=h4 rfl
        omega
      | some a=>
        simp only[List.drop_nil]
        exact⟨.pointer (some (a.add (n.toNat * size))),by simp[Instr.indexAt,run_underlying hu,asIntOf,h0,h1,run_sizeOf hsz],_,rfl,.inl rfl⟩
    · exact⟨_,hrun b o len cap h0 h1,_,rfl,.inr ⟨b,_,rfl,hl.drop _⟩⟩
  split at h
  · split at h
    · rename_i hb
      simp only[Option.some.injEq]at h
      subst h
      exact hD _ _ _ hx hb.1 hb.2
    · cases h
  · split at h
    · rename_i hb
      simp only[Option.some.injEq]at h
      subst h
      exact hD _ _ _ hx.1 hb.1 hb.2
    · cases h
  · split at h
    · rename_i hb
      simp only[Option.some.injEq]at h
      subst h
      obtain⟨b,o,h1,rfl,hcap,ho⟩:=hx
      obtain rfl:=ho.resolve_left (by omega)
      exact⟨_,hrun b _ _ _ hb.1 hb.2,b,h1,rfl⟩
    · cases h
  · cases h
theorem iaddrA_sound {t:TypeId}{len size:Nat}(ht:arrIs P t len size=true){p i z:V}(h:iaddrAV len size p i=some z){vp vi:Value}(hp:Rep κ p vp)(hi:Rep κ i vi):
    ∃ v,(Instr.indexAt t vp vi).run P w= .ok v w∧Rep κ z v:=by
  obtain⟨e,hu,hsz⟩:=arrIs_spec ht
  unfold iaddrAV at h
  split at h
  · cases h
  rename_i n hn
  obtain⟨k,rfl⟩:=intV_rep hn hi
  split at h
  case isFalse=> cases h
  rename_i hb
  have hrun:∀ A,(Instr.indexAt t (.pointer (some A)) (.int k n)).run P w= .ok (.pointer (some (A.add (n.toNat * size)))) w:=fun A=> by
    simp[Instr.indexAt,run_underlying hu,asIntOf,hb.1,hb.2,run_sizeOf hsz,Instr.sureAddr]
  unfold faddrV at h
  split at h
  · simp only[Option.some.injEq]at h
    subst h
    obtain⟨b,h1,rfl⟩:=hp
    exact⟨_,hrun _,b,h1,by rw[Addr.add_lit]⟩
  · simp only[Option.some.injEq]at h
    subst h
    obtain⟨A,rfl,hl⟩:=hp
    refine⟨_,hrun A,_,rfl,?_⟩
    rcases hl with rfl | ⟨b,o,rfl,hl⟩
    · exact .inl (by simp)
    · exact .inr ⟨b,_,Addr.add_lit _ _ _,hl.drop _⟩
  · cases h
/-! ### Parts of values -/
theorem field_sound {s:TypeId}{f off size:Nat}{agg:Bool}{fd:Field}(hf:fieldIs P s f off=some fd)(hs:szIs P fd.type size=true)(hg:aggIs P fd.type agg=true){x z:V}(h:fieldV off size agg x=some z){vx:Value}(hx:Rep κ x vx):
    ∃ v,(Instr.field s vx f).run P w= .ok v w∧Rep1 κ z v:=by
  obtain⟨fs,h1,h2,rfl⟩:=fieldIs_spec hf
  unfold fieldV at h
  split at h
  · split at h
    · rename_i hlen
      obtain⟨l,rfl,ha⟩:=hx
      obtain⟨v,hv,hz⟩:=part_sound (w:=w) hs hg ha hlen h
      exact⟨v,by simp[Instr.field,run_underlying h1,h2,asAgg,hv],hz⟩
    · cases h
  · cases h
theorem idx_sound {t:TypeId}{len size:Nat}{agg:Bool}{e:TypeId}(ht:P.underlying t=some (.array len e))(hs:szIs P e size=true)(hg:aggIs P e agg=true){x i z:V}(h:idxV len size agg x i=some z){vx vi:Value}(hx:Rep κ x vx)(hi:Rep κ i vi):
    ∃ v,(Instr.index t vx vi).run P w= .ok v w∧Rep1 κ z v:=by
  unfold idxV at h
  split at h
  · cases h
  rename_i n hn
  obtain⟨k,rfl⟩:=intV_rep hn hi
  split at h
  case isFalse=> cases h
  rename_i hb
  unfold fieldV at h
  split at h
  · split at h
    · rename_i hlen
      obtain⟨l,rfl,ha⟩:=hx
      obtain⟨v,hv,hz⟩:=part_sound (w:=w) hs hg ha hlen h
      exact⟨v,by simp[Instr.index,run_underlying ht,asIntOf,hb.1,hb.2,run_sizeOf hs,hv],hz⟩
    · cases h
  · cases h
theorem get_mk (l:List UInt8)(i:Nat):(⟨l.toArray⟩:ByteArray)[i]? =l[i]? :=by
  by_cases h:i < l.length
  · rw[getElem?_pos (⟨l.toArray⟩:ByteArray) i h,getElem?_pos l i h]
    rfl
  · rw[getElem?_neg (⟨l.toArray⟩:ByteArray) i h,getElem?_neg l i h]
theorem idxS_sound {t:TypeId}(ht:strIs P t=true){x i z:V}(h:idxSV x i=some z){vx vi:Value}(hx:Rep κ x vx)(hi:Rep κ i vi):
    ∃ v,(Instr.index t vx vi).run P w= .ok v w∧Rep κ z v:=by
  have hu:=strIs_spec ht
  unfold idxSV at h
  split at h
  · rename_i l n hn
    obtain⟨k,rfl⟩:=intV_rep hn hi
    rw[rep_s]at hx
    subst hx
    split at h
    · rename_i h0
      simp only[Option.map_eq_some_iff]at h
      obtain⟨b,hb,rfl⟩:=h
      exact⟨_,by simp[Instr.index,run_underlying hu,asIntOf,h0,get_mk,hb],rep_i.2 rfl⟩
    · cases h
  · cases h
theorem lenS_sound {t:TypeId}(ht:strIs P t=true){x:V}{n:Nat}(h:lenS x=some n){vx:Value}(hx:Rep κ x vx)(ty:TypeId):(Builtin.len_ #[t] ty #[vx]).run P w= .ok (goInt n) w:=by
  unfold lenS at h
  split at h
  · simp only[Option.some.injEq]at h
    subst h
    rw[rep_s]at hx
    subst hx
    simp[Builtin.len_,run_underlying (strIs_spec ht),size_mk]
  · cases h
theorem len_sound {t e:TypeId}(he:P.underlying t=some (.slice e)){x:V}{n:Nat}(h:lenV x=some n){vx:Value}(hx:Rep κ x vx)(ty:TypeId):(Builtin.len_ #[t] ty #[vx]).run P w= .ok (goInt n) w:=by
  unfold lenV at h
  split at h
  · simp only[Option.some.injEq]at h
    subst h
    have hx:RepD κ.L κ.imm _ vx:=hx
    simp only[RepD]at hx
    obtain⟨A,cap,rfl,_⟩:=hx
    simp[Builtin.len_,run_underlying he]
  · simp only[Option.some.injEq]at h
    subst h
    have hx:RepD κ.L κ.imm _ vx:=hx.1
    simp only[RepD]at hx
    obtain⟨A,cap,rfl,_⟩:=hx
    simp[Builtin.len_,run_underlying he]
  · simp only[Option.some.injEq]at h
    subst h
    obtain⟨b,o,_,rfl,_⟩:=hx
    simp[Builtin.len_,run_underlying he]
  · cases h
theorem conv_sound {src dst:TypeId}{k:IntKind}(hs:(P.underlying src).isSome=true)(hd:intIs P dst k=true){x z:V}(h:convV k x=some z){vx:Value}(hx:Rep κ x vx):
    ∃ v,(convert src dst vx).run P w= .ok v w∧Rep κ z v:=by
  unfold convV at h
  split at h
  · simp only[Option.some.injEq]at h
    subst h
    rw[rep_i]at hx
    subst hx
    obtain⟨d,hu⟩:=Option.isSome_iff_exists.1 hs
    refine⟨_,?_,rep_i.2 rfl⟩
    unfold convert
    simp only[Sem.run_bind,run_underlying hu,run_underlying (intIs_spec hd),Result.andThen_ok]
    cases d <;> rfl
  · cases h
end
end Go.Sh
namespace Go.Sh
open Go.RowKit
section
variable {P:Program}{Pr:Prog}{κ:K}{st:St}{w:World}
def ORep (κ:K):Option V→Option Value→Prop
  | none,none=> True
  | some x,some v=> Rep κ x v
  | _,_=> False
theorem run_sliceBound' {k:IntKind}{i:Int}{y:Nat}{code:BoundsCode}(h:0≤i∧i≤y):(Instr.sliceBound (.int k i) y code).run P w= .ok i.toNat w:=by
  simp[Instr.sliceBound,asIntOf,h]
theorem bnd_sound {x:Option V}{v:Option Value}{dflt y r:Nat}(h:bnd x dflt y=some r)(hx:ORep κ x v):(v=none∧r=dflt)∨∃ u,v=some u∧∀ code,(Instr.sliceBound u y code).run P w= .ok r w:=by
  unfold bnd at h
  cases x with
  | none=>
    cases v with
    | none=> simp only[Option.some.injEq]at h;exact .inl ⟨rfl,h.symm⟩
    | some u=> exact hx.elim
  | some x=>
    cases v with
    | none=> exact hx.elim
    | some u=>
      simp only at h
      split at h
      · rename_i i hi
        obtain⟨k,rfl⟩:=intV_rep hi hx
        split at h
        · rename_i hb
          simp only[Option.some.injEq]at h
          subst h
          exact .inr ⟨_,rfl,fun code=> run_sliceBound' hb⟩
        · cases h
      · cases h
theorem bnds_sound {b:Bool}{n cap:Nat}{lo hi mx:Option V}{vl vh vm:Option Value}{l h m:Nat}(hb:bnds n cap lo hi mx=some (l,h,m))(hl:ORep κ lo vl)(hh:ORep κ hi vh)(hm:ORep κ mx vm)(hmh:mx.isSome=true→hi.isSome=true):
    (Instr.sliceBounds b n cap vl vh vm).run P w= .ok (l,h,m) w:=by
  unfold bnds at hb
  split at hb
  · cases hb
  rename_i m' h1
  split at hb
  · cases hb
  rename_i h' h2
  split at hb
  · cases hb
  rename_i l' h3
  simp only[Option.some.injEq,Prod.mk.injEq]at hb
  obtain⟨rfl,rfl,rfl⟩:=hb
  have b1:=bnd_sound (P:=P) (w:=w) h1 hm
  have b2:=bnd_sound (P:=P) (w:=w) h2 hh
  have b3:=bnd_sound (P:=P) (w:=w) h3 hl
  unfold Instr.sliceBounds
  rcases b1 with⟨rfl,rfl⟩ | ⟨um,rfl,r1⟩
  · rcases b2 with⟨rfl,rfl⟩ | ⟨uh,rfl,r2⟩
    · rcases b3 with⟨rfl,rfl⟩ | ⟨ul,rfl,r3⟩
      · simp
      · simp[r3]
    · rcases b3 with⟨rfl,rfl⟩ | ⟨ul,rfl,r3⟩
      · simp[r2]
      · simp[r2,r3]
  · rcases b2 with⟨rfl,rfl⟩ | ⟨uh,rfl,r2⟩
    · cases mx with
      | none=> exact hm.elim
      | some x=>
        have:=hmh rfl
        cases hi with
        | none=> cases this
        | some y=> exact hh.elim
    · rcases b3 with⟨rfl,rfl⟩ | ⟨ul,rfl,r3⟩
      · simp[r1,r2]
      · simp[r1,r2,r3]
theorem bnds_le {n cap:Nat}{lo hi mx:Option V}{l h m:Nat}(hb:bnds n cap lo hi mx=some (l,h,m))(hn:n≤cap)(hmx:mx.isSome=true→hi.isSome=true):l≤h∧h≤m∧m≤cap:=by
  unfold bnds at hb
  split at hb
  · cases hb
  rename_i m' h1
  split at hb
  · cases hb
  rename_i h' h2
  split at hb
  · cases hb
  rename_i l' h3
  simp only[Option.some.injEq,Prod.mk.injEq]at hb
  obtain⟨rfl,rfl,rfl⟩:=hb
  have key:∀ {x:Option V} {d y r:Nat},bnd x d y=some r→(x=none∧r=d)∨r≤y:=by
    intro x d y r hx
    unfold bnd at hx
    cases x with
    | none=> simp only[Option.some.injEq]at hx;exact .inl ⟨rfl,hx.symm⟩
    | some v=>
      simp only at hx
      split at hx
      · split at hx
        · rename_i hb
          simp only[Option.some.injEq]at hx
          exact .inr (by omega)
        · cases hx
      · cases hx
  rcases key h1 with⟨rfl,rfl⟩ | k1 <;> rcases key h2 with⟨rfl,rfl⟩ | k2 <;> rcases key h3 with⟨rfl,rfl⟩ | k3 <;> first
    | omega
    | (exfalso;cases mx with
        | none=> simp[bnd]at h1;omega
        | some x=> exact absurd (hmx rfl) (by simp))
    | (cases mx with
        | none=> simp[bnd]at h1;omega
        | some x=> exact absurd (hmx rfl) (by simp))
theorem bnd_wider {x:Option V}{d y y' r:Nat}(h:bnd x d y=some r)(hy:y≤y'):bnd x d y'=some r:=by
  unfold bnd at h ⊢
  cases x with
  | none=> exact h
  | some v=>
    simp only at h ⊢
    split at h
    · split at h
      · rename_i hc
        rw[if_pos ⟨hc.1,by omega⟩]
        exact h
      · cases h
    · cases h
theorem slD_sound {e:TypeId}{size n:Nat}{nz:Bool}{cs:List D}{v:Value}(hs:szIs P e size=true){xt:TypeId}(hu:P.underlying xt=some (.slice e))(hr:RepD κ.L κ.imm (.sl n nz cs) v){lo hi:Option V}{vl vh:Option Value}{l h m:Nat}
    (hb:bnds n n lo hi none=some (l,h,m)) (hl:ORep κ lo vl) (hh:ORep κ hi vh):∃ u,(Instr.slice xt v vl vh none).run P w= .ok u w∧RepD κ.L κ.imm (.sl (h - l) nz ((cs.drop (l * size)).take ((h - l) * size))) u:=by
  simp only[RepD]at hr
  obtain⟨A,cap,rfl,h1,h2,h3,h4⟩:=hr
  have hle:=bnds_le hb (Nat.le_refl _) (by simp)
  -- the same bounds within the capacity
  have hb':bnds n cap lo hi none=some (l,h,cap):=by
    unfold bnds at hb ⊢
    have e1:bnd none n n=some n:=rfl
    have e2:bnd none cap cap=some cap:=rfl
    rw[e1]at hb
    rw[e2]
    simp only at hb ⊢
    split at hb
    · cases hb
    · rename_i r hr
      rw[bnd_wider hr h1]
      simp only
      split at hb
      · cases hb
      · simp only[Option.some.injEq,Prod.mk.injEq]at hb ⊢
        exact⟨hb.1,hb.2.1,trivial⟩
  have hrun:=bnds_sound (P:=P) (w:=w) (b:=true) hb' hl hh (vm:=none) trivial (by simp)
  refine⟨.slice (if cap=l then A else A.map (·.add (l * size))) (h - l) (cap - l),?_,?_⟩
  · simp[Instr.slice,run_underlying hu,hrun,run_sizeOf hs]
  · simp only[RepD]
    refine⟨_,_,rfl,by omega,?_,?_,?_⟩
    · subst h2
      split <;> simp
    · intro hn
      have:A=none:=by
        split at hn
        · exact hn
        · simpa using hn
      have:=h3 this
      omega
    · rcases h4 with rfl | ⟨b,o,rfl,hl4⟩
      · exact .inl (by simp)
      · by_cases hc:cap=l
        · left
          have:h - l=0:=by omega
          simp[this]
        · right
          refine⟨b,o+l * size,?_,(hl4.drop _).take _⟩
          rw[if_neg hc]
          simp[Addr.add_lit]
theorem slc_sound {xt:TypeId}{size:Nat}(ht:slIs P xt size=true){x:V}{lo hi mx:Option V}{z:V}(h:slcV size x lo hi mx=some z){vx:Value}{vl vh vm:Option Value}(hx:Rep κ x vx)(hl:ORep κ lo vl)(hh:ORep κ hi vh)(hm:ORep κ mx vm)(hmh:mx.isSome=true→hi.isSome=true):
    ∃ v,(Instr.sliceAt xt vx vl vh vm).run P w= .ok v w∧Rep κ z v:=by
  obtain⟨e,hu,hs⟩:=slIs_spec ht
  have hat:∀ u,(Instr.sliceAt xt u vl vh vm).run P w=(Instr.slice xt u vl vh vm).run P w:=fun u=> by simp[Instr.sliceAt,run_underlying hu]
  rw[hat]
  have hnone:∀ {b:Bool},mx.isSome=false→vm=none:=fun h=> by
    cases mx with
    | none=> cases vm with
      | none=> rfl
      | some v=> exact hm.elim
    | some x=> cases h
  unfold slcV at h
  split at h
  · split at h
    · cases h
    · rename_i hnm
      simp only[Option.map_eq_some_iff]at h
      obtain⟨⟨l,h',m⟩,hb,rfl⟩:=h
      obtain rfl:=hnone (b:=true) (by simpa using hnm)
      exact slD_sound hs hu hx hb hl hh
  · split at h
    · cases h
    · rename_i hnm
      simp only[Option.map_eq_some_iff]at h
      obtain⟨⟨l,h',m⟩,hb,rfl⟩:=h
      obtain rfl:=hnone (b:=true) (by simpa using hnm)
      exact slD_sound hs hu hx.1 hb hl hh
  · rename_i sz id off n cap
    split at h
    case isFalse=> cases h
    rename_i hsz
    rw[← hsz]at hs
    simp only[Option.map_eq_some_iff]at h
    obtain⟨⟨l,h',m⟩,hb,rfl⟩:=h
    dsimp only
    obtain⟨b,o,h1,rfl,h2,ho⟩:=hx
    have hrun:=bnds_sound (P:=P) (w:=w) (b:=true) hb hl hh hm hmh
    have hle:=bnds_le hb h2 hmh
    refine⟨.slice (if m=l then some ⟨b,o,none⟩ else some ((⟨b,o,none⟩:Addr).add (l * sz))) (h' - l) (m - l),by simp[Instr.slice,run_underlying hu,hrun,run_sizeOf hs],?_⟩
    by_cases hc:m=l
    · exact⟨b,o,h1,by rw[if_pos hc],by omega,.inl (by omega)⟩
    · obtain rfl:=ho.resolve_left (by omega)
      exact⟨b,_,h1,by rw[if_neg hc,Addr.add_lit],by omega,.inr (by rw[hsz])⟩
  · cases h
end
end Go.Sh
