/- The shadow language: values, states, operations, code; runs by fuel; what a run comes to without fuel. No program in sight. -/
import GoSem.Core.View
namespace Go.Sh

/-- Pure data: what one memory cell may hold when nobody writes it any more. -/
inductive D where
  | i (k : IntKind) (n : Int)
  | b (b : Bool)
  | s (s : List UInt8)
  | sl (n : Nat) (nz : Bool) (cells : List D)
  | np
  | nm
  | ni
  | nf
  | ifc (tag : Nat) (agg : Bool) (cells : List D)
  deriving Inhabited

/-- Values in a function's slots. -/
inductive V where
  | d (x : D)
  | agg (cs : List V)
  | tup (vs : List V)
  | own (size n : Nat) (nz : Bool) (cells : List D) (t : Nat)
  | ptr (id off : Nat)
  | ep (cells : List D)
  | rsl (size id off n cap : Nat)
  | map (id : Nat)
  | un
  deriving Inhabited

inductive Blk where
  | row (cs : List V)
  | map (es : List (D × V))
  deriving Inhabited

structure St where
  heap : List (Option Blk)
  tips : List Nat
  floor : Nat
  tfloor : Nat

inductive Opd where
  | t (n : Nat)
  | c (x : V)
  | g (name : Nat)
  | f (name : Nat)

inductive SOp where
  | mov (x : Opd)
  | tok (size : Nat) (x : Opd)                                        -- a nil slice that will be appended to
  | pick (c a b : Opd)
  | bin (op : BinOp) (x y : Opd)
  | eqv (neg : Bool) (ks : List Nat) (x y : Opd)
  | un (op : UnOp) (x : Opd)
  | conv (k : IntKind) (x : Opd)
  | s2b (x : Opd)
  | b2s (x : Opd)
  | build (zero : List D) (parts : List (Nat × Nat × Opd))     -- place, cells, part
  | lits (n : Nat) (zero : List D) (parts : List (Nat × Nat × Opd))
  | litsR (n : Nat) (zero : List D) (parts : List (Nat × Nat × Opd))
  | litsO (n : Nat) (zero : List D) (parts : List (Nat × Nat × Opd))
  | box (x : Opd)
  | boxI (x : Opd)
  | alloc (zero : List D)
  | load (size : Nat) (agg : Bool) (p : Opd)
  | store (size : Nat) (p x : Opd)
  | faddr (off : Nat) (p : Opd)
  | field (off size : Nat) (agg : Bool) (x : Opd)
  | iaddr (size : Nat) (x i : Opd)
  | iaddrA (len size : Nat) (p i : Opd)
  | idx (len size : Nat) (agg : Bool) (x i : Opd)
  | idxS (x i : Opd)
  | slc (size : Nat) (x : Opd) (lo hi mx : Option Opd)
  | slcS (x : Opd) (lo hi : Option Opd)
  | slcA (len size : Nat) (p : Opd) (lo hi mx : Option Opd)
  | mkR (bytes : Nat) (zero : List D) (len cap : Opd)
  | mkD (bytes : Nat) (zero : List D) (len cap : Opd)
  | mkO (bytes size : Nat) (zero : List D) (len cap : Opd)
  | len (str : Bool) (x : Opd)
  | lenA (n : Nat)
  | app (size bytes : Nat) (s x : Opd)
  | appR (size bytes : Nat) (zero : List D) (s x : Opd)           -- no run has an answer: see the triples
  | cpy (size : Nat) (dst src : Opd)
  | mkMap
  | lenM (m : Opd)
  | look (ok : Bool) (zero : List D) (zagg : Bool) (m k : Opd)
  | mapSet (m k x : Opd)
  | mkI (tag : Nat) (agg : Bool) (x : Opd)
  | assertT (tag : Nat) (others : List Nat) (ok : Bool) (zero : List D) (zagg : Bool) (x : Opd)
  | extract (i : Nat) (x : Opd)
  | nilChk (x : Opd)
  | call (f : Nat) (args : List Opd)
  | invoke (table : List (Nat × Nat)) (recv : Opd) (args : List Opd)
  | mx (x y : Opd)
  | mn (x y : Opd)

structure SOper where
  dst : Option Nat
  guard : Option (Nat × Bool)
  op : SOp

inductive SCode where
  | skip
  | region (ops : List SOper) (draw : Bool) (anc : List Nat)
  | seq (a b : SCode)
  | cond (c : Opd) (a b : SCode)
  | block (id : Nat) (body : SCode)
  | loop (live : List Nat) (trunc : Bool) (body : SCode)
  | exit (id : Nat)
  | ret

inductive SRes where
  | tmp (t : Nat)
  | cell (t size : Nat) (agg : Bool)

structure SFn where
  nparams : Nat
  pure : Bool
  results : List SRes
  body : SCode

/-- A program: functions and laid package variables by their shadow names. -/
structure Prog where
  fn : Nat → Option SFn
  glob : Nat → Option (List D)

/-! ### Values -/
def V.cs : V → List V
  | .agg cs => cs
  | v => [v]
def V.ok1 : V → Bool
  | .tup _ => false
  | .un => false
  | _ => true
def toD : V → Option D
  | .d x => some x
  | .own _ n nz cs _ => some (.sl n nz cs)
  | _ => none
def toDs : List V → Option (List D)
  | [] => some []
  | v :: vs => match toD v with
    | some x => match toDs vs with
      | some xs => some (x :: xs)
      | none => none
    | none => none
def mkV (agg : Bool) (cs : List V) : Option V :=
  if agg then some (.agg cs) else match cs with
    | [c] => some c
    | _ => none
def ofDs (ds : List D) : List V := ds.map .d

abbrev Env := List (Nat × V)
def Env.get : Env → Nat → Option V
  | [], _ => none
  | (j, v) :: r, i => if j = i then some v else Env.get r i
def mask (live : List Nat) (e : Env) : Env := live.filterMap fun i => (e.get i).map fun v => (i, v)

def Opd.ev (P : Prog) (e : Env) : Opd → Option V
  | .t n => e.get n
  | .c x => some x
  | .g n => (P.glob n).map .ep
  | .f _ => none
def evs (P : Prog) (e : Env) : List Opd → Option (List V)
  | [] => some []
  | x :: xs => match x.ev P e with
    | some v => match evs P e xs with
      | some vs => some (v :: vs)
      | none => none
    | none => none

/-! ### Operations on values alone -/
def bitI (op : BinOp) (k : IntKind) (x y : Int) : Option D :=
  let a := BitVec.ofInt k.bits x
  let b := BitVec.ofInt k.bits y
  match op with
  | .and => some (.i k (k.wrap (a &&& b).toNat))
  | .or => some (.i k (k.wrap (a ||| b).toNat))
  | .xor => some (.i k (k.wrap (a ^^^ b).toNat))
  | .andNot => some (.i k (k.wrap (a &&& ~~~b).toNat))
  | _ => none
def shI (op : BinOp) (k : IntKind) (x y : Int) : Option D :=
  if y < 0 then none else match op with
    | .shl => some (.i k (k.wrap (x * 2 ^ (min y.toNat k.bits))))
    | .shr => some (.i k (x.fdiv (2 ^ (min y.toNat k.bits))))
    | _ => none
def arI (op : BinOp) (k : IntKind) (x y : Int) : Option D :=
  match op with
  | .add => some (.i k (k.wrap (x + y)))
  | .sub => some (.i k (k.wrap (x - y)))
  | .mul => some (.i k (k.wrap (x * y)))
  | .quo => if y = 0 then none else some (.i k (k.wrap (x.tdiv y)))
  | .rem => if y = 0 then none else some (.i k (x.tmod y))
  | .and | .or | .xor | .andNot => bitI op k x y
  | .eql => some (.b (x == y))
  | .neq => some (.b (x != y))
  | .lss => some (.b (x < y))
  | .leq => some (.b (x ≤ y))
  | .gtr => some (.b (x > y))
  | .geq => some (.b (x ≥ y))
  | _ => none
def strLess : List UInt8 → List UInt8 → Bool
  | _, [] => false
  | [], _ :: _ => true
  | a :: x, b :: y => a < b || (a == b && strLess x y)
def binS (op : BinOp) (x y : List UInt8) : Option D :=
  match op with
  | .add => if x.length + y.length ≤ 9223372036854775807 then some (.s (x ++ y)) else none
  | .eql => some (.b (x == y))
  | .neq => some (.b (!(x == y)))
  | .lss => some (.b (strLess x y))
  | .leq => some (.b (strLess x y || x == y))
  | .gtr => some (.b (!(strLess x y || x == y)))
  | .geq => some (.b (!strLess x y))
  | _ => none
def binV (op : BinOp) : V → V → Option V
  | .d (.i k a), .d (.i k' b) =>
    match op with
    | .shl | .shr => (shI op k a b).map .d
    | _ => if k = k' then (arI op k a b).map .d else none
  | .d (.s a), .d (.s b) => (binS op a b).map .d
  | _, _ => none
def unV (op : UnOp) : V → Option V
  | .d (.i k n) => match op with
    | .neg => some (.d (.i k (k.wrap (0 - n))))
    | .xor => (bitI .xor k (if k.signed then -1 else k.max) n).map .d
    | _ => none
  | .d (.b b) => match op with
    | .not => some (.d (.b (!b)))
    | _ => none
  | _ => none
/-- '==' of cells that are numbers, bools or strings; a nil against something. -/
def eqD : D → D → Option Bool
  | .i k a, .i k' b => if k = k' then some (a == b) else none
  | .b a, .b b => some (a == b)
  | .s a, .s b => some (a == b)
  | _, _ => none
/-- The same, a cell of a kind: 0 a number, 1 a bool, 2 a string. -/
def eqK : Nat → D → D → Option Bool
  | 0, .i k a, .i k' b => if k = k' then some (a == b) else none
  | 1, .b a, .b b => some (a == b)
  | 2, .s a, .s b => some (a == b)
  | _, _, _ => none
def eqDs : List Nat → List D → List D → Option Bool
  | [], [], [] => some true
  | k :: ks, x :: xs, y :: ys => match eqK k x y with
    | some true => eqDs ks xs ys
    | some false => some false
    | none => none
  | _, _, _ => none
/-- '=='; ks: what is held against what: 10 an interface value and nil, 11 a slice, 12 a pointer, 13 a map; 9 and the kinds of its cells: a struct; else the kind of one cell. -/
def eqV (ks : List Nat) (x y : V) : Option Bool := match ks with
  | [10] => match x, y with
    | .d .ni, .d .ni => some true
    | .d .ni, .d (.ifc ..) => some false
    | .d (.ifc ..), .d .ni => some false
    | _, _ => none
  | [11] => match x, y with
    | .d (.sl _ nz _), .d (.sl 0 false []) => some (!nz)
    | .own _ _ nz _ _, .d (.sl 0 false []) => some (!nz)
    | .rsl .., .d (.sl 0 false []) => some false
    | _, _ => none
  | [12] => match x, y with
    | .ptr .., .d .np => some false
    | .ep .., .d .np => some false
    | .d .np, .d .np => some true
    | _, _ => none
  | [13] => match x, y with
    | .map _, .d .nm => some false
    | .d .nm, .d .nm => some true
    | _, _ => none
  | 9 :: ks => match x, y with
    | .agg xs, .agg ys => match toDs xs, toDs ys with
      | some a, some b => if a.length = ks.length ∧ b.length = ks.length then eqDs ks a b else none
      | _, _ => none
    | _, _ => none
  | [1] => match x, y with
    | .d (.b a), .d (.b b) => some (a == b)
    | _, _ => none
  | _ => none
def convV (k : IntKind) : V → Option V
  | .d (.i _ n) => some (.d (.i k (k.wrap n)))
  | _ => none
def byteCells (l : List UInt8) : List D := l.map fun b => .i .u8 b.toNat
def bytesOf : List D → Option (List UInt8)
  | [] => some []
  | .i .u8 n :: r => match bytesOf r with
    | some l => some (UInt8.ofNat n.toNat :: l)
    | none => none
  | _ => none
def lenS : V → Option Nat
  | .d (.s l) => some l.length
  | _ => none
def lenV : V → Option Nat
  | .d (.sl n _ _) => some n
  | .own _ n _ _ _ => some n
  | .rsl _ _ _ n _ => some n
  | _ => none
def intV : V → Option Int
  | .d (.i _ n) => some n
  | _ => none
/-- Lay cells over others from a place on. -/
def lay {α : Type} (cs : List α) (off : Nat) (xs : List α) : List α := cs.take off ++ xs ++ cs.drop (off + xs.length)
def fillV : List V → List (Nat × Nat × V) → Option (List V)
  | cs, [] => some cs
  | cs, (off, size, v) :: r => if v.ok1 = true ∧ v.cs.length = size ∧ off + size ≤ cs.length then fillV (lay cs off v.cs) r else none
def partsV (P : Prog) (e : Env) : List (Nat × Nat × Opd) → Option (List (Nat × Nat × V))
  | [] => some []
  | (o, s, x) :: r => match x.ev P e with
    | some v => match partsV P e r with
      | some vs => some ((o, s, v) :: vs)
      | none => none
    | none => none
def reps {α : Type} (n : Nat) (z : List α) : List α := (List.replicate n z).flatten

/-! ### Operations on the state -/
def St.row (st : St) (id : Nat) : Option (List V) := match st.heap[id]? with
  | some (some (.row cs)) => some cs
  | _ => none
def St.mapOf (st : St) (id : Nat) : Option (List (D × V)) := match st.heap[id]? with
  | some (some (.map es)) => some es
  | _ => none
def St.setBlk (st : St) (id : Nat) (b : Blk) : Option St := if st.floor ≤ id then some { st with heap := st.heap.set id (some b) } else none
def St.push (st : St) (b : Blk) : St := { st with heap := st.heap ++ [some b] }
def cellsAt (st : St) (id off k : Nat) : Option (List D) := match st.row id with
  | some cs => if off + k ≤ cs.length then toDs ((cs.drop off).take k) else none
  | none => none
/-- A slice's cells, as data. -/
def vw (size : Nat) (st : St) : V → Option (Nat × List D)
  | .d (.sl n _ cs) => some (n, cs)
  | .own _ n _ cs _ => some (n, cs)
  | .rsl sz id off n _ => if sz = size then (cellsAt st id off (n * size)).map fun ds => (n, ds) else none
  | .d (.s l) => if size = 1 then some (l.length, byteCells l) else none
  | _ => none
def loadV (size : Nat) (agg : Bool) (st : St) : V → Option V
  | .ptr id off => match st.row id with
    | some cs => if off + size ≤ cs.length then mkV agg ((cs.drop off).take size) else none
    | none => none
  | .ep cells => if 0 < size ∧ size ≤ cells.length then mkV agg (ofDs (cells.take size)) else none
  | _ => none
def storeV (size : Nat) (st : St) (p x : V) : Option St := match p with
  | .ptr id off => match st.row id with
    | some cs => if x.ok1 = true ∧ x.cs.length = size ∧ off + size ≤ cs.length then st.setBlk id (.row (lay cs off x.cs)) else none
    | none => none
  | _ => none
def faddrV (off : Nat) : V → Option V
  | .ptr id o => some (.ptr id (o + off))
  | .ep cells => some (.ep (cells.drop off))
  | _ => none
def fieldV (off size : Nat) (agg : Bool) : V → Option V
  | .agg cs => if off + size ≤ cs.length then mkV agg ((cs.drop off).take size) else none
  | _ => none
def iaddrV (size : Nat) (x i : V) : Option V := match intV i with
  | none => none
  | some i => match x with
    | .d (.sl n _ cs) => if 0 ≤ i ∧ i < n then some (.ep (cs.drop (i.toNat * size))) else none
    | .own _ n _ cs _ => if 0 ≤ i ∧ i < n then some (.ep (cs.drop (i.toNat * size))) else none
    | .rsl _ id off n _ => if 0 ≤ i ∧ i < n then some (.ptr id (off + i.toNat * size)) else none
    | _ => none
def iaddrAV (len size : Nat) (p i : V) : Option V := match intV i with
  | none => none
  | some i => if 0 ≤ i ∧ i < len then faddrV (i.toNat * size) p else none
def idxV (len size : Nat) (agg : Bool) (x i : V) : Option V := match intV i with
  | none => none
  | some i => if 0 ≤ i ∧ i < len then fieldV (i.toNat * size) size agg x else none
def idxSV (x i : V) : Option V := match x, intV i with
  | .d (.s l), some i => if 0 ≤ i then (l[i.toNat]?).map fun b => .d (.i .u8 b.toNat) else none
  | _, _ => none
def bnd (x : Option V) (dflt : Nat) (y : Nat) : Option Nat := match x with
  | none => some dflt
  | some v => match intV v with
    | some i => if 0 ≤ i ∧ i ≤ y then some i.toNat else none
    | none => none
/-- A slice's bounds: low, high, max. -/
def bnds (n cap : Nat) (lo hi mx : Option V) : Option (Nat × Nat × Nat) :=
  match bnd mx cap cap with
  | none => none
  | some m => match bnd hi n m with
    | none => none
    | some h => match bnd lo 0 h with
      | none => none
      | some l => some (l, h, m)
def slcV (size : Nat) (x : V) (lo hi mx : Option V) : Option V := match x with
  | .d (.sl n nz cs) => if mx.isSome then none else (bnds n n lo hi none).map fun (l, h, _) => .d (.sl (h - l) nz ((cs.drop (l * size)).take ((h - l) * size)))
  | .own _ n nz cs _ => if mx.isSome then none else (bnds n n lo hi none).map fun (l, h, _) => .d (.sl (h - l) nz ((cs.drop (l * size)).take ((h - l) * size)))
  | .rsl sz id off n cap => if sz = size then (bnds n cap lo hi mx).map fun (l, h, m) => .rsl size id (off + l * size) (h - l) (m - l) else none
  | _ => none
def slcSV (x : V) (lo hi : Option V) : Option V := match x with
  | .d (.s l) => (bnds l.length l.length lo hi none).map fun (a, h, _) => .d (.s ((l.drop a).take (h - a)))
  | _ => none
def slcAV (len size : Nat) (x : V) (lo hi mx : Option V) : Option V := match x with
  | .ptr id off => (bnds len len lo hi mx).map fun (l, h, m) => .rsl size id (off + l * size) (h - l) (m - l)
  | .ep cs => if mx.isSome then none else (bnds len len lo hi none).map fun (l, h, _) => .d (.sl (h - l) true ((cs.drop (l * size)).take ((h - l) * size)))
  | _ => none
/-- How many elements a make may have. -/
def room (bytes : Nat) (x : V) : Option Nat := match x with
  | .d (.i _ n) => if 0 ≤ n ∧ n.toNat * bytes ≤ 281474976710656 ∧ n ≤ 281474976710656 then some n.toNat else none
  | _ => none
def appV (size bytes : Nat) (st : St) (s x : V) : Option (V × St) := match s with
  | .own sz n nz cs t => match vw size st x with
    | some (m, ds) =>
      if sz = size ∧ st.tfloor ≤ t ∧ st.tips[t]? = some n ∧ cs.length = n * size ∧ (n + m) * bytes ≤ 140737488355328 ∧ n + m ≤ 140737488355328 ∧ ds.length = m * size then
        some (.own size (n + m) (nz || decide (0 < n + m)) (cs ++ ds) t, { st with tips := st.tips.set t (n + m) })
      else none
    | none => none
  | .d (.sl 0 false []) => match vw size st x with
    | some (m, ds) =>
      if m * bytes ≤ 140737488355328 ∧ m ≤ 140737488355328 ∧ ds.length = m * size then
        some (.own size m (decide (0 < m)) ds st.tips.length, { st with tips := st.tips ++ [m] })
      else none
    | none => none
  | _ => none
def b2sV (st : St) (x : V) : Option V := match x with
  | .d (.s _) => none
  | x => match vw 1 st x with
    | some (n, ds) => if ds.length = n then (bytesOf ds).map fun l => .d (.s l) else none
    | none => none
def cpyV (size : Nat) (st : St) (dst src : V) : Option (V × St) := match dst with
  | .rsl sz id off n _ => if sz ≠ size then none else match st.row id, vw size st src with
    | some cs, some (m, ds) =>
      if off + n * size ≤ cs.length ∧ ds.length = m * size then
        (st.setBlk id (.row (lay cs off (ofDs (ds.take (min m n * size)))))).map fun st' => (.d (.i .i64 (min m n : Nat)), st')
      else none
    | _, _ => none
  | _ => none
def keyOk : D → Bool
  | .i .. => true
  | .s _ => true
  | _ => false
def findE (k : D) : List (D × V) → Option (Option V)
  | [] => some none
  | (x, v) :: r => match eqD k x with
    | some true => some (some v)
    | some false => findE k r
    | none => none
def setE (k : D) (v : V) : List (D × V) → Option (List (D × V))
  | [] => some [(k, v)]
  | (x, u) :: r => match eqD k x with
    | some true => some ((k, v) :: r)
    | some false => (setE k v r).map fun r' => (x, u) :: r'
    | none => none
def lookOut (ok : Bool) (z : V) (r : Option V) : V := if ok then .tup [r.getD z, .d (.b r.isSome)] else r.getD z
def lookV (ok : Bool) (z : V) (st : St) (m k : V) : Option V :=
  match k with
  | .d k => if keyOk k then match m with
    | .d .nm => some (lookOut ok z none)
    | .map id => match st.mapOf id with
      | some es => (findE k es).map (lookOut ok z)
      | none => none
    | _ => none
    else none
  | _ => none
def mapSetV (st : St) (m k x : V) : Option St := match m, k with
  | .map id, .d k => if keyOk k then match st.mapOf id with
    | some es => match setE k x es with
      | some es' => st.setBlk id (.map es')
      | none => none
    | none => none
    else none
  | _, _ => none
def mkIV (tag : Nat) (agg : Bool) (x : V) : Option V := match x with
  | .agg cs => if agg then (toDs cs).map fun ds => .d (.ifc tag true ds) else none
  | x => if agg then none else (toD x).map fun y => .d (.ifc tag false [y])
def assertV (tag : Nat) (others : List Nat) (ok : Bool) (z : V) (x : V) : Option V := match x with
  | .d .ni => if ok then some (.tup [z, .d (.b false)]) else none
  | .d (.ifc u agg ds) => if u = tag then (mkV agg (ofDs ds)).map fun v => if ok then .tup [v, .d (.b true)] else v
    else if ok && others.contains u then some (.tup [z, .d (.b false)]) else none
  | _ => none
def minV (lt : Int → Int → Bool) : V → V → Option V
  | .d (.i k a), .d (.i k' b) => if k = k' then some (.d (.i k (if lt b a then b else a))) else none
  | _, _ => none

/-- What leaves a piece of the run whose blocks and tokens from h, t on are forgotten. -/
def escC (st : St) (h t : Nat) : V → Option V
  | .d x => some (.d x)
  | .own sz n nz cs k => if k < t then some (.own sz n nz cs k) else some (.d (.sl n nz cs))
  | .ptr id off => if id < h then some (.ptr id off) else none
  | .ep cs => some (.ep cs)
  | .map id => if id < h then some (.map id) else none
  | .rsl size id off n cap => if id < h then some (.rsl size id off n cap) else (cellsAt st id off (n * size)).map fun ds => .d (.sl n true ds)
  | _ => none
def escs (st : St) (h t : Nat) : List V → Option (List V)
  | [] => some []
  | v :: r => match escC st h t v with
    | some x => match escs st h t r with
      | some xs => some (x :: xs)
      | none => none
    | none => none
def esc1 (st : St) (h t : Nat) : V → Option V
  | .agg cs => (escs st h t cs).map .agg
  | v => escC st h t v
def esc1s (st : St) (h t : Nat) : List V → Option (List V)
  | [] => some []
  | v :: r => match esc1 st h t v with
    | some x => match esc1s st h t r with
      | some xs => some (x :: xs)
      | none => none
    | none => none
def esc (st : St) (h t : Nat) : V → Option V
  | .tup vs => (esc1s st h t vs).map .tup
  | v => esc1 st h t v
def Env.del (i : Nat) (e : Env) : Env := e.filter fun p => p.1 != i
def escEnv (st : St) (h t : Nat) : Env → Env
  | [] => []
  | (i, v) :: r => match esc1 st h t v with
    | some x => (i, x) :: escEnv st h t r
    | none => (escEnv st h t r).del i

/-! ### Runs -/
abbrev CallF := Nat → List V → St → Option (V × St)
def evo (P : Prog) (e : Env) : Option Opd → Option (Option V)
  | none => some none
  | some x => (x.ev P e).map some
def pureR (st : St) (x : Option V) : Option (V × St) := match x with
  | some v => some (v, st)
  | none => none
def stR (x : Option St) : Option (V × St) := match x with
  | some st => some (.un, st)
  | none => none
def bind1 (x : Option V) (f : V → Option (V × St)) : Option (V × St) := match x with
  | some v => f v
  | none => none
def zeroV (z : List D) (agg : Bool) : V := if agg then .agg (ofDs z) else .d (z.headD .np)
def opS (P : Prog) (call : CallF) (e : Env) (st : St) : SOp → Option (V × St)
  | .mov x => pureR st (x.ev P e)
  | .tok size x => bind1 (x.ev P e) fun v => match v with
    | .d (.sl 0 false []) => some (.own size 0 false [] st.tips.length, { st with tips := st.tips ++ [0] })
    | _ => none
  | .pick c a b => bind1 (c.ev P e) fun c => match c with
    | .d (.b c) => bind1 (a.ev P e) fun a => bind1 (b.ev P e) fun b => some (if c then a else b, st)
    | _ => none
  | .bin op x y => bind1 (x.ev P e) fun x => bind1 (y.ev P e) fun y => pureR st (binV op x y)
  | .eqv neg ks x y => bind1 (x.ev P e) fun x => bind1 (y.ev P e) fun y => pureR st ((eqV ks x y).map fun b => .d (.b (if neg then !b else b)))
  | .un op x => bind1 (x.ev P e) fun x => pureR st (unV op x)
  | .conv k x => bind1 (x.ev P e) fun x => pureR st (convV k x)
  | .s2b x => bind1 (x.ev P e) fun x => match x with
    | .d (.s l) => some (.d (.sl l.length true (byteCells l)), st)
    | _ => none
  | .b2s x => bind1 (x.ev P e) fun x => pureR st (b2sV st x)
  | .build z ps => match partsV P e ps with
    | some vs => pureR st ((fillV (ofDs z) vs).map .agg)
    | none => none
  | .lits n z ps => match partsV P e ps with
    | some vs => pureR st (match fillV (ofDs (reps n z)) vs with
      | some cs => (toDs cs).map fun ds => .d (.sl n true ds)
      | none => none)
    | none => none
  | .litsO n z ps => match partsV P e ps with
    | some vs => match fillV (ofDs (reps n z)) vs with
      | some cs => match toDs cs with
        | some ds => some (.own z.length n true ds st.tips.length, { st with tips := st.tips ++ [n] })
        | none => none
      | none => none
    | none => none
  | .litsR n z ps => match partsV P e ps with
    | some vs => match fillV (ofDs (reps n z)) vs with
      | some cs => some (.rsl z.length st.heap.length 0 n n, st.push (.row cs))
      | none => none
    | none => none
  | .box x => bind1 (x.ev P e) fun v => if v.ok1 then some (.ptr st.heap.length 0, st.push (.row v.cs)) else none
  | .boxI x => bind1 (x.ev P e) fun v => if v.ok1 then pureR st ((toDs v.cs).map .ep) else none
  | .alloc z => some (.ptr st.heap.length 0, st.push (.row (ofDs z)))
  | .load size agg p => bind1 (p.ev P e) fun p => pureR st (loadV size agg st p)
  | .store size p x => bind1 (p.ev P e) fun p => bind1 (x.ev P e) fun x => stR (storeV size st p x)
  | .faddr off p => bind1 (p.ev P e) fun p => pureR st (faddrV off p)
  | .field off size agg x => bind1 (x.ev P e) fun x => pureR st (fieldV off size agg x)
  | .iaddr size x i => bind1 (x.ev P e) fun x => bind1 (i.ev P e) fun i => pureR st (iaddrV size x i)
  | .iaddrA len size p i => bind1 (p.ev P e) fun p => bind1 (i.ev P e) fun i => pureR st (iaddrAV len size p i)
  | .idx len size agg x i => bind1 (x.ev P e) fun x => bind1 (i.ev P e) fun i => pureR st (idxV len size agg x i)
  | .idxS x i => bind1 (x.ev P e) fun x => bind1 (i.ev P e) fun i => pureR st (idxSV x i)
  | .slc size x lo hi mx => bind1 (x.ev P e) fun x => match evo P e lo, evo P e hi, evo P e mx with
    | some lo, some hi, some mx => pureR st (slcV size x lo hi mx)
    | _, _, _ => none
  | .slcS x lo hi => bind1 (x.ev P e) fun x => match evo P e lo, evo P e hi with
    | some lo, some hi => pureR st (slcSV x lo hi)
    | _, _ => none
  | .slcA len size x lo hi mx => bind1 (x.ev P e) fun x => match evo P e lo, evo P e hi, evo P e mx with
    | some lo, some hi, some mx => pureR st (slcAV len size x lo hi mx)
    | _, _, _ => none
  | .mkR bytes z l c => bind1 (l.ev P e) fun l => bind1 (c.ev P e) fun c => match room bytes l, room bytes c with
    | some n, some m => if n ≤ m then some (.rsl z.length st.heap.length 0 n m, st.push (.row (ofDs (reps m z)))) else none
    | _, _ => none
  | .mkD bytes z l c => bind1 (l.ev P e) fun l => bind1 (c.ev P e) fun c => match room bytes l, room bytes c with
    | some n, some m => if n ≤ m then some (.d (.sl n true (reps n z)), st) else none
    | _, _ => none
  | .mkO bytes size z l c => bind1 (l.ev P e) fun l => bind1 (c.ev P e) fun c => match room bytes l, room bytes c with
    | some n, some m => if n ≤ m ∧ z.length = size then some (.own size n true (reps n z) st.tips.length, { st with tips := st.tips ++ [n] }) else none
    | _, _ => none
  | .len str x => bind1 (x.ev P e) fun x => pureR st ((if str then lenS x else lenV x).map fun (n : Nat) => V.d (.i .i64 (n : Int)))
  | .lenA n => some (.d (.i .i64 n), st)
  | .app size bytes s x => bind1 (s.ev P e) fun s => bind1 (x.ev P e) fun x => appV size bytes st s x
  | .appR .. => none
  | .cpy size a b => bind1 (a.ev P e) fun a => bind1 (b.ev P e) fun b => cpyV size st a b
  | .mkMap => some (.map st.heap.length, st.push (.map []))
  | .lenM m => bind1 (m.ev P e) fun m => match m with
    | .d .nm => some (.d (.i .i64 0), st)
    | .map id => match st.mapOf id with
      | some es => some (.d (.i .i64 es.length), st)
      | none => none
    | _ => none
  | .look ok z za m k => bind1 (m.ev P e) fun m => bind1 (k.ev P e) fun k => pureR st (lookV ok (zeroV z za) st m k)
  | .mapSet m k x => bind1 (m.ev P e) fun m => bind1 (k.ev P e) fun k => bind1 (x.ev P e) fun x => if x.ok1 then stR (mapSetV st m k x) else none
  | .mkI tag agg x => bind1 (x.ev P e) fun x => pureR st (mkIV tag agg x)
  | .assertT tag others ok z za x => bind1 (x.ev P e) fun x => pureR st (assertV tag others ok (zeroV z za) x)
  | .extract i x => bind1 (x.ev P e) fun x => match x with
    | .tup vs => pureR st (vs[i]?)
    | _ => none
  | .nilChk x => bind1 (x.ev P e) fun x => match x with
    | .ptr id off => some (.ptr id off, st)
    | .ep cs => some (.ep cs, st)
    | .d (.ifc t a c) => some (.d (.ifc t a c), st)
    | _ => none
  | .call f args => match evs P e args with
    | some vs => call f vs st
    | none => none
  | .invoke table r args => bind1 (r.ev P e) fun r => match r with
    | .d (.ifc tag agg ds) => match table.lookup tag, mkV agg (ofDs ds), evs P e args with
      | some f, some v, some vs => call f (v :: vs) st
      | _, _, _ => none
    | _ => none
  | .mx x y => bind1 (x.ev P e) fun x => bind1 (y.ev P e) fun y => pureR st (minV (fun b a => decide (a < b)) x y)
  | .mn x y => bind1 (x.ev P e) fun x => bind1 (y.ev P e) fun y => pureR st (minV (fun b a => decide (b < a)) x y)

def put (e : Env) (dst : Option Nat) (v : V) : Env := match dst with
  | some d => (d, v) :: e
  | none => e
/-- Is an operation wanted? Its guard: the place in the region's list, and what must stand there. -/
def wants (ops : List SOper) (e : Env) (g : Option (Nat × Bool)) : Option Bool := match g with
  | none => some true
  | some (j, b) => match ops[j]? with
    | some o => match o.dst with
      | some d => match e.get d with
        | some (.d (.b x)) => some (x == b)
        | some .un => some false
        | _ => none
      | none => none
    | none => none
def opsS (P : Prog) (call : CallF) (all : List SOper) : List SOper → Env → St → Option (Env × St)
  | [], e, st => some (e, st)
  | o :: r, e, st => match wants all e o.guard with
    | some true => match opS P call e st o.op with
      | some (v, st') => opsS P call all r (put e o.dst v) st'
      | none => none
    | some false => opsS P call all r (put e o.dst .un) st
    | none => none

inductive Ex where
  | normal
  | exit (id : Nat)
  | ret
abbrev Out := Ex × Env × St
def cutR (st : St) (trunc : Bool) (r : Out) : Out :=
  if trunc then (r.1, escEnv r.2.2 st.heap.length st.tips.length r.2.1, { st with tips := r.2.2.tips.take st.tips.length }) else r
def enterR (st : St) (trunc : Bool) : St := if trunc then { st with floor := st.heap.length } else st
/-- One round of a loop. -/
def round (live : List Nat) (trunc : Bool) (step : Env → St → Option Out) (e : Env) (st : St) : Option Out :=
  (step (mask live e) (enterR st trunc)).map (cutR st trunc)
def iter (step : Env → St → Option Out) : Nat → Env → St → Option Out
  | 0, _, _ => none
  | n + 1, e, st => match step e st with
    | some (.normal, e', st') => iter step n e' st'
    | r => r
def codeS (P : Prog) (call : CallF) (k : Nat) : SCode → Env → St → Option Out
  | .skip, e, st => some (.normal, e, st)
  | .region ops _ _, e, st => match opsS P call ops ops e st with
    | some (e', st') => some (.normal, e', st')
    | none => none
  | .seq a b, e, st => match codeS P call k a e st with
    | some (.normal, e', st') => codeS P call k b e' st'
    | r => r
  | .cond c a b, e, st => match c.ev P e with
    | some (.d (.b true)) => codeS P call k a e st
    | some (.d (.b false)) => codeS P call k b e st
    | _ => none
  | .block id c, e, st => match codeS P call k c e st with
    | some (.exit j, e', st') => if j = id then some (.normal, e', st') else some (.exit j, e', st')
    | r => r
  | .loop live tr c, e, st => iter (round live tr (codeS P call k c)) k e st
  | .exit id, e, st => some (.exit id, e, st)
  | .ret, e, st => some (.ret, e, st)
def initE : Nat → List V → Env
  | _, [] => []
  | n, v :: vs => (n, v) :: initE (n + 1) vs
def resOne (e : Env) (st : St) : SRes → Option V
  | .tmp t => e.get t
  | .cell t size agg => match e.get t with
    | some p => loadV size agg st p
    | none => none
def resAll (e : Env) (st : St) : List SRes → Option (List V)
  | [] => some []
  | r :: rs => match resOne e st r with
    | some v => if v.ok1 then match resAll e st rs with
      | some vs => some (v :: vs)
      | none => none
      else none
    | none => none
def resV (e : Env) (st : St) (rs : List SRes) : Option V := match rs with
  | [r] => resOne e st r
  | rs => (resAll e st rs).map .tup
/-- What a function's run comes to, given what its body's run comes to. -/
def finish (fn : SFn) (st : St) (r : Option Out) : Option (V × St) := match r with
  | some (.exit _, _, _) => none
  | some (_, e, st') => match resV e st' fn.results with
    | some v => if fn.pure then (esc st' st.heap.length st.tips.length v).map fun v => (v, st) else some (v, st')
    | none => none
  | none => none
def start (fn : SFn) (st : St) : St := if fn.pure then { st with floor := st.heap.length, tfloor := st.tips.length } else st
def runF (P : Prog) : Nat → CallF
  | 0, _, _, _ => none
  | k + 1, f, args, st => match P.fn f with
    | some fn => if args.length = fn.nparams then finish fn st (codeS P (runF P k) k fn.body (initE 0 args) (start fn st)) else none
    | none => none
end Go.Sh
