/-
  THE GHOST MACHINE (definitions): a small deterministic machine that runs the same code over values without addresses where it can.
-/
import Derived.Orders
import Derived.LoopN
import Derived.Below
import Derived.WalkKit
import Derived.Laws.CopyRow
import Derived.Laws.IdiomCopy
import Derived.Laws.Tables
set_option linter.unusedVariables false
set_option linter.unusedSimpArgs false
namespace Go.Gh

/-- Data: values that lead to no memory that may still turn. -/
inductive DV where
  | lit (v : Value)
  | agg (cs : List DV)
  | list (es : List DV)
  | vptr (es : List DV) (i off : Nat)
  | fn (f : Fn) (fst cap : List DV)
  | iface (t : TypeId) (x : DV)
  deriving Inhabited

def DV.cells : DV → List DV
  | .agg cs => cs
  | x => [x]
def flat (es : List DV) : List DV := es.flatMap DV.cells

/-- Values of the ghost machine. -/
inductive GV where
  | d (x : DV)
  | und
  | xl (es : List DV)
  | tl (es : List DV) (t : Nat)
  | ptr (id off : Nat)
  | slc (id off n : Nat) (cap : Option Nat)
  | map (id : Nat)
  | iter (id : Nat)
  | new (t : Nat)
  | fn (f : Fn) (fst cap : List GV)
  | agg (cs : List GV)
  | tup (vs : List GV)
  deriving Inhabited

/-- Blocks of the ghost machine. -/
inductive GB where
  | cells (cs : List GV)
  | tail (L sz : Nat)
  | map (es : List (DV × GV))
  | iter (m n : Nat) (left : List Nat) (cur : Option Nat)
  | resv
  | dead
  deriving Inhabited

def GV.cells : GV → List GV
  | .agg cs => cs
  | .d x => x.cells.map .d
  | x => [x]
abbrev gi (n : Int) : GV := .d (.lit (.int .i64 n))
abbrev gb (b : Bool) : GV := .d (.lit (.bool b))
abbrev di (n : Int) : DV := .lit (.int .i64 n)
abbrev db (b : Bool) : DV := .lit (.bool b)
abbrev nilS : Value := .slice none 0 0

def allD : List GV → Option (List DV)
  | [] => some []
  | .d x :: r => match allD r with | some xs => some (x :: xs) | none => none
  | _ :: _ => none
def mkAgg (cs : List GV) : GV := match allD cs with | some xs => .d (.agg xs) | none => .agg cs
def mkFn (f : Fn) (a b : List GV) : GV :=
  match allD a, allD b with
  | some xs, some ys => .d (.fn f xs ys)
  | _, _ => .fn f a b
def toD1 : GV → Option DV
  | .d x => some x
  | .xl es => some (.list es)
  | .tl es _ => some (.list es)
  | _ => none
def toDs : List GV → Option (List DV)
  | [] => some []
  | x :: r => match toD1 x with
    | some y => match toDs r with | some ys => some (y :: ys) | none => none
    | none => none
def toD : GV → Option DV
  | .agg cs => match toDs cs with | some ys => some (.agg ys) | none => none
  | x => toD1 x
def toDAll : List GV → Option (List DV)
  | [] => some []
  | x :: r => match toD x with
    | some y => match toDAll r with | some ys => some (y :: ys) | none => none
    | none => none
def retD1 : GV → Option GV
  | .xl es => some (.xl es)
  | x => match toD x with | some y => some (.d y) | none => none
def retDs : List GV → Option (List GV)
  | [] => some []
  | x :: r => match retD1 x with
    | some y => match retDs r with | some ys => some (y :: ys) | none => none
    | none => none
def retD : GV → Option GV
  | .tup vs => match retDs vs with | some l => some (.tup l) | none => none
  | x => retD1 x

def asN : GV → Option (IntKind × Int)
  | .d (.lit (.int k n)) => some (k, n)
  | _ => none
def asB : GV → Option Bool
  | .d (.lit (.bool b)) => some b
  | _ => none
/-- What a slice that came to rest holds. -/
def asL : GV → Option (List DV)
  | .d (.lit (.slice none 0 0)) => some []
  | .d (.list es) => some es
  | .xl es => some es
  | .tl es _ => some es
  | _ => none

/-- What is told of a type. -/
inductive TK where
  | slice (e : Nat)
  | struct (fs : List (Nat × Nat))
  | array (n e : Nat)
  | map (k v : Nat)
  | int (k : IntKind)
  | bool
  | other
structure TI where
  size : Nat
  agg : Bool
  bytes : Nat
  zero : List Value
  kind : TK
  eq : Bool

structure RH where
  keep : Option (List Nat) := none
  pre : List (Nat × Nat) := []
  resv : Nat := 0
  ops : List (Nat × Nat) := []
  frz : List (Nat × Nat) := []
  dual : Option (Nat × Nat) := none
structure GP where
  fn : Nat → Option Func
  ty : Nat → Option TI
  mode : Nat → Nat
  hint : Nat → Nat → RH
  ovr : Nat → Option (List GV → List GB → (GV → List GB → Bool) → Bool) := fun _ => none

def Env := Nat → GV
def put (e : Env) (o : Option Tmp) (v : GV) : Env :=
  match o with
  | none => e
  | some t => fun u => bif u.beq t then v else e u
structure St where
  env : Env
  heap : List GB

def Value.flatB : Value → Bool
  | .agg _ | .tuple _ => false
  | _ => true
/-- A variable that was just made is read by nobody. -/
def noNew : GV → GV
  | .new _ => .und
  | v => v
def opd (e : Env) : Operand → GV
  | .tmp t => noNew (e t)
  | .const (.agg cs) => bif cs.toList.all Value.flatB then .d (.agg (cs.toList.map .lit)) else .und
  | .const v => bif Value.flatB v then .d (.lit v) else .und
  | .global g => .d (.lit (.pointer (some ⟨g, 0, none⟩)))
  | .func f => .d (.fn (.func f) [] [])

def DV.isAgg : DV → Bool
  | .agg _ => true
  | _ => false
def partD (ti : TI) (e : DV) (off : Nat) : Option DV :=
  bif ti.agg then
    bif off.beq 0 && e.isAgg && e.cells.length.beq ti.size then some e
    else bif (off + ti.size).ble e.cells.length then some (.agg ((e.cells.drop off).take ti.size)) else none
  else e.cells[off]?
def partG (ti : TI) (cs : List GV) (off : Nat) : Option GV :=
  bif ti.agg then bif (off + ti.size).ble cs.length then some (mkAgg ((cs.drop off).take ti.size)) else none
  else cs[off]?
def setR (cs : List GV) (off : Nat) (xs : List GV) : List GV := cs.take off ++ xs ++ cs.drop (off + xs.length)
def cellOk : GV → Bool
  | .und | .agg _ | .tup _ | .new _ | .d (.agg _) => false
  | .d (.lit v) => Value.flatB v
  | _ => true
def DVcellOk : DV → Bool
  | .agg _ => false
  | .lit v => Value.flatB v
  | _ => true

def cmpI (op : BinOp) (a b : Int) : Option Bool :=
  match op with
  | .eql => some (a == b)
  | .neq => some (a != b)
  | .lss => some (decide (a < b))
  | .leq => some (decide (a ≤ b))
  | .gtr => some (decide (a > b))
  | .geq => some (decide (a ≥ b))
  | _ => none
def binI (op : BinOp) (k : IntKind) (a b : Int) : Option GV :=
  match op with
  | .add => some (.d (.lit (.int k (k.wrap (a + b)))))
  | .sub => some (.d (.lit (.int k (k.wrap (a - b)))))
  | .mul => some (.d (.lit (.int k (k.wrap (a * b)))))
  | .quo => if b = 0 then none else some (.d (.lit (.int k (k.wrap (a.tdiv b)))))
  | .rem => if b = 0 then none else some (.d (.lit (.int k (a.tmod b))))
  | .eql | .neq | .lss | .leq | .gtr | .geq => match cmpI op a b with | some r => some (gb r) | none => none
  | _ => none
/-- Do the elements have the type's number of cells? -/
def szOk (sz : Nat) : List DV → Bool
  | [] => true
  | e :: _ => e.cells.length.beq sz
/-- Is a slice nil? -/
def nilQ : GV → Option Bool
  | .d (.lit (.slice none 0 0)) => some true
  | .d (.list (_ :: _)) => some false
  | .xl (_ :: _) => some false
  | .tl (_ :: _) _ => some false
  | _ => none
def isNilC : GV → Bool
  | .d (.lit (.slice none 0 0)) => true
  | _ => false
/-- Are two structs of whole numbers and bools equal? -/
def eqFs (gp : GP) (xs ys : List DV) : List (Nat × Nat) → Option Bool
  | [] => some true
  | (off, ft) :: r => match gp.ty ft, xs[off]?, ys[off]? with
    | some { kind := .int _, .. }, some (.lit (.int k a)), some (.lit (.int k' b)) => if k = k' then (match eqFs gp xs ys r with | some q => some (a == b && q) | none => none) else none
    | some { kind := .bool, .. }, some (.lit (.bool a)), some (.lit (.bool b)) => match eqFs gp xs ys r with | some q => some (a == b && q) | none => none
    | _, _, _ => none
def gbin (gp : GP) (op : BinOp) (t : Nat) (x y : GV) : Option GV :=
  match asN x, asN y with
  | some (k, a), some (k', b) => match op with
    | .shr => if b < 0 then none else some (.d (.lit (.int k (a.fdiv (2 ^ (min b.toNat k.bits))))))
    | .shl => none
    | _ => if k = k' then binI op k a b else none
  | _, _ =>
    match asB x, asB y with
    | some a, some b => match op, gp.ty t with
      | .eql, some { kind := .bool, .. } => some (gb (a == b))
      | .neq, some { kind := .bool, .. } => some (gb (!(a == b)))
      | _, _ => none
    | _, _ =>
      match gp.ty t with
      | some { kind := .slice _, .. } =>
        bif isNilC y then
          match op, nilQ x with
          | .eql, some b => some (gb b)
          | .neq, some b => some (gb (!b))
          | _, _ => none
        else none
      | some { kind := .struct fs, eq := true, .. } =>
        match x, y with
        | .d (.agg xs), .d (.agg ys) => match op, eqFs gp xs ys fs with
          | .eql, some b => some (gb b)
          | .neq, some b => some (gb (!b))
          | _, _ => none
        | _, _ => none
      | _ => none

def gfill (place : Nat → Option (Nat × Nat)) (cells : List GV) : List (Nat × GV) → Option (List GV)
  | [] => some cells
  | (i, v) :: rest =>
    match place i with
    | none => none
    | some (off, size) =>
      bif v.cells.length.beq size && (off + size).ble cells.length && v.cells.all cellOk then gfill place (setR cells off v.cells) rest else none
def placeOf (gp : GP) (k : TK) (i : Nat) : Option (Nat × Nat) :=
  match k with
  | .struct fs => match fs[i]? with
    | some (off, ft) => match gp.ty ft with | some ti => some (off, ti.size) | none => none
    | none => none
  | .array _ e => match gp.ty e with | some ti => some (i * ti.size, ti.size) | none => none
  | _ => none
def buildOk (gp : GP) : TK → Bool
  | .struct _ => true
  | .array _ e => (gp.ty e).isSome
  | _ => false
def gpart (ti : TI) (x : GV) (off : Nat) : Option GV :=
  match x with
  | .d (.agg cs) => match partD ti (.agg cs) off with | some y => some (.d y) | none => none
  | .agg cs => partG ti cs off
  | _ => none
def inOrder (sz : Nat) : Nat → List (Nat × GV) → Option (List DV)
  | _, [] => some []
  | i, (j, v) :: r =>
    bif j.beq i then
      match toD v with
      | some y => bif y.cells.length.beq sz && y.cells.all DVcellOk then (match inOrder sz (i + 1) r with | some ys => some (y :: ys) | none => none) else none
      | none => none
    else none

def lenG : GV → Option Nat
  | .slc _ _ n _ => some n
  | x => match asL x with | some es => some es.length | none => none

/-- The elements of a row of the ghost heap, if they are all data: sz cells each. -/
def chunk (sz : Nat) (agg : Bool) : Nat → List DV → List DV
  | 0, _ => []
  | n + 1, l => (bif agg then DV.agg (l.take sz) else (l.head?.getD (.lit nilS))) :: chunk sz agg n (l.drop sz)
def srcOf (h : List GB) (ti : TI) (x : GV) : Option (List DV) :=
  match x with
  | .slc id off n _ =>
    match h[id]? with
    | some (.cells cs) =>
      bif (off + n * ti.size).ble cs.length then
        match toDs ((cs.drop off).take (n * ti.size)) with
        | some l => bif l.all DVcellOk then some (chunk ti.size ti.agg n l) else none
        | none => none
      else none
    | _ => none
  | x => asL x

def callT (f : GV) (args : List GV) : Option (Nat × List GV) :=
  match f with
  | .d (.fn (.func g) a b) => some (g, a.map .d ++ args ++ b.map .d)
  | .fn (.func g) a b => some (g, a ++ args ++ b)
  | _ => none

abbrev Call := Nat → Nat → List GV → List GB → (GV → List GB → Bool) → Bool
abbrev CK := GV → List GB → Bool

def maxBytes : Nat := 140737488355328
def gappend (gp : GP) (lk sT : Nat) (s x : GV) (h : List GB) (k : CK) : Bool :=
  match gp.ty sT with
  | some { kind := .slice e, .. } =>
    match gp.ty e with
    | some ti =>
      match srcOf h ti x with
      | some xs => bif szOk ti.size xs then
        match s with
        | .tl es t =>
          match h[t]? with
          | some (.tail L sz) =>
            bif lk.ble t && L.beq es.length && sz.beq ti.size && Nat.ble 1 ti.bytes && ((es.length + xs.length) * ti.bytes).ble maxBytes then
              k (.tl (es ++ xs) t) (h.set t (.tail (L + xs.length) sz))
            else false
          | _ => false
        | s =>
          match (match s with | .d (.lit (.slice none 0 0)) => some [] | .xl es => some es | _ => none) with
          | some es =>
            bif Nat.ble 1 ti.bytes && ((es.length + xs.length) * ti.bytes).ble maxBytes && szOk ti.size es then
              k (.tl (es ++ xs) h.length) (h ++ [.tail (es.length + xs.length) ti.size])
            else false
          | none => false
        else false
      | none => false
    | none => false
  | _ => false

def gcopy (gp : GP) (lk dT : Nat) (dst x : GV) (h : List GB) (k : CK) : Bool :=
  match gp.ty dT with
  | some { kind := .slice e, .. } =>
    match gp.ty e with
    | some ti =>
      match dst with
      | .slc id off n _ =>
        match srcOf h ti x, h[id]? with
        | some xs, some (.cells cs) =>
          bif lk.ble id && szOk ti.size xs && xs.length.ble n && (off + (flat xs).length).ble cs.length then
            k (gi xs.length) (h.set id (.cells (setR cs off ((flat xs).map .d))))
          else false
        | _, _ => false
      | _ => false
    | none => false
  | _ => false

def foldI (f : Int → Int → Int) (k : IntKind) : Int → List GV → Option Int
  | a, [] => some a
  | a, x :: r => match asN x with
    | some (k', b) => if k = k' then foldI f k (f a b) r else none
    | none => none
def gbuiltin (gp : GP) (lk : Nat) (b : Builtin) (types : Array TypeId) (args : List GV) (h : List GB) (k : CK) : Bool :=
  match b, args with
  | .len, [.map id] => match h[id]? with | some (.map es) => k (gi es.length) h | _ => false
  | .append, [s, x] => match types.toList with
    | sT :: xT :: _ => match gp.ty xT with
      | some { kind := .slice _, .. } => gappend gp lk sT s x h k
      | _ => false
    | _ => false
  | .copy, [d, x] => match types.toList with
    | dT :: _ => gcopy gp lk dT d x h k
    | _ => false
  | _, _ => false

def bnd (x : Option GV) (dflt hi : Nat) : Option Nat :=
  match x with
  | none => some dflt
  | some v => match asN v with
    | some (_, n) => if 0 ≤ n ∧ n ≤ (hi : Int) then some n.toNat else none
    | none => none
def gslice (gp : GP) (t : Nat) (x : GV) (lo hi mx : Option GV) : Option GV :=
  match gp.ty t with
  | some { kind := .slice e, .. } =>
    match gp.ty e with
    | some ti =>
      match x with
      | .slc id off n cap =>
        match mx with
        | none =>
          match bnd hi n n with
          | some j => match bnd lo 0 j with
            | some i => some (.slc id (off + i * ti.size) (j - i) (match cap with | some c => some (c - i) | none => none))
            | none => none
          | none => none
        | some m =>
          match bnd (some m) 0 n with
          | some c => match hi with
            | none => none
            | some q => match bnd (some q) n c with
              | some j => match bnd lo 0 j with
                | some i => some (.slc id (off + i * ti.size) (j - i) (some (c - i)))
                | none => none
              | none => none
          | none => none
      | x =>
        match asL x with
        | some es => bif szOk ti.size es then
          match mx with
          | none =>
            match bnd hi es.length es.length with
            | some j => match bnd lo 0 j with
              | some i => some (.d (.list ((es.take j).drop i)))
              | none => none
            | none => none
          | some m =>
            match bnd (some m) 0 es.length with
            | some c => match hi with
              | none => none
              | some q => match bnd (some q) es.length c with
                | some j => match bnd lo 0 j with
                  | some i => bif j.beq c then some (.xl ((es.take j).drop i)) else none
                  | none => none
                | none => none
            | none => none
          else none
        | none => none
    | none => none
  | _ => none

def gindexAddr (gp : GP) (t : Nat) (x ix : GV) : Option GV :=
  match asN ix with
  | some (_, i) =>
    match gp.ty t with
    | some { kind := .slice e, .. } =>
      match gp.ty e with
      | some ti =>
        match x with
        | .slc id off n _ => if 0 ≤ i ∧ i < (n : Int) then some (.ptr id (off + i.toNat * ti.size)) else none
        | x => match asL x with
          | some es => bif szOk ti.size es then (if 0 ≤ i ∧ i < (es.length : Int) then some (.d (.vptr es i.toNat 0)) else none) else none
          | none => none
      | none => none
    | some { kind := .array n e, .. } =>
      match gp.ty e with
      | some ti =>
        match x with
        | .ptr id off => if 0 ≤ i ∧ i < (n : Int) then some (.ptr id (off + i.toNat * ti.size)) else none
        | .d (.vptr es j off) => if 0 ≤ i ∧ i < (n : Int) then some (.d (.vptr es j (off + i.toNat * ti.size))) else none
        | _ => none
      | none => none
    | _ => none
  | none => none
def gfieldAddr (gp : GP) (s : Nat) (x : GV) (f : Nat) : Option GV :=
  match gp.ty s with
  | some { kind := .struct fs, .. } =>
    match fs[f]? with
    | some (off, ft) => match gp.ty ft with
      | some ti => bif ti.size.beq 0 then none else
        match x with
        | .ptr id o => some (.ptr id (o + off))
        | .d (.vptr es i o) => some (.d (.vptr es i (o + off)))
        | _ => none
      | none => none
    | none => none
  | _ => none

/-- Are two keys equal? -/
def eqV : Value → Value → Option Bool
  | .int k a, .int k' b => if k = k' then some (a == b) else none
  | .bool a, .bool b => some (a == b)
  | .string a, .string b => some (a == b)
  | _, _ => none
def eqDs : List DV → List DV → Option Bool
  | [], [] => some true
  | .lit a :: r, .lit b :: r' => match eqV a b with
    | some true => eqDs r r'
    | some false => some false
    | none => none
  | _, _ => none
def eqD : DV → DV → Option Bool
  | .lit a, .lit b => eqV a b
  | _, _ => none
/-- The place of a key in a map. -/
def findK (k : DV) : Nat → List (DV × GV) → Option (Option (Nat × GV))
  | _, [] => some none
  | i, (k', v) :: r => match eqD k k' with
    | some true => some (some (i, v))
    | some false => findK k (i + 1) r
    | none => none
def glookup (gp : GP) (t : Nat) (m key : GV) (ok : Bool) (h : List GB) (k : CK) : Bool :=
  match gp.ty t with
  | some { kind := .map kt e, .. } =>
    match gp.ty kt with
    | some { kind := .int _, .. } =>
      match gp.ty e with
      | some ti =>
        match m, key with
        | .map id, .d (.lit (.int kk kn)) => match h[id]? with
          | some (.map es) => match findK (.lit (.int kk kn)) 0 es with
            | some (some (_, v)) => k (bif ok then .tup [v, gb true] else v) h
            | some none => match ti.zero with
              | [z] => bif ti.agg then false else k (bif ok then .tup [.d (.lit z), gb false] else .d (.lit z)) h
              | _ => false
            | none => false
          | _ => false
        | _, _ => false
      | none => false
    | _ => false
  | _ => false
def gmapUpdate (gp : GP) (lk t : Nat) (m key v : GV) (h : List GB) (k : CK) : Bool :=
  match gp.ty t with
  | some { kind := .map kt _, .. } =>
    match gp.ty kt with
    | some { kind := .int _, .. } =>
      match m, key with
      | .map id, .d (.lit (.int kk kn)) => match h[id]? with
        | some (.map es) => bif lk.ble id && cellOk v then
          match findK (.lit (.int kk kn)) 0 es with
          | some (some (i, _)) => k .und (h.set id (.map (es.set i (.lit (.int kk kn), v))))
          | some none => k .und (h.set id (.map (es ++ [(.lit (.int kk kn), v)])))
          | none => false else false
        | _ => false
      | _, _ => false
    | _ => false
  | _ => false

/-- Operations that only compute: no memory of the ghost machine is asked or turned. -/
def isV (gp : GP) (hint : Nat) (o : Oper) : Bool :=
  match o.op with
  | .move _ | .pick .. | .nilCheck _ | .binOp .. | .unOp .. | .convert .. | .makeFunc .. | .slice .. | .fieldAddr .. | .field ..
  | .indexAddr .. | .index .. | .build .. | .extract .. => true
  | .assign _ => !(hint.beq 2)
  | .alloc _ => hint.beq 4
  | .load .. => hint.beq 7
  | .buildSlice .. => !(hint.beq 3)
  | .call c => match c.callee with
    | .builtin .len => match c.argTypes.toList with
      | [t] => match gp.ty t with
        | some { kind := .map _ _, .. } => false
        | _ => true
      | _ => true
    | .builtin .max | .builtin .min => true
    | _ => false
  | _ => false
def gload (gp : GP) (t : Nat) (a : GV) (h : List GB) : Option GV :=
  match gp.ty t with
  | some ti => match a with
    | .d (.vptr es i off) => match es[i]? with
      | some e => match partD ti e off with | some y => some (.d y) | none => none
      | none => none
    | .ptr id off => match h[id]? with
      | some (.cells cs) => partG ti cs off
      | _ => none
    | _ => none
  | none => none
def gval (gp : GP) (o : Oper) (ρ : Operand → GV) : Option GV :=
  match o.op with
  | .move x | .assign x => some (ρ x)
  | .pick c a b => match asB (ρ c) with
    | some t => some (bif t then ρ a else ρ b)
    | none => none
  | .alloc t => some (.new t)
  | .load t a => match gp.ty t with
    | some ti => match ρ a with
      | .d (.vptr es i off) => match es[i]? with
        | some e => match partD ti e off with | some y => some (.d y) | none => none
        | none => none
      | _ => none
    | none => none
  | .nilCheck x => match ρ x with
    | .ptr id off => some (.ptr id off)
    | .d (.vptr es i off) => some (.d (.vptr es i off))
    | .d (.fn (.func f) a b) => some (.d (.fn (.func f) a b))
    | .fn (.func f) a b => some (.fn (.func f) a b)
    | _ => none
  | .binOp op t x y _ => gbin gp op t (ρ x) (ρ y)
  | .unOp op _ x => match op with
    | .not => match asB (ρ x) with | some b => some (gb (!b)) | none => none
    | .neg => match asN (ρ x) with | some (kd, n) => some (.d (.lit (.int kd (kd.wrap (0 - n))))) | none => none
    | _ => none
  | .convert src dst x => match gp.ty src, gp.ty dst, asN (ρ x) with
    | some _, some { kind := .int kd, .. }, some (_, n) => some (.d (.lit (.int kd (kd.wrap n))))
    | _, _, _ => none
  | .makeFunc f a b => some (mkFn f (a.toList.map ρ) (b.toList.map ρ))
  | .slice t x lo hi mx => gslice gp t (ρ x) (lo.map ρ) (hi.map ρ) (mx.map ρ)
  | .fieldAddr s x f => gfieldAddr gp s (ρ x) f
  | .field t x f => match gp.ty t with
    | some { kind := .struct fs, .. } => match fs[f]? with
      | some (off, ft) => match gp.ty ft with
        | some ti => gpart ti (ρ x) off
        | none => none
      | none => none
    | _ => none
  | .indexAddr t x ix => gindexAddr gp t (ρ x) (ρ ix)
  | .index t x ix => match gp.ty t, asN (ρ ix) with
    | some { kind := .array n e, .. }, some (_, i) => match gp.ty e with
      | some ti =>
        if 0 ≤ i ∧ i < (n : Int) then gpart ti (ρ x) (i.toNat * ti.size) else none
      | none => none
    | _, _ => none
  | .build t parts => match gp.ty t with
    | some ti => bif buildOk gp ti.kind then
      match gfill (placeOf gp ti.kind) (ti.zero.map fun v => .d (.lit v)) (parts.toList.map fun p => (p.1, ρ p.2)) with
      | some cs => some (mkAgg cs)
      | none => none
      else none
    | none => none
  | .buildSlice t len parts => match gp.ty t with
    | some { kind := .slice e, .. } => match gp.ty e with
      | some ti =>
        match inOrder ti.size 0 (parts.toList.map fun p => (p.1, ρ p.2)) with
        | some es => bif es.length.beq len && (len * ti.size).ble 16777216 then some (.xl es) else none
        | none => none
      | none => none
    | _ => none
  | .extract t i => match ρ t with
    | .tup vs => vs[i]?
    | _ => none
  | .call c => match c.callee with
    | .builtin b => match b, c.args.toList.map ρ with
      | .len, [x] => match c.argTypes.toList with
        | [t] => match gp.ty t with
          | some { kind := .slice _, .. } => match lenG x with | some n => some (gi n) | none => none
          | some { kind := .array n _, .. } => some (gi n)
          | _ => none
        | _ => none
      | .max, x :: r => match asN x with
        | some (kd, a) => match foldI (fun a b => if b > a then b else a) kd a r with | some m => some (.d (.lit (.int kd m))) | none => none
        | none => none
      | .min, x :: r => match asN x with
        | some (kd, a) => match foldI (fun a b => if b < a then b else a) kd a r with | some m => some (.d (.lit (.int kd m))) | none => none
        | none => none
      | _, _ => none
    | _ => none
  | _ => none

/-- Operations that ask or turn the ghost machine's memory. -/
def gheap (gp : GP) (call : Call) (lk base hint : Nat) (o : Oper) (ρ : Operand → GV) (h : List GB) (k : CK) : Bool :=
  match o.op with
  | .assign x =>
    bif isNilC (ρ x) then
      match gp.ty o.type with
      | some { kind := .slice e, .. } => match gp.ty e with
        | some ti => k (.tl [] h.length) (h ++ [.tail 0 ti.size])
        | none => false
      | _ => false
    else k (ρ x) h
  | .alloc t => match gp.ty t with
    | some ti => k (.ptr h.length 0) (h ++ [.cells (ti.zero.map fun v => .d (.lit v))])
    | none => false
  | .box _ x =>
    bif (ρ x).cells.all cellOk then
      bif hint.beq 1 then
        match toD (ρ x) with
        | some y => k (.d (.vptr [y] 0 0)) h
        | none => k (.ptr h.length 0) (h ++ [.cells (ρ x).cells])
      else k (.ptr h.length 0) (h ++ [.cells (ρ x).cells])
    else false
  | .load t a => match gload gp t (ρ a) h with | some v => k v h | none => false
  | .store t a x => match gp.ty t with
    | some ti => match ρ a with
      | .ptr id off => match h[id]? with
        | some (.cells cs) =>
          bif lk.ble id && (ρ x).cells.length.beq ti.size && (off + ti.size).ble cs.length && (ρ x).cells.all cellOk then
            k .und (h.set id (.cells (setR cs off (ρ x).cells)))
          else false
        | _ => false
      | _ => false
    | none => false
  | .makeSlice t l c => match gp.ty t, asN (ρ l), asN (ρ c) with
    | some { kind := .slice e, .. }, some (.i64, n), some (.i64, m) => match gp.ty e with
      | some ti =>
        if 0 ≤ n ∧ n ≤ m ∧ m * (ti.bytes : Int) ≤ (maxBytes : Int) ∧ m ≤ (maxBytes : Int) then
          bif hint.ble 9 then
            k (.slc h.length 0 n.toNat (some m.toNat)) (h ++ [.cells ((List.replicate m.toNat (ti.zero.map fun v => GV.d (.lit v))).flatten)])
          else match h[base + (hint - 10)]? with
            | some .resv => k (.slc (base + (hint - 10)) 0 n.toNat (some m.toNat)) (h.set (base + (hint - 10)) (.cells ((List.replicate m.toNat (ti.zero.map fun v => GV.d (.lit v))).flatten)))
            | _ => false
        else false
      | none => false
    | _, _, _ => false
  | .buildSlice t len parts => match gp.ty t with
    | some { kind := .slice e, .. } => match gp.ty e with
      | some ti =>
        match inOrder ti.size 0 (parts.toList.map fun p => (p.1, ρ p.2)) with
        | some es =>
          bif es.length.beq len && (len * ti.size).ble 16777216 then k (.slc h.length 0 len (some len)) (h ++ [.cells ((flat es).map .d)]) else false
        | none => false
      | none => false
    | _ => false
  | .makeMap _ none => k (.map h.length) (h ++ [.map []])
  | .lookup t m x ok => glookup gp t (ρ m) (ρ x) ok h k
  | .mapUpdate t m x v | .insert t m x v => gmapUpdate gp lk t (ρ m) (ρ x) (ρ v) h k
  | .range t m => match gp.ty t, ρ m with
    | some { kind := .map _ _, .. }, .map id => match h[id]? with
      | some (.map es) => k (.iter h.length) (h ++ [.iter id es.length (List.range es.length) none])
      | _ => false
    | _, _ => false
  | .next it false => match ρ it with
    | .iter id => match h[id]? with
      | some (.iter m n left _) => match h[m]? with
        | some (.map es) => bif lk.ble id && es.length.beq n then
            match left with
            | [] => k (.tup [gb false]) h
            | _ => left.all fun i => match es[i]? with
              | some (kd, v) => k (.tup [gb true, .d kd, v]) (h.set id (.iter m n (left.filter fun j => !(j == i)) (some i)))
              | none => false
          else false
        | _ => false
      | _ => false
    | _ => false
  | .entry it => match ρ it with
    | .iter id => match h[id]? with
      | some (.iter m n _ (some i)) => match h[m]? with
        | some (.map es) => bif es.length.beq n then (match es[i]? with
          | some (kd, v) => k (.tup [.d kd, v]) h
          | none => false) else false
        | _ => false
      | _ => false
    | _ => false
  | .call c => match c.callee with
    | .builtin b => gbuiltin gp lk b c.argTypes (c.args.toList.map ρ) h k
    | .value f => match callT (ρ f) (c.args.toList.map ρ) with
      | some (g, args) =>
        bif (gp.mode g).beq 0 then
          match toDAll args with
          | some ds => call 0 g (ds.map .d) [] fun r _ => match retD r with | some r' => k r' h | none => false
          | none => false
        else bif (gp.mode g).beq 1 then
          call h.length g args h fun r _ => match retD r with | some r' => k r' h | none => false
        else call lk g args h k
      | none => false
    | _ => false
  | _ => false
/-- One operation. -/
def gcore (gp : GP) (call : Call) (lk base hint : Nat) (o : Oper) (ρ : Operand → GV) (h : List GB) (k : CK) : Bool :=
  bif isV gp hint o then
    match gval gp o ρ with | some v => k v h | none => false
  else gheap gp call lk base hint o ρ h k

/-- slices.Grow of a nil slice. -/
def growNil (sz : Nat) (args : List GV) (h : List GB) (k : CK) : Bool :=
  match args with
  | [s, n] => bif isNilC s then match asN n with
    | some (.i64, m) => if 0 ≤ m ∧ m ≤ 1000000 then k (.tl [] h.length) (h ++ [.tail 0 sz]) else false
    | _ => false else false
  | _ => false
def hintOf (l : List (Nat × Nat)) (i : Nat) : Nat :=
  match l with
  | [] => 0
  | (j, c) :: r => bif i.beq j then c else hintOf r i
def wantedG (ops : Array Oper) (o : Oper) (e : Env) : Option Bool :=
  match o.guard with
  | none => some true
  | some (j, want) => match ops[j]? with
    | some { dst := some t, .. } => match e t with
      | .tup [] => some false
      | v => match asB v with
        | some b => some (b == want)
        | none => none
    | _ => none
def gop (gp : GP) (call : Call) (lk base : Nat) (hs : List (Nat × Nat)) (ops : Array Oper) (i : Nat) (o : Oper) (s : St) (K : St → Bool) : Bool :=
  match wantedG ops o s.env with
  | some b =>
    bif b then
      bif (hintOf hs i).beq 4 then
        match o.op with
        | .alloc t => match gp.ty t with
          | some _ => K { s with env := put s.env o.dst (.new t) }
          | none => false
        | _ => false
      else bif (hintOf hs i).beq 5 || (hintOf hs i).beq 6 then
        match o.op with
        | .store t (.tmp u) x => match s.env u with
          | .new t' => match gp.ty t with
            | some ti =>
              bif t'.beq t && (opd s.env x).cells.length.beq ti.size && (opd s.env x).cells.all cellOk then
                match (bif (hintOf hs i).beq 5 then toD (opd s.env x) else none) with
                | some y => K { s with env := put (put s.env (some u) (.d (.vptr [y] 0 0))) o.dst .und }
                | none => K { env := put (put s.env (some u) (.ptr s.heap.length 0)) o.dst .und, heap := s.heap ++ [.cells (opd s.env x).cells] }
              else false
            | none => false
          | _ => false
        | _ => false
      else gcore gp call lk base (hintOf hs i) o (opd s.env) s.heap fun v h => K { env := put s.env o.dst (noNew v), heap := h }
    else K { s with env := put s.env o.dst (.tup []) }
  | none => false
def gops (gp : GP) (call : Call) (lk base : Nat) (hs : List (Nat × Nat)) (ops : Array Oper) : List (Nat × Oper) → St → (St → Bool) → Bool
  | [], s, K => K s
  | (i, o) :: rest, s, K => gop gp call lk base hs ops i o s fun s' => gops gp call lk base hs ops rest s' K

/-- A row that came to rest: with no room behind it, if that is known. -/
def frzR (n : Nat) (cap : Option Nat) (l : List DV) : GV :=
  match cap with
  | some c => bif c.beq n then .xl l else .d (.list l)
  | none => .d (.list l)
/-- What a frozen temporary becomes. -/
def frzV (gp : GP) (lk : Nat) (h : List GB) (e : Nat) (v : GV) : Option (GV × List GB) :=
  match v with
  | .ptr id 0 => match h[id]? with
    | some (.cells cs) => match toDs cs with
      | some l => bif lk.ble id && l.all DVcellOk then some (.d (.vptr [.agg l] 0 0), h.set id .dead) else none
      | none => none
    | _ => none
  | .slc id off n cap => match gp.ty e with
    | some ti => match h[id]? with
      | some (.cells cs) =>
        bif (off + n * ti.size).ble cs.length then
          match toDs cs with
          | some l => bif lk.ble id && l.all DVcellOk then some (frzR n cap (chunk ti.size ti.agg n ((l.drop off).take (n * ti.size))), h.set id .dead) else none
          | none => none
        else none
      | _ => none
    | none => none
  | v => some (v, h)
def frz (gp : GP) (lk : Nat) : List (Nat × Nat) → St → (St → Bool) → Bool
  | [], s, K => K s
  | (t, e) :: r, s, K => match frzV gp lk s.heap e (s.env t) with
    | some (v, h) => frz gp lk r { env := put s.env (some t) v, heap := h } K
    | none => false
def ofL (l : List (Nat × GV)) : Env :=
  match l with
  | [] => fun _ => .und
  | (t, v) :: r => fun u => bif u.beq t then v else ofL r u
def keepE (k : Option (List Nat)) (e : Env) : Env :=
  match k with
  | none => e
  | some l => ofL (l.map fun t => (t, noNew (e t)))
def number {α : Type} : Nat → List α → List (Nat × α)
  | _, [] => []
  | i, x :: r => (i, x) :: number (i + 1) r

inductive GX where
  | normal
  | exit (id : Nat)
  | ret

def giter (body : St → (GX → St → Bool) → Bool) : Nat → St → (GX → St → Bool) → Bool
  | 0, _, _ => false
  | n + 1, s, K => body s fun e s' => match e with
    | .normal => giter body n s' K
    | e => K e s'
/-- The i-th row behind the j-th. -/
def delay {α : Type} (i j : Nat) (l : List (Nat × α)) : List (Nat × α) :=
  l.filter (fun p => (p.1).ble j && !((p.1).beq i)) ++ l.filter (fun p => (p.1).beq i) ++ l.filter (fun p => !((p.1).ble j))
def gregion (gp : GP) (call : Call) (lk f id : Nat) (ops : Array Oper) (s : St) (K : St → Bool) : Bool :=
  frz gp lk (gp.hint f id).pre { s with env := keepE (gp.hint f id).keep s.env } fun s1 =>
    match (gp.hint f id).dual with
      | none => gops gp call lk s1.heap.length (gp.hint f id).ops ops (number 0 ops.toList) { s1 with heap := s1.heap ++ List.replicate (gp.hint f id).resv .resv }
          fun s' => frz gp lk (gp.hint f id).frz s' K
      | some (i, j) => bif gops gp call lk s1.heap.length (gp.hint f id).ops ops (number 0 ops.toList) { s1 with heap := s1.heap ++ List.replicate (gp.hint f id).resv .resv }
            fun s' => frz gp lk (gp.hint f id).frz s' K
          then gops gp call lk s1.heap.length (gp.hint f id).ops ops (delay i j (number 0 ops.toList)) { s1 with heap := s1.heap ++ List.replicate (gp.hint f id).resv .resv }
            fun s' => frz gp lk (gp.hint f id).frz s' K
          else false
def gx (gp : GP) (call : Call) (lk f L : Nat) : Code → St → (GX → St → Bool) → Bool
  | .skip, s, K => K .normal s
  | .region id ops _, s, K => gregion gp call lk f id ops s (K .normal)
  | .seq a b, s, K => gx gp call lk f L a s fun e s' => match e with
    | .normal => gx gp call lk f L b s' K
    | e => K e s'
  | .cond c a b, s, K => match asB (opd s.env c) with
    | some t => bif t then gx gp call lk f L a s K else gx gp call lk f L b s K
    | none => false
  | .block id c, s, K => gx gp call lk f L c s fun e s' => match e with
    | .exit i => bif i.beq id then K .normal s' else K (.exit i) s'
    | e => K e s'
  | .loop c, s, K => giter (gx gp call lk f L c) L s K
  | .exit id, s, K => K (.exit id) s
  | .ret, s, K => K .ret s
  | _, _, _ => false

def resG (gp : GP) (s : St) : List ResultVar → Option (List GV)
  | [] => some []
  | .tmp t :: r => match resG gp s r with | some l => some (s.env t :: l) | none => none
  | .cell a t :: r => match gp.ty t, s.env a with
    | some ti, .ptr id off => match s.heap[id]? with
      | some (.cells cs) => match partG ti cs off, resG gp s r with
        | some v, some l => some (v :: l)
        | _, _ => none
      | _ => none
    | _, _ => none
def resV : List GV → GV
  | [v] => v
  | l => .tup l
def initE (args : List GV) : Env := fun u => noNew (ofL (number 0 args) u)
def gcall (gp : GP) : Nat → Call
  | 0 => fun _ _ _ _ _ => false
  | n + 1 => fun lk f args h K =>
    match gp.ovr f with
    | some F => F args h K
    | none =>
      match gp.fn f with
      | some fn => match fn.body with
        | some c => gx gp (gcall gp n) lk f (n + 1) c { env := initE args, heap := h } fun e s =>
          match e with
          | .exit _ => false
          | _ => match resG gp s fn.results.toList with
            | some l => K (resV l) s.heap
            | none => false
        | none => false
      | none => false

end Go.Gh
namespace Go.Gh

structure Sim where
  mu : Nat → Nat
  imm : Addr → Option Value
  tok : Nat → Value

inductive DR (imm : Addr → Option Value) : DV → Value → Prop where
  | lit (v : Value) (h : Value.flatB v = true) : DR imm (.lit v) v
  | agg (cs : List DV) (vs : Array Value) (hs : vs.size = cs.length) (h : ∀ k (h1 : k < cs.length) (h2 : k < vs.size), DR imm cs[k] vs[k]) : DR imm (.agg cs) (.agg vs)
  | nil (a : Option Addr) (c : Nat) : DR imm (.list []) (.slice a 0 c)
  | list (es : List DV) (sz : Nat) (a : Addr) (c : Nat) (vals : Nat → Value) (hc : es.length ≤ c) (hsz : ∀ e ∈ es, e.cells.length = sz)
      (hi : ∀ k, k < (flat es).length → imm ⟨a.block, a.off + k, none⟩ = some (vals k))
      (hd : ∀ k (h : k < (flat es).length), DR imm (flat es)[k] (vals k)) (ha : a.spot = none) (hk : ∀ x ∈ flat es, DVcellOk x = true) : DR imm (.list es) (.slice (some a) es.length c)
  | vptr (es : List DV) (sz i off : Nat) (a : Addr) (vals : Nat → Value) (hsz : ∀ e ∈ es, e.cells.length = sz)
      (hi : ∀ k, k < (flat es).length → imm ⟨a.block, a.off + k, none⟩ = some (vals k))
      (hd : ∀ k (h : k < (flat es).length), DR imm (flat es)[k] (vals k)) : DR imm (.vptr es i off) (.pointer (some ⟨a.block, a.off + i * sz + off, none⟩))
  | fn (f : Fn) (a b : List DV) (x y : Array Value) (hx : x.size = a.length) (hy : y.size = b.length)
      (h1 : ∀ k (h1 : k < a.length) (h2 : k < x.size), DR imm a[k] x[k]) (h2 : ∀ k (h1 : k < b.length) (h2 : k < y.size), DR imm b[k] y[k]) : DR imm (.fn f a b) (.func f x y)
  | iface (t : TypeId) (x : DV) (v : Value) (h : DR imm x v) : DR imm (.iface t x) (.iface t v)

theorem DR.mono {i j : Addr → Option Value} (hij : ∀ a v, i a = some v → j a = some v) {x : DV} {v : Value} (h : DR i x v) : DR j x v := by
  induction h with
  | lit v h => exact .lit v h
  | agg cs vs hs _ ih => exact .agg cs vs hs ih
  | nil a c => exact .nil a c
  | list es sz a c vals hc hsz hi _ ha hk ih => exact .list es sz a c vals hc hsz (fun k hk => hij _ _ (hi k hk)) (fun k hk => ih k hk) ha hk
  | vptr es sz i off a vals hsz hi _ ih => exact .vptr es sz i off a vals hsz (fun k hk => hij _ _ (hi k hk)) ih
  | fn f a b x y hx hy _ _ i1 i2 => exact .fn f a b x y hx hy i1 i2
  | iface t x v _ ih => exact .iface t x v ih

def fixedB : GB → Bool
  | .tail _ _ | .resv => false
  | _ => true
def Fixed (H : List GB) (id : Nat) : Prop := ∃ b, H[id]? = some b ∧ fixedB b = true

inductive GR (σ : Sim) (H : List GB) : GV → Value → Prop where
  | d (x : DV) (v : Value) (h : DR σ.imm x v) : GR σ H (.d x) v
  | und (v : Value) : GR σ H .und v
  | xl (es : List DV) (a : Option Addr) (h : DR σ.imm (.list es) (.slice a es.length es.length)) : GR σ H (.xl es) (.slice a es.length es.length)
  | tl (es : List DV) (t L sz : Nat) (v : Value) (ht : H[t]? = some (.tail L sz)) (hl : es.length ≤ L) (h : DR σ.imm (.list es) v) (hc : es.length = L → v = σ.tok t) (hz : ∀ e ∈ es, e.cells.length = sz) : GR σ H (.tl es t) v
  | ptr (id off : Nat) (hf : Fixed H id) : GR σ H (.ptr id off) (.pointer (some ⟨σ.mu id, off, none⟩))
  | slc (id off n : Nat) (cap : Option Nat) (a : Addr) (c : Nat) (hf : Fixed H id) (hc : n ≤ c) (ha : 0 < c → a = ⟨σ.mu id, off, none⟩) (hm : ∀ m, cap = some m → c = m) :
      GR σ H (.slc id off n cap) (.slice (some a) n c)
  | map (id : Nat) (hf : Fixed H id) : GR σ H (.map id) (.map (some (σ.mu id)))
  | iter (id : Nat) (hf : Fixed H id) : GR σ H (.iter id) (.pointer (some ⟨σ.mu id, 0, none⟩))
  | new (t : Nat) (v : Value) : GR σ H (.new t) v
  | fn (f : Fn) (a b : List GV) (x y : Array Value) (hx : x.size = a.length) (hy : y.size = b.length)
      (h1 : ∀ k (h1 : k < a.length) (h2 : k < x.size), GR σ H a[k] x[k]) (h2 : ∀ k (h1 : k < b.length) (h2 : k < y.size), GR σ H b[k] y[k]) : GR σ H (.fn f a b) (.func f x y)
  | agg (cs : List GV) (vs : Array Value) (hs : vs.size = cs.length) (h : ∀ k (h1 : k < cs.length) (h2 : k < vs.size), GR σ H cs[k] vs[k]) : GR σ H (.agg cs) (.agg vs)
  | tup (cs : List GV) (vs : Array Value) (hs : vs.size = cs.length) (h : ∀ k (h1 : k < cs.length) (h2 : k < vs.size), GR σ H cs[k] vs[k]) : GR σ H (.tup cs) (.tuple vs)

structure Ext (σ : Sim) (H : List GB) (σ' : Sim) (H' : List GB) : Prop where
  fixed : ∀ id, Fixed H id → Fixed H' id ∧ σ'.mu id = σ.mu id
  tail : ∀ t L sz, H[t]? = some (.tail L sz) → ∃ L', H'[t]? = some (.tail L' sz) ∧ L ≤ L' ∧ (L' = L → σ'.tok t = σ.tok t)
  imm : ∀ a v, σ.imm a = some v → σ'.imm a = some v

theorem Ext.refl (σ : Sim) (H : List GB) : Ext σ H σ H := ⟨fun _ h => ⟨h, rfl⟩, fun _ L _ h => ⟨L, h, Nat.le_refl _, fun _ => rfl⟩, fun _ _ h => h⟩
theorem Ext.trans {σ σ1 σ2 : Sim} {H H1 H2 : List GB} (h : Ext σ H σ1 H1) (k : Ext σ1 H1 σ2 H2) : Ext σ H σ2 H2 := by
  refine ⟨fun id hf => ?_, fun t L sz ht => ?_, fun a v ha => k.imm a v (h.imm a v ha)⟩
  · obtain ⟨h1, e1⟩ := h.fixed id hf
    obtain ⟨h2, e2⟩ := k.fixed id h1
    exact ⟨h2, e2.trans e1⟩
  · obtain ⟨L1, h1, l1, c1⟩ := h.tail t L sz ht
    obtain ⟨L2, h2, l2, c2⟩ := k.tail t L1 sz h1
    refine ⟨L2, h2, Nat.le_trans l1 l2, fun e => ?_⟩
    have e1 : L1 = L := by omega
    exact (c2 (by omega)).trans (c1 e1)

theorem GR.mono {σ σ' : Sim} {H H' : List GB} (e : Ext σ H σ' H') {x : GV} {v : Value} (h : GR σ H x v) : GR σ' H' x v := by
  induction h with
  | d x v h => exact .d x v (h.mono e.imm)
  | und v => exact .und v
  | xl es a h => exact .xl es a (h.mono e.imm)
  | tl es t L sz v ht hl h hc hz =>
    obtain ⟨L', h1, l1, c1⟩ := e.tail t L sz ht
    refine .tl es t L' sz v h1 (Nat.le_trans hl l1) (h.mono e.imm) (fun q => ?_) hz
    have : L' = L := by omega
    rw [c1 this]
    exact hc (by omega)
  | ptr id off hf => obtain ⟨h1, h2⟩ := e.fixed id hf; rw [← h2]; exact .ptr id off h1
  | slc id off n cap a c hf hc ha hm => obtain ⟨h1, h2⟩ := e.fixed id hf; exact .slc id off n cap a c h1 hc (fun q => by rw [h2]; exact ha q) hm
  | map id hf => obtain ⟨h1, h2⟩ := e.fixed id hf; rw [← h2]; exact .map id h1
  | iter id hf => obtain ⟨h1, h2⟩ := e.fixed id hf; rw [← h2]; exact .iter id h1
  | new t v => exact .new t v
  | fn f a b x y hx hy _ _ i1 i2 => exact .fn f a b x y hx hy i1 i2
  | agg cs vs hs _ ih => exact .agg cs vs hs ih
  | tup cs vs hs _ ih => exact .tup cs vs hs ih

/-- The block of an object that the ghost machine may write. -/
def Own (σ : Sim) (id : Nat) : GB → Prop
  | .cells _ | .map _ | .iter .. => True
  | .tail L _ => ∃ a c, σ.tok id = .slice a L c ∧ L < c
  | .resv | .dead => False

def BR (σ : Sim) (H : List GB) (w : World) (id : Nat) : GB → Prop
  | .cells cs => ∃ c el, w.heap[σ.mu id]? = some (.cells c el (0, 0)) ∧ c.size = cs.length ∧ (∀ k (h1 : k < cs.length) (h2 : k < c.size), GR σ H cs[k] c[k]) ∧
      ∀ o s, σ.imm ⟨σ.mu id, o, s⟩ = none
  | .tail L sz => ∃ a c, σ.tok id = .slice a L c ∧ L ≤ c ∧ (L < c → a = some ⟨σ.mu id, 0, none⟩ ∧
      (∃ cs el, w.heap[σ.mu id]? = some (.cells cs el (0, 0)) ∧ c * sz ≤ cs.size) ∧ ∀ o s, L * sz ≤ o → σ.imm ⟨σ.mu id, o, s⟩ = none)
  | .map es => ∃ E : Array MapEntry, w.heap[σ.mu id]? = some (.map E E.size) ∧ E.size = es.length ∧
      ∀ k (h1 : k < es.length) (h2 : k < E.size), DR σ.imm (es[k]).1 (E[k]).key ∧ GR σ H (es[k]).2 (E[k]).val ∧ (E[k]).born = k
  | .iter m n left cur => Fixed H m ∧ ∃ seen : Array Nat, w.heap[σ.mu id]? = some (.mapIter (some (σ.mu m)) n seen n) ∧ seen.back? = cur ∧
      (∀ i, i ∈ left ↔ i < n ∧ i ∉ seen.toList) ∧ left.Nodup
  | .resv | .dead => True

structure WR (σ : Sim) (H : List GB) (w : World) : Prop where
  imm : ∀ a v, σ.imm a = some v → a.spot = none ∧ w.cell? a = some v
  blk : ∀ id b, H[id]? = some b → BR σ H w id b
  inj : ∀ i j bi bj, H[i]? = some bi → H[j]? = some bj → Own σ i bi → Own σ j bj → i ≠ j → σ.mu i ≠ σ.mu j

/-- What a step may have turned: what lies at the ghost machine's objects from 'lk' on, and what is new. -/
structure Step (lk : Nat) (σ : Sim) (H : List GB) (w : World) (σ' : Sim) (H' : List GB) (w' : World) : Prop where
  ext : Ext σ H σ' H'
  os : w'.os = w.os
  tape : w'.tape = w.tape
  output : w'.output = w.output
  size : w.heap.size ≤ w'.heap.size
  frm : ∀ k, k < w.heap.size → (∀ id b, H[id]? = some b → lk ≤ id → Own σ id b → σ.mu id ≠ k) → w'.heap[k]? = w.heap[k]?
  own : ∀ id b, H'[id]? = some b → Own σ' id b → (∃ b0, H[id]? = some b0 ∧ Own σ id b0 ∧ σ'.mu id = σ.mu id) ∨ (lk ≤ id ∧ w.heap.size ≤ σ'.mu id)
  lock : ∀ id, id < lk → H'[id]? = H[id]? ∧ σ'.mu id = σ.mu id ∧ σ'.tok id = σ.tok id
  new : ∀ a, σ'.imm a ≠ σ.imm a → w.heap.size ≤ a.block ∨ ∃ id b, H[id]? = some b ∧ lk ≤ id ∧ Own σ id b ∧ σ.mu id = a.block
  len : H.length ≤ H'.length

theorem Step.refl (lk : Nat) (σ : Sim) (H : List GB) (w : World) : Step lk σ H w σ H w :=
  ⟨.refl σ H, rfl, rfl, rfl, Nat.le_refl _, fun _ _ _ => rfl, fun id b h o => .inl ⟨b, h, o, rfl⟩, fun _ _ => ⟨rfl, rfl, rfl⟩, fun _ h => absurd rfl h, Nat.le_refl _⟩

theorem Step.trans {lk : Nat} {σ σ1 σ2 : Sim} {H H1 H2 : List GB} {w w1 w2 : World} (h : Step lk σ H w σ1 H1 w1) (k : Step lk σ1 H1 w1 σ2 H2 w2) : Step lk σ H w σ2 H2 w2 := by
  refine ⟨h.ext.trans k.ext, k.os.trans h.os, k.tape.trans h.tape, k.output.trans h.output, Nat.le_trans h.size k.size, fun q hq hn => ?_, fun id b hb ho => ?_, fun id hid => ?_, fun a ha => ?_, Nat.le_trans h.len k.len⟩
  · rw [k.frm q (Nat.lt_of_lt_of_le hq h.size) fun id b hb hl ho e => ?_, h.frm q hq hn]
    rcases h.own id b hb ho with ⟨b0, h0, o0, e0⟩ | ⟨_, hge⟩
    · exact hn id b0 h0 hl o0 (e0 ▸ e)
    · omega
  · rcases k.own id b hb ho with ⟨b1, h1, o1, e1⟩ | ⟨hl, hge⟩
    · rcases h.own id b1 h1 o1 with ⟨b0, h0, o0, e0⟩ | ⟨hl, hge⟩
      · exact .inl ⟨b0, h0, o0, e1.trans e0⟩
      · exact .inr ⟨hl, e1 ▸ hge⟩
    · exact .inr ⟨hl, Nat.le_trans h.size hge⟩
  · obtain ⟨a1, b1, c1⟩ := h.lock id hid
    obtain ⟨a2, b2, c2⟩ := k.lock id hid
    exact ⟨a2.trans a1, b2.trans b1, c2.trans c1⟩
  · by_cases e : σ1.imm a = σ.imm a
    · rcases k.new a (by rw [e]; exact ha) with hge | ⟨id, b, hb, hl, ho, em⟩
      · exact .inl (Nat.le_trans h.size hge)
      · rcases h.own id b hb ho with ⟨b0, h0, o0, e0⟩ | ⟨_, hge⟩
        · exact .inr ⟨id, b0, h0, hl, o0, e0 ▸ em⟩
        · exact .inl (em ▸ hge)
    · exact h.new a e

/-- Nothing of the machine's memory that was there is turned: a draw alone, or new blocks. -/
theorem WR.size_lt {σ : Sim} {H : List GB} {w : World} (h : WR σ H w) {id : Nat} {b : GB} (hb : H[id]? = some b) (ho : Own σ id b) : σ.mu id < w.heap.size := by
  have hlt : ∀ {o : Obj}, w.heap[σ.mu id]? = some o → σ.mu id < w.heap.size := fun hq => by
    rcases Nat.lt_or_ge (σ.mu id) w.heap.size with q | q
    · exact q
    · simp [Array.getElem?_eq_none q] at hq
  have hk := h.blk id b hb
  cases b with
  | cells cs => obtain ⟨c, el, hq, _⟩ := hk; exact hlt hq
  | tail L sz =>
    obtain ⟨a, c, ht, hle, hsp⟩ := hk
    obtain ⟨a', c', ht', hlt'⟩ := ho
    rw [ht] at ht'
    injection ht' with _ _ e3
    subst e3
    obtain ⟨_, ⟨cs, el, hq, _⟩, _⟩ := hsp hlt'
    exact hlt hq
  | map es => obtain ⟨E, hq, _⟩ := hk; exact hlt hq
  | iter m n l c => obtain ⟨_, s, hq, _⟩ := hk; exact hlt hq
  | resv => exact ho.elim
  | dead => exact ho.elim

theorem Own.congr {σ σ' : Sim} {id : Nat} {b : GB} (ht : σ'.tok id = σ.tok id) (h : Own σ' id b) : Own σ id b := by
  cases b <;> simp only [Own] at * <;> try trivial
  rw [← ht]; exact h

/-- The ghost machine's memory read in another world, in which its blocks lie as they did; more cells may have come to rest. -/
theorem WR.carry {σ σ' : Sim} {H : List GB} {w w' : World} (h : WR σ H w) (hmu : σ'.mu = σ.mu) (htok : σ'.tok = σ.tok) (himm : ∀ a v, σ.imm a = some v → σ'.imm a = some v)
    (hok : ∀ a v, σ'.imm a = some v → a.spot = none ∧ w'.cell? a = some v)
    (hb : ∀ id b, H[id]? = some b → Own σ id b → w'.heap[σ.mu id]? = w.heap[σ.mu id]? ∧ ∀ a, a.block = σ.mu id → σ'.imm a = σ.imm a) : WR σ' H w' := by
  have he : Ext σ H σ' H := ⟨fun id hf => ⟨hf, by rw [hmu]⟩, fun t L sz ht => ⟨L, ht, Nat.le_refl _, fun _ => by rw [htok]⟩, himm⟩
  refine ⟨hok, fun id b hid => ?_, fun i j bi bj hi hj oi oj hne => ?_⟩
  · have hk := h.blk id b hid
    have hq := hb id b hid
    cases b with
    | cells cs =>
      obtain ⟨c, el, h1, h2, h3, h4⟩ := hk
      obtain ⟨q1, q2⟩ := hq trivial
      refine ⟨c, el, by rw [hmu, q1]; exact h1, h2, fun k a b => (h3 k a b).mono he, fun o s => ?_⟩
      rw [hmu, q2 _ rfl]; exact h4 o s
    | tail L sz =>
      obtain ⟨a, c, h1, h2, h3⟩ := hk
      refine ⟨a, c, by rw [htok]; exact h1, h2, fun hl => ?_⟩
      obtain ⟨q1, q2⟩ := hq ⟨a, c, h1, hl⟩
      obtain ⟨r1, ⟨cs, el, r2, r3⟩, r4⟩ := h3 hl
      refine ⟨by rw [hmu]; exact r1, ⟨cs, el, by rw [hmu, q1]; exact r2, r3⟩, fun o s ho => ?_⟩
      rw [hmu, q2 _ rfl]; exact r4 o s ho
    | map es =>
      obtain ⟨E, h1, h2, h3⟩ := hk
      obtain ⟨q1, q2⟩ := hq trivial
      exact ⟨E, by rw [hmu, q1]; exact h1, h2, fun k a b => ⟨(h3 k a b).1.mono himm, (h3 k a b).2.1.mono he, (h3 k a b).2.2⟩⟩
    | iter m n l cu =>
      obtain ⟨hf, s, h1, h2⟩ := hk
      obtain ⟨q1, q2⟩ := hq trivial
      exact ⟨hf, s, by rw [hmu, q1]; exact h1, h2⟩
    | resv => trivial
    | dead => trivial
  · rw [hmu]
    exact h.inj i j bi bj hi hj (oi.congr (by rw [htok])) (oj.congr (by rw [htok])) hne

end Go.Gh
namespace Go.Gh
open Go.RowKit

def KOK (d : TypeDesc) : TK → Prop
  | .slice e => d = .slice e
  | .struct fs => ∃ F : Array Field, d = .struct F ∧ F.toList.map (fun f => (f.offset, f.type)) = fs
  | .array n e => d = .array n e
  | .map k v => d = .map k v
  | .int k => d = .int k
  | .bool => d = .bool
  | .other => True
def isAggD : TypeDesc → Bool
  | .struct _ | .array .. => true
  | _ => false
structure TyOK (P : Program) (t : Nat) (ti : TI) : Prop where
  info : ∃ i z, P.info? t = some i ∧ i.size = ti.size ∧ i.bytes = ti.bytes ∧ i.zero = some z ∧ z.cells.toList = ti.zero
  zlen : ti.zero.length = ti.size
  zflat : ∀ v ∈ ti.zero, Value.flatB v = true
  desc : ∃ d, P.underlying t = some d ∧ KOK d ti.kind ∧ isAggD d = ti.agg
  one : ti.agg = false → ti.size = 1
  zval : ti.agg = false → ∀ z, ti.zero = [z] → (P.info? t).bind (·.zero) = some z
  eqok : ti.eq = true → P.stoodInHeld t = false ∧ P.eqGuardType P.depth t = false ∧ ∀ F : Array Field, P.underlying t = some (.struct F) → ∀ f ∈ F.toList, f.name ≠ "_"
  places : ∀ F : Array Field, P.underlying t = some (.struct F) → ∃ pl, F.toList.mapM (fun f => (P.info? f.type).map fun i => (f.offset, i.size)) = some pl
def TyT (P : Program) (gp : GP) : Prop := ∀ t ti, gp.ty t = some ti → TyOK P t ti

theorem TyOK.sizeOf {P : Program} {t : Nat} {ti : TI} (h : TyOK P t ti) (w : World) : (Go.sizeOf t).run P w = .ok ti.size w := by
  obtain ⟨i, z, h1, h2, _⟩ := h.info
  simp [Go.sizeOf, typeInfo, h1, h2]
theorem TyOK.under {P : Program} {t : Nat} {ti : TI} (h : TyOK P t ti) : ∃ d, (∀ w, (underlying t).run P w = .ok d w) ∧ P.underlying t = some d ∧ KOK d ti.kind ∧ isAggD d = ti.agg := by
  obtain ⟨d, h1, h2, h3⟩ := h.desc
  exact ⟨d, fun w => by simp [underlying, h1], h1, h2, h3⟩
theorem TyOK.isAgg {P : Program} {t : Nat} {ti : TI} (h : TyOK P t ti) (w : World) : (Go.isAgg t).run P w = .ok ti.agg w := by
  obtain ⟨d, h1, _, _, h3⟩ := h.under
  simp only [Go.isAgg, Sem.run_bind, h1, Result.andThen_ok]
  rw [← h3]
  cases d <;> rfl

-- what is known of a value
theorem asN_of {x : GV} {k : IntKind} {n : Int} (h : asN x = some (k, n)) : x = .d (.lit (.int k n)) := by
  unfold asN at h; split at h <;> simp_all
theorem asB_of {x : GV} {b : Bool} (h : asB x = some b) : x = .d (.lit (.bool b)) := by
  unfold asB at h; split at h <;> simp_all
theorem GR.lit {σ : Sim} {H : List GB} {u v : Value} (h : GR σ H (.d (.lit u)) v) : v = u := by
  cases h with | d _ _ h => cases h; rfl
theorem GR.int {σ : Sim} {H : List GB} {x : GV} {v : Value} {k : IntKind} {n : Int} (h : GR σ H x v) (hx : asN x = some (k, n)) : v = .int k n := by
  rw [asN_of hx] at h; exact h.lit
theorem GR.bool {σ : Sim} {H : List GB} {x : GV} {v : Value} {b : Bool} (h : GR σ H x v) (hx : asB x = some b) : v = .bool b := by
  rw [asB_of hx] at h; exact h.lit
theorem GR.mkint (σ : Sim) (H : List GB) (k : IntKind) (n : Int) : GR σ H (.d (.lit (.int k n))) (.int k n) := .d _ _ (.lit _ rfl)
theorem GR.mkbool (σ : Sim) (H : List GB) (b : Bool) : GR σ H (gb b) (.bool b) := .d _ _ (.lit _ rfl)
theorem DR.slice {i : Addr → Option Value} {es : List DV} {v : Value} (h : DR i (.list es) v) : ∃ a c, v = .slice a es.length c ∧ es.length ≤ c := by
  cases h with
  | nil a c => exact ⟨a, c, rfl, Nat.zero_le _⟩
  | list _ sz a c vals hc => exact ⟨some a, c, rfl, hc⟩
theorem GR.list {σ : Sim} {H : List GB} {x : GV} {v : Value} {es : List DV} (h : GR σ H x v) (hx : asL x = some es) : DR σ.imm (.list es) v := by
  unfold asL at hx
  split at hx
  · cases hx; rw [h.lit]; exact .nil none 0
  · cases hx; cases h with | d _ _ h => exact h
  · cases hx; cases h with | xl _ _ h => exact h
  · cases hx; cases h with | tl _ _ _ _ _ _ _ h _ _ => exact h
  · cases hx

theorem flatB_cells {v : Value} (h : Value.flatB v = true) : v.cells = #[v] := by
  cases v <;> first | rfl | simp [Value.flatB] at h
/-- A data value's cells, one by one. -/
theorem DR.cells {i : Addr → Option Value} {x : DV} {v : Value} (h : DR i x v) : v.cells.size = x.cells.length ∧ ∀ k (h1 : k < x.cells.length) (h2 : k < v.cells.size), DR i x.cells[k] v.cells[k] := by
  have one : ∀ {x : DV} {v : Value}, x.cells = [x] → v.cells = #[v] → DR i x v → v.cells.size = x.cells.length ∧ ∀ k (h1 : k < x.cells.length) (h2 : k < v.cells.size), DR i x.cells[k] v.cells[k] := by
    intro x v hx hv h
    refine ⟨by rw [hx, hv]; rfl, fun k h1 h2 => ?_⟩
    have : k = 0 := by rw [hx] at h1; simpa using h1
    subst this
    simpa [hx, hv] using h
  cases h with
  | agg cs vs hs h => exact ⟨hs, h⟩
  | lit v hf => exact one rfl (flatB_cells hf) (.lit v hf)
  | nil a c => exact one rfl rfl (.nil a c)
  | list es sz a c vals hc hsz hi hd ha hk => exact one rfl rfl (.list es sz a c vals hc hsz hi hd ha hk)
  | vptr es sz i off a vals hsz hi hd => exact one rfl rfl (.vptr es sz i off a vals hsz hi hd)
  | fn f a b x y hx hy h1 h2 => exact one rfl rfl (.fn f a b x y hx hy h1 h2)
  | iface t x v h => exact one rfl rfl (.iface t x v h)
theorem DR.flatB_of {i : Addr → Option Value} {x : DV} {v : Value} (h : DR i x v) (hx : DVcellOk x = true) : Value.flatB v = true := by
  cases h <;> first | rfl | exact hx | simp [DVcellOk] at hx

theorem add_none (b o n : Nat) : (⟨b, o, none⟩ : Addr).add n = ⟨b, o + n, none⟩ := by
  unfold Addr.add; split
  · subst_vars; simp
  · rfl
theorem add_of {a : Addr} (h : a.spot = none) (n : Nat) : a.add n = ⟨a.block, a.off + n, none⟩ := by
  obtain ⟨b, o, s⟩ := a; cases h; exact add_none b o n

/-- The cells of element i of a row of elements of sz cells each. -/
theorem flat_at {sz : Nat} : ∀ {es : List DV} (_ : ∀ e ∈ es, e.cells.length = sz) {i : Nat} {e : DV} (_ : es[i]? = some e) {o : Nat} (_ : o < sz), (flat es)[i * sz + o]? = e.cells[o]?
  | [], _, i, e, h, _, _ => by simp at h
  | x :: r, hs, 0, e, h, o, ho => by
    have hx : e = x := by simpa using h.symm
    subst hx
    have : o < e.cells.length := by rw [hs e (by simp)]; exact ho
    simp [flat, List.flatMap_cons, List.getElem?_append_left this]
  | x :: r, hs, i + 1, e, h, o, ho => by
    have hx := hs x (by simp)
    have hr : r[i]? = some e := by simpa using h
    have := flat_at (es := r) (fun e he => hs e (by simp [he])) hr ho
    simp only [flat, List.flatMap_cons] at this ⊢
    rw [List.getElem?_append_right (by rw [hx, Nat.succ_mul]; omega), hx, ← this]
    congr 1
    rw [Nat.succ_mul]; omega
theorem flat_len {sz : Nat} : ∀ {es : List DV} (_ : ∀ e ∈ es, e.cells.length = sz), (flat es).length = es.length * sz
  | [], _ => by simp [flat]
  | x :: r, hs => by
    have := flat_len (es := r) fun e he => hs e (by simp [he])
    simp only [flat, List.flatMap_cons, List.length_append, List.length_cons] at *
    rw [this, hs x (by simp), Nat.succ_mul]; omega
end Go.Gh
namespace Go.Gh
open Go.RowKit

theorem run_andThen_ok {α β : Type} {r : Result α} {a : α} {w : World} {f : α → World → Result β} (h : r = .ok a w) : r.andThen f = f a w := by rw [h]; rfl

theorem binI_sound {P : Program} {op : BinOp} {k : IntKind} {a b : Int} {t : TypeId} {v : GV} (w : World) (σ : Sim) (H : List GB) (h : binI op k a b = some v) :
    ∃ c, (binOp op t (.int k a) (.int k b)).run P w = .ok c w ∧ GR σ H v c := by
  cases op <;> simp only [binI, cmpI, reduceCtorEq, Option.some.injEq] at h
  case quo =>
    split at h
    · cases h
    · rename_i hb; cases h
      exact ⟨_, by simp [binOp, Op.intDiv, hb], .mkint ..⟩
  case rem =>
    split at h
    · cases h
    · rename_i hb; cases h
      exact ⟨_, by simp [binOp, Op.intDiv, hb], .mkint ..⟩
  all_goals
    subst h
    first
      | (refine ⟨_, ?_, GR.mkint σ H _ _⟩; simp [binOp, Op.intArith]; done)
      | (refine ⟨_, ?_, GR.mkbool σ H _⟩; simp [binOp, Op.intCmp]; done)

theorem eqlNil {P : Program} {t e : TypeId} (d : Nat) (w : World) (h : P.underlying t = some (.slice e)) (p : Option Addr) (n c : Nat) :
    (Op.equalIn (d + 1) t (.slice p n c) (.slice none 0 0)).run P w = .ok p.isNone w := by
  have hu : (underlying t).run P w = .ok (.slice e) w := by simp [underlying, h]
  simp only [Op.equalIn, Sem.run_bind, hu, Result.andThen_ok]
  cases p <;> simp
theorem runEqlNil {P : Program} {t e : TypeId} (w : World) (h : P.underlying t = some (.slice e)) (p : Option Addr) (n c : Nat) :
    (binOp .eql t (.slice p n c) (.slice none 0 0)).run P w = .ok (.bool p.isNone) w := by
  have := eqlNil 9999 w h p n c
  show (Sem.bind (Op.equalIn (9999 + 1) t (.slice p n c) (.slice none 0 0)) fun q => Sem.pure (Value.bool q)).run P w = _
  rw [Sem.run_bind', this]; rfl
theorem runNeqNil {P : Program} {t e : TypeId} (w : World) (h : P.underlying t = some (.slice e)) (p : Option Addr) (n c : Nat) :
    (binOp .neq t (.slice p n c) (.slice none 0 0)).run P w = .ok (.bool (!p.isNone)) w := by
  have := eqlNil 9999 w h p n c
  show (Sem.bind (Op.equalIn (9999 + 1) t (.slice p n c) (.slice none 0 0)) fun q => Sem.pure (Value.bool (!q))).run P w = _
  rw [Sem.run_bind', this]; rfl

theorem eqGuard_calm {P : Program} {op : BinOp} {t : TypeId} {x y : Operand} {a b : Value} (w : World) (h : ∀ c, a ≠ .agg c) (hn : a ≠ .nilIface) :
    (eqGuard op t x y a b).run P w = .ok () w := by
  unfold eqGuard
  cases a <;> first | exact absurd rfl hn | exact absurd rfl (h _) | (split <;> simp)

theorem nilQ_sound {σ : Sim} {H : List GB} {x : GV} {v : Value} {b : Bool} (h : nilQ x = some b) (g : GR σ H x v) :
    ∃ a n c, v = .slice a n c ∧ b = a.isNone := by
  unfold nilQ at h
  split at h
  · cases h; exact ⟨none, 0, 0, g.lit, rfl⟩
  all_goals first | cases h; done | skip
  all_goals
    cases h
    have hl := g.list rfl
    cases hl with
    | list _ sz a c vals => exact ⟨some a, _, c, rfl, rfl⟩

theorem part_one {P : Program} {t : Nat} {ti : TI} (ht : TyOK P t ti) (ha : ti.agg = false) (w : World) (vs : Array Value) (off : Nat) (h : off < vs.size) : (part t vs off).run P w = .ok vs[off] w := by
  simp only [part, Sem.run_bind, ht.isAgg, Result.andThen_ok, ha]
  simp [h]
theorem eqFs_sound {P : Program} {gp : GP} (hty : TyT P gp) (w : World) {im : Addr → Option Value} {xs ys : List DV} {X Y : Array Value}
    (hX : X.size = xs.length ∧ ∀ k (h1 : k < xs.length) (h2 : k < X.size), DR im xs[k] X[k]) (hY : Y.size = ys.length ∧ ∀ k (h1 : k < ys.length) (h2 : k < Y.size), DR im ys[k] Y[k]) :
    ∀ (F : List Field), (∀ f ∈ F, f.name ≠ "_") → ∀ {q : Bool}, eqFs gp xs ys (F.map fun f => (f.offset, f.type)) = some q → (Op.eqFields 9999 X Y F).run P w = .ok q w
  | [], _, q, h => by simp only [List.map_nil, eqFs] at h; cases h; rfl
  | f :: r, hn, q, h => by
    have hr : ∀ {q : Bool}, eqFs gp xs ys (r.map fun f => (f.offset, f.type)) = some q → _ := fun {q} => eqFs_sound hty w hX hY r (fun g hg => hn g (List.mem_cons_of_mem _ hg)) (q := q)
    have hf := hn f (by simp)
    have cellX : ∀ {v : Value}, xs[f.offset]? = some (.lit v) → ∃ h : f.offset < X.size, X[f.offset] = v := fun {v} hv => by
      obtain ⟨h1, h2⟩ := List.getElem?_eq_some_iff.1 hv
      have h3 : f.offset < X.size := by rw [hX.1]; exact h1
      refine ⟨h3, ?_⟩
      have := hX.2 _ h1 h3
      rw [h2] at this
      cases this; rfl
    have cellY : ∀ {v : Value}, ys[f.offset]? = some (.lit v) → ∃ h : f.offset < Y.size, Y[f.offset] = v := fun {v} hv => by
      obtain ⟨h1, h2⟩ := List.getElem?_eq_some_iff.1 hv
      have h3 : f.offset < Y.size := by rw [hY.1]; exact h1
      refine ⟨h3, ?_⟩
      have := hY.2 _ h1 h3
      rw [h2] at this
      cases this; rfl
    simp only [List.map_cons, eqFs] at h
    simp only [Op.eqFields, if_pos hf]
    split at h
    · rename_i sz agg by_ z kk eq k a k' b ht hx hy
      obtain ⟨hx1, hx2⟩ := cellX hx
      obtain ⟨hy1, hy2⟩ := cellY hy
      obtain ⟨d, hu, h3, h4, h5⟩ := (hty _ _ ht).under
      simp only [KOK] at h4
      subst h4
      have ha : agg = false := h5.symm
      split at h
      · rename_i hkk; subst hkk
        split at h
        · rename_i q' hq'; cases h
          simp only [Sem.run_bind, part_one (hty _ _ ht) ha w X _ hx1, part_one (hty _ _ ht) ha w Y _ hy1, Result.andThen_ok, hx2, hy2, run_equalIn_int w 9998 f.type k kk a b h3]
          cases hab : a == b
          · rfl
          · simp only [Bool.not_true, Bool.false_eq_true, if_false, Bool.true_and]; exact hr hq'
        · cases h
      · cases h
    · rename_i sz agg by_ z eq a b ht hx hy
      obtain ⟨hx1, hx2⟩ := cellX hx
      obtain ⟨hy1, hy2⟩ := cellY hy
      obtain ⟨d, hu, h3, h4, h5⟩ := (hty _ _ ht).under
      simp only [KOK] at h4
      subst h4
      have ha : agg = false := h5.symm
      split at h
      · rename_i q' hq'; cases h
        simp only [Sem.run_bind, part_one (hty _ _ ht) ha w X _ hx1, part_one (hty _ _ ht) ha w Y _ hy1, Result.andThen_ok, hx2, hy2, run_equalIn_bool' w 9998 f.type a b h3]
        cases hab : a == b
        · rfl
        · simp only [Bool.not_true, Bool.false_eq_true, if_false, Bool.true_and]; exact hr hq'
      · cases h
    · cases h

theorem gbin_sound {P : Program} {gp : GP} (hty : TyT P gp) {op : BinOp} {t : Nat} {x y : GV} {v : GV} {X Y : Operand} {a b : Value} (w : World) {σ : Sim} {H : List GB}
    (hx : GR σ H x a) (hy : GR σ H y b) (h : gbin gp op t x y = some v) :
    ∃ c, (do eqGuard op t X Y a b; binOp op t a b : Sem Value).run P w = .ok c w ∧ GR σ H v c := by
  unfold gbin at h
  split at h
  · rename_i k m k' n h1 h2
    rw [hx.int h1, hy.int h2]
    simp only [Sem.run_bind, eqGuard_calm w (a := .int k m) (fun c => by simp) (by simp), Result.andThen_ok]
    split at h
    · split at h
      · cases h
      · rename_i hn; cases h
        exact ⟨_, by simp [binOp, Op.shift, hn], .mkint ..⟩
    · cases h
    · rename_i hs1 hs2
      split at h
      · rename_i he; subst he
        exact binI_sound w σ H h
      · cases h
  · split at h
    · rename_i p q h1 h2
      rw [hx.bool h1, hy.bool h2]
      simp only [Sem.run_bind, eqGuard_calm w (a := .bool p) (fun c => by simp) (by simp), Result.andThen_ok]
      split at h
      · rename_i ht; cases h
        obtain ⟨d, _, h3, h4, _⟩ := (hty _ _ ht).under
        simp only [KOK] at h4
        exact ⟨_, run_eql_bool w t p q (h4 ▸ h3), .mkbool ..⟩
      · rename_i ht; cases h
        obtain ⟨d, _, h3, h4, _⟩ := (hty _ _ ht).under
        simp only [KOK] at h4
        exact ⟨_, run_neq_bool w t p q (h4 ▸ h3), .mkbool ..⟩
      · cases h
    · split at h
      · rename_i sz agg by_ z e eq_ ht
        cases hn : isNilC y
        · rw [hn] at h; cases h
        · rw [hn] at h
          have hy0 : b = .slice none 0 0 := by
            unfold isNilC at hn
            split at hn
            · exact hy.lit
            · cases hn
          obtain ⟨d, hu, h3, h4, _⟩ := (hty _ _ ht).under
          simp only [KOK] at h4
          subst h4
          simp only [cond_true] at h
          split at h
          · rename_i q hq; cases h
            obtain ⟨p, n, c, h6, h7⟩ := nilQ_sound hq hx
            subst h6 h7 hy0
            refine ⟨.bool p.isNone, ?_, .mkbool ..⟩
            simp only [Sem.run_bind, eqGuard_calm w (a := .slice p n c) (fun c => by simp) (by simp), Result.andThen_ok, runEqlNil w h3]
          · rename_i q hq; cases h
            obtain ⟨p, n, c, h6, h7⟩ := nilQ_sound hq hx
            subst h6 h7 hy0
            refine ⟨.bool (!p.isNone), ?_, .mkbool ..⟩
            simp only [Sem.run_bind, eqGuard_calm w (a := .slice p n c) (fun c => by simp) (by simp), Result.andThen_ok, runNeqNil w h3]
          · cases h
      · rename_i sz agg by_ z fs ht
        split at h
        · rename_i xs ys _ _
          obtain ⟨X', hX, hX2⟩ : ∃ X', a = .agg X' ∧ X'.size = xs.length ∧ ∀ k (h1 : k < xs.length) (h2 : k < X'.size), DR σ.imm xs[k] X'[k] := by
            cases hx with | d _ _ q => cases q with | agg _ vs hs hh => exact ⟨vs, rfl, hs, hh⟩
          obtain ⟨Y', hY, hY2⟩ : ∃ Y', b = .agg Y' ∧ Y'.size = ys.length ∧ ∀ k (h1 : k < ys.length) (h2 : k < Y'.size), DR σ.imm ys[k] Y'[k] := by
            cases hy with | d _ _ q => cases q with | agg _ vs hs hh => exact ⟨vs, rfl, hs, hh⟩
          subst hX hY
          obtain ⟨d, hu, h3, h4, _⟩ := (hty _ _ ht).under
          obtain ⟨F, hF, hfs⟩ := h4
          subst hF
          obtain ⟨e1, e2, e3⟩ := (hty _ _ ht).eqok rfl
          have hFo : P.fieldsOf t = F := by simp [Program.fieldsOf, h3]
          have hst : P.underlying t = some (.struct (P.fieldsOf t)) := by rw [hFo]; exact h3
          have hrun : ∀ q, eqFs gp xs ys fs = some q → (Op.equalIn 10000 t (.agg X') (.agg Y')).run P w = .ok q w := fun q hq => by
            rw [run_equalIn_struct w 9999 t X' Y' hst e1, hFo]
            exact eqFs_sound hty w hX2 hY2 F.toList (e3 F h3) (by rw [hfs]; exact hq)
          have hguard : (eqGuard op t X Y (.agg X') (.agg Y')).run P w = .ok () w := run_eqGuard_agg w op t X Y X' Y' e2
          split at h
          · rename_i q hq; cases h
            refine ⟨.bool q, ?_, .mkbool ..⟩
            simp only [Sem.run_bind, hguard, Result.andThen_ok, run_eql_struct, hrun q hq]
          · rename_i q hq; cases h
            refine ⟨.bool (!q), ?_, .mkbool ..⟩
            have hneq : (binOp .neq t (.agg X') (.agg Y')).run P w = ((Op.equalIn 10000 t (.agg X') (.agg Y')).run P w).andThen fun b w' => .ok (.bool (!b)) w' := by
              simp only [binOp]
              simp [Op.equal, Op.maxDepth]
            simp only [Sem.run_bind, hguard, Result.andThen_ok, hneq, hrun q hq]
          · cases h
        · cases h
      · cases h
end Go.Gh
namespace Go.Gh
open Go.RowKit

/-- Reading a variable whose cells are known. -/
theorem load_cells {P : Program} {w : World} {t : Nat} {ti : TI} (ht : TyOK P t ti) (b o : Nat) (vs : Nat → Value) (h : ∀ k, k < ti.size → w.cell? ⟨b, o + k, none⟩ = some (vs k)) :
    (loadVar t ⟨b, o, none⟩).run P w = .ok (if ti.agg then .agg ((List.range ti.size).map vs).toArray else vs 0) w := by
  simp only [loadVar, Sem.run_bind, ht.isAgg, Result.andThen_ok]
  cases hb : ti.agg with
  | true =>
    simp only [if_true, Sem.run_bind, ht.sizeOf, Result.andThen_ok]
    rw [run_loadCells w ⟨b, o, none⟩ ti.size vs (fun j hj => by rw [add_none]; exact h j hj)]
    rfl
  | false =>
    have h1 := ht.one hb
    have := h 0 (by omega)
    simp at this
    simp [this]

theorem partD_ok {ti : TI} {e y : DV} {off : Nat} (h : partD ti e off = some y) (hone : ti.agg = false → ti.size = 1) :
    off + ti.size ≤ e.cells.length ∧ (y = if ti.agg then .agg ((e.cells.drop off).take ti.size) else (e.cells[off]?).getD (.lit nilS)) := by
  unfold partD at h
  cases hb : ti.agg with
  | true =>
    rw [hb, cond_true] at h
    simp only [Bool.cond_eq_ite] at h
    split at h <;> rename_i hc
    · cases h
      simp only [Bool.and_eq_true, Nat.beq_eq] at hc
      obtain ⟨⟨h1, h2⟩, h3⟩ := hc
      subst h1
      refine ⟨by omega, ?_⟩
      cases e <;> simp [DV.isAgg] at h2
      simp only [DV.cells] at h3 ⊢
      simp [← h3]
    · split at h <;> rename_i hd
      · cases h
        simp only [Nat.ble_eq] at hd
        exact ⟨hd, rfl⟩
      · cases h
  | false =>
    rw [hb] at h
    simp only [cond_false] at h
    have h1 := hone hb
    refine ⟨?_, by simp [h]⟩
    have := (List.getElem?_eq_some_iff.1 h).1
    omega

theorem partD_sound {i : Addr → Option Value} {ti : TI} {e y : DV} {off : Nat} (h : partD ti e off = some y) (hone : ti.agg = false → ti.size = 1)
    (vs : Nat → Value) (hd : ∀ k (h : k < e.cells.length), DR i e.cells[k] (vs k)) :
    DR i y (if ti.agg then .agg ((List.range ti.size).map fun k => vs (off + k)).toArray else vs off) := by
  obtain ⟨hl, hy⟩ := partD_ok h hone
  subst hy
  cases hb : ti.agg with
  | true =>
    simp only [if_true]
    refine .agg _ _ (by simp; omega) fun k h1 h2 => ?_
    simp at h1 h2
    simp
    exact hd (off + k) (by omega)
  | false =>
    have h1 := hone hb
    have : off < e.cells.length := by omega
    simp [List.getElem?_eq_getElem this]
    exact hd off this

theorem allD_of {l : List GV} {xs : List DV} (h : allD l = some xs) : l = xs.map .d := by
  induction l generalizing xs with
  | nil => cases h; rfl
  | cons x r ih =>
    cases x with
    | d y =>
      simp only [allD] at h
      split at h
      · rename_i ys hys; cases h; simp [ih hys]
      · cases h
    | _ => simp [allD] at h
theorem mkAgg_sound {σ : Sim} {H : List GB} {cs : List GV} {vs : Array Value} (hs : vs.size = cs.length) (h : ∀ k (h1 : k < cs.length) (h2 : k < vs.size), GR σ H cs[k] vs[k]) :
    GR σ H (mkAgg cs) (.agg vs) := by
  unfold mkAgg
  split
  · rename_i xs hx
    have e := allD_of hx
    subst e
    refine .d _ _ (.agg xs vs (by simpa using hs) fun k h1 h2 => ?_)
    have := h k (by simpa using h1) h2
    simp at this
    cases this with | d _ _ q => exact q
  · exact .agg cs vs hs h
theorem mkFn_sound {σ : Sim} {H : List GB} {f : Fn} {a b : List GV} {x y : Array Value} (hx : x.size = a.length) (hy : y.size = b.length)
    (h1 : ∀ k (h1 : k < a.length) (h2 : k < x.size), GR σ H a[k] x[k]) (h2 : ∀ k (h1 : k < b.length) (h2 : k < y.size), GR σ H b[k] y[k]) : GR σ H (mkFn f a b) (.func f x y) := by
  unfold mkFn
  split
  · rename_i xs ys hxs hys
    have e1 := allD_of hxs
    have e2 := allD_of hys
    subst e1 e2
    refine .d _ _ (.fn f xs ys x y (by simpa using hx) (by simpa using hy) (fun k q1 q2 => ?_) fun k q1 q2 => ?_)
    · have := h1 k (by simpa using q1) q2
      simp at this
      cases this with | d _ _ q => exact q
    · have := h2 k (by simpa using q1) q2
      simp at this
      cases this with | d _ _ q => exact q
  · exact .fn f a b x y hx hy h1 h2

theorem partG_sound {σ : Sim} {H : List GB} {ti : TI} {cs : List GV} {y : GV} {off : Nat} (h : partG ti cs off = some y) (hone : ti.agg = false → ti.size = 1)
    (vs : Nat → Value) (hd : ∀ k (h : k < cs.length), GR σ H cs[k] (vs k)) :
    off + ti.size ≤ cs.length ∧ GR σ H y (if ti.agg then .agg ((List.range ti.size).map fun k => vs (off + k)).toArray else vs off) := by
  unfold partG at h
  cases hb : ti.agg with
  | true =>
    rw [hb, cond_true] at h
    simp only [Bool.cond_eq_ite] at h
    split at h <;> rename_i hc
    · cases h
      simp only [Nat.ble_eq] at hc
      refine ⟨hc, ?_⟩
      simp only [if_true]
      refine mkAgg_sound (by simp; omega) fun k h1 h2 => ?_
      simp at h1 h2
      simp
      exact hd (off + k) (by omega)
    · cases h
  | false =>
    rw [hb, cond_false] at h
    have h1 := hone hb
    obtain ⟨h2, h3⟩ := List.getElem?_eq_some_iff.1 h
    refine ⟨by omega, ?_⟩
    simp only [Bool.false_eq_true, if_false]
    rw [← h3]; exact hd off h2

/-- Reading through an address of memory at rest. -/
theorem vptr_load {P : Program} {w : World} {σ : Sim} {t : Nat} {ti : TI} (ht : TyOK P t ti) (himm : ∀ a v, σ.imm a = some v → a.spot = none ∧ w.cell? a = some v)
    {es : List DV} {i off : Nat} {a : Value} (ha : DR σ.imm (.vptr es i off) a) {e y : DV} (he : es[i]? = some e) (hy : partD ti e off = some y) :
    ∃ c, (Instr.loadAt t a).run P w = .ok c w ∧ DR σ.imm y c := by
  cases ha with
  | vptr _ sz _ _ A vals hsz hi hd =>
    obtain ⟨hl, _⟩ := partD_ok hy ht.one
    have hesz : e.cells.length = sz := hsz e (List.mem_of_getElem? he)
    have hflat : ∀ k (hk : k < sz), ∃ (hq : i * sz + k < (flat es).length), (flat es)[i * sz + k] = e.cells[k]'(by omega) := fun k hk => by
      have := flat_at hsz he hk
      rw [List.getElem?_eq_getElem (l := e.cells) (by omega)] at this
      obtain ⟨h1, h2⟩ := List.getElem?_eq_some_iff.1 this
      exact ⟨h1, h2⟩
    have hcell : ∀ k, k < ti.size → w.cell? ⟨A.block, A.off + i * sz + off + k, none⟩ = some (vals (i * sz + off + k)) := fun k hk => by
      obtain ⟨h1, _⟩ := hflat (off + k) (by omega)
      have := (himm _ _ (hi _ h1)).2
      rw [show A.off + i * sz + off + k = A.off + (i * sz + (off + k)) by omega, this]
      congr 2; omega
    refine ⟨_, ?_, partD_sound (i := σ.imm) hy ht.one (fun k => vals (i * sz + k)) fun k hk => ?_⟩
    · simp only [Instr.loadAt, Instr.sureAddr, Sem.run_bind, Sem.run_pure, Result.andThen_ok]
      rw [load_cells ht _ _ (fun k => vals (i * sz + off + k)) hcell]
      simp only [Nat.add_assoc, Nat.add_zero]
    · obtain ⟨h1, h2⟩ := hflat k (by omega)
      have := hd _ h1
      rw [h2] at this
      exact this

theorem gfieldAddr_sound {P : Program} {gp : GP} (hty : TyT P gp) {σ : Sim} {H : List GB} (w : World) {s : Nat} {x v : GV} {f : Nat} {a : Value} (hx : GR σ H x a)
    (h : gfieldAddr gp s x f = some v) : ∃ c, (Instr.fieldAt s a f).run P w = .ok c w ∧ GR σ H v c := by
  unfold gfieldAddr at h
  split at h
  · rename_i sz agg by_ z fs eq_ hts
    obtain ⟨d, hu, _, hk, _⟩ := (hty _ _ hts).under
    obtain ⟨F, rfl, hF⟩ := hk
    split at h
    · rename_i off ft hf
      rw [← hF, List.getElem?_map] at hf
      obtain ⟨fl, hfl, hfe⟩ := Option.map_eq_some_iff.1 hf
      injection hfe with e1 e2
      subst e1 e2
      have hfa : F[f]? = some fl := by simpa using hfl
      split at h
      · rename_i ti hti
        simp only [Bool.cond_eq_ite] at h
        split at h
        · cases h
        · rename_i hz
          have hz' : ti.size ≠ 0 := by simpa using hz
          have hplace : ∀ b o, (fieldPlace ⟨b, o, none⟩ fl).run P w = .ok ⟨b, o + fl.offset, none⟩ w := fun b o => by
            simp [fieldPlace, (hty _ _ hti).sizeOf, hz', add_none]
          split at h
          · cases h
            cases hx with
            | ptr id off hf =>
              refine ⟨_, ?_, GR.ptr _ _ hf⟩
              simp [Instr.fieldAt, Instr.sureAddr, hu, hfa, hplace]
          · cases h
            cases hx with
            | d _ _ hx => cases hx with
              | vptr _ sz _ _ A vals hsz hi hd =>
                refine ⟨_, ?_, GR.d _ _ (DR.vptr _ sz _ _ A vals hsz hi hd)⟩
                simp [Instr.fieldAt, Instr.sureAddr, hu, hfa, hplace, Nat.add_assoc]
          · cases h
      · cases h
    · cases h
  · cases h
end Go.Gh
namespace Go.Gh
open Go.RowKit

theorem szOk_eq {n sz : Nat} {es : List DV} (h : szOk n es = true) (hs : ∀ e ∈ es, e.cells.length = sz) (hne : es ≠ []) : n = sz := by
  cases es with
  | nil => exact absurd rfl hne
  | cons e r => simp only [szOk, Nat.beq_eq] at h; rw [← h, hs e (by simp)]

theorem gindexAddr_sound {P : Program} {gp : GP} (hty : TyT P gp) {σ : Sim} {H : List GB} (w : World) {t : Nat} {x ix v : GV} {a b : Value} (hx : GR σ H x a) (hix : GR σ H ix b)
    (h : gindexAddr gp t x ix = some v) : ∃ c, (Instr.indexAt t a b).run P w = .ok c w ∧ GR σ H v c := by
  unfold gindexAddr at h
  split at h
  · rename_i k i hN
    rw [hix.int hN]
    split at h
    · rename_i sz agg by_ z e eq_ hts
      obtain ⟨d, hu, _, hk, _⟩ := (hty _ _ hts).under
      simp only [KOK] at hk
      subst hk
      split at h
      · rename_i ti hti
        split at h
        · split at h
          · rename_i hi; cases h
            cases hx with
            | slc id off n cap A c hf hc ha hm =>
              have hA := ha (by omega)
              refine ⟨_, ?_, GR.ptr _ _ hf⟩
              simp [Instr.indexAt, asIntOf, hu, hi, (hty _ _ hti).sizeOf, add_none, hA]
          · cases h
        · split at h
          · rename_i es hes
            simp only [Bool.cond_eq_ite] at h
            split at h
            · rename_i hok
              split at h
              · rename_i hi; cases h
                have hl := hx.list hes
                cases hl with
                | nil => simp at hi; omega
                | list _ sz' A c vals hc hsz hi' hd hA =>
                  have hsz0 : ti.size = sz' := szOk_eq hok hsz (by intro q; subst q; simp at hi; omega)
                  refine ⟨_, ?_, GR.d _ _ (DR.vptr _ sz' _ _ A vals hsz hi' hd)⟩
                  simp [Instr.indexAt, asIntOf, hu, hi, (hty _ _ hti).sizeOf, add_of hA, hsz0]
              · cases h
            · cases h
          · cases h
      · cases h
    · rename_i sz agg by_ z n e eq_ hts
      obtain ⟨d, hu, _, hk, _⟩ := (hty _ _ hts).under
      simp only [KOK] at hk
      subst hk
      split at h
      · rename_i ti hti
        split at h
        · split at h
          · rename_i hi; cases h
            cases hx with
            | ptr id off hf =>
              refine ⟨_, ?_, GR.ptr _ _ hf⟩
              simp [Instr.indexAt, Instr.sureAddr, asIntOf, hu, hi, (hty _ _ hti).sizeOf, add_none]
          · cases h
        · split at h
          · rename_i hi; cases h
            cases hx with
            | d _ _ hx => cases hx with
              | vptr _ sz' _ _ A vals hsz hi' hd =>
                refine ⟨_, ?_, GR.d _ _ (DR.vptr _ sz' _ _ A vals hsz hi' hd)⟩
                simp [Instr.indexAt, Instr.sureAddr, asIntOf, hu, hi, (hty _ _ hti).sizeOf, add_none, Nat.add_assoc]
          · cases h
        · cases h
      · cases h
    · cases h
  · cases h
end Go.Gh
namespace Go.Gh
open Go.RowKit

theorem sliceBound_run {P : Program} {w : World} (k : IntKind) (i : Int) (y : Nat) (code : BoundsCode) (h0 : 0 ≤ i) (h1 : i ≤ (y : Int)) :
    (Instr.sliceBound (.int k i) y code).run P w = .ok i.toNat w := by
  simp [Instr.sliceBound, asIntOf, h0, h1]

theorem bnd_some {x : GV} {d hi n : Nat} {σ : Sim} {H : List GB} {v : Value} (g : GR σ H x v) (h : bnd (some x) d hi = some n) :
    n ≤ hi ∧ ∀ (P : Program) (w : World) (code : BoundsCode), (Instr.sliceBound v hi code).run P w = .ok n w := by
  simp only [bnd] at h
  split at h
  · rename_i k i hN
    split at h
    · rename_i hi'; cases h
      refine ⟨by omega, fun P w code => ?_⟩
      rw [g.int hN]
      exact sliceBound_run k i hi code hi'.1 hi'.2
    · cases h
  · cases h

/-- The bounds of a slice expression. -/
theorem bounds_run {P : Program} {w : World} {σ : Sim} {H : List GB} {ρg : Operand → GV} {ρ : Operand → Value} (hO : ∀ x, GR σ H (ρg x) (ρ x)) {lo hi : Option Operand} {len cap j i : Nat}
    (hc : len ≤ cap) (hj : bnd (hi.map ρg) len len = some j) (hi' : bnd (lo.map ρg) 0 j = some i) :
    i ≤ j ∧ j ≤ len ∧ (Instr.sliceBounds true len cap (lo.map ρ) (hi.map ρ) none).run P w = .ok (i, j, cap) w := by
  have h1 : j ≤ len ∧ (match hi.map ρ, (none : Option Value) with
    | some v, some _ => Instr.sliceBound v cap .slice3B
    | some v, none => Instr.sliceBound v cap .sliceAcap
    | none, none => pure len
    | none, some _ => stuck "Slice: max without high" : Sem Nat).run P w = .ok j w := by
    cases hi with
    | none => simp [bnd] at hj; subst hj; exact ⟨Nat.le_refl _, rfl⟩
    | some q =>
      simp only [Option.map_some, bnd] at hj
      split at hj
      · rename_i k n hN
        split at hj
        · rename_i hn; cases hj
          refine ⟨by omega, ?_⟩
          simp only [Option.map_some]
          rw [(hO q).int hN]
          exact sliceBound_run k n cap _ hn.1 (by omega)
        · cases hj
      · cases hj
  have h2 : i ≤ j ∧ (match lo.map ρ with
    | some v => Instr.sliceBound v j .sliceB
    | none => pure 0 : Sem Nat).run P w = .ok i w := by
    cases lo with
    | none => simp [bnd] at hi'; subst hi'; exact ⟨Nat.zero_le _, rfl⟩
    | some q => obtain ⟨a, b⟩ := bnd_some (hO q) hi'; exact ⟨a, b P w _⟩
  refine ⟨h2.1, h1.1, ?_⟩
  have e2 := h2.2
  have e1 := h1.2
  simp only [Instr.sliceBounds, Sem.run_bind, Sem.run_pure, Result.andThen_ok, if_true]
  cases hi <;> cases lo <;> simp_all
theorem bounds3_run {P : Program} {w : World} {σ : Sim} {H : List GB} {ρg : Operand → GV} {ρ : Operand → Value} (hO : ∀ x, GR σ H (ρg x) (ρ x)) {lo : Option Operand} {q m : Operand} {len cap j i c : Nat}
    (hc : len ≤ cap) (hm : bnd (some (ρg m)) 0 len = some c) (hj : bnd (some (ρg q)) len c = some j) (hi' : bnd (lo.map ρg) 0 j = some i) :
    i ≤ j ∧ j ≤ c ∧ c ≤ len ∧ (Instr.sliceBounds true len cap (lo.map ρ) (some (ρ q)) (some (ρ m))).run P w = .ok (i, j, c) w := by
  have h0 : c ≤ len ∧ (Instr.sliceBound (ρ m) cap .slice3Acap).run P w = .ok c w := by
    simp only [bnd] at hm
    split at hm
    · rename_i k n hN
      split at hm
      · rename_i hn; cases hm
        refine ⟨by omega, ?_⟩
        rw [(hO m).int hN]
        exact sliceBound_run k n cap _ hn.1 (by omega)
      · cases hm
    · cases hm
  obtain ⟨h1, e1⟩ := bnd_some (hO q) hj
  have e1 := e1 P w .slice3B
  have h2 : i ≤ j ∧ (match lo.map ρ with
    | some v => Instr.sliceBound v j .slice3C
    | none => pure 0 : Sem Nat).run P w = .ok i w := by
    cases lo with
    | none => simp [bnd] at hi'; subst hi'; exact ⟨Nat.zero_le _, rfl⟩
    | some q => obtain ⟨a, b⟩ := bnd_some (hO q) hi'; exact ⟨a, b P w _⟩
  refine ⟨h2.1, h1, h0.1, ?_⟩
  have e2 := h2.2
  have e0 := h0.2
  simp only [Instr.sliceBounds, Sem.run_bind, Sem.run_pure, Result.andThen_ok, if_true]
  cases lo <;> simp_all

theorem flat_append (a b : List DV) : flat (a ++ b) = flat a ++ flat b := by simp [flat]
theorem flat_drop {sz : Nat} {es : List DV} (hs : ∀ e ∈ es, e.cells.length = sz) (i : Nat) (hi : i ≤ es.length) : flat (es.drop i) = (flat es).drop (i * sz) := by
  have h1 : flat es = flat (es.take i) ++ flat (es.drop i) := by rw [← flat_append, List.take_append_drop]
  have h2 : (flat (es.take i)).length = i * sz := by
    rw [flat_len (sz := sz) fun e he => hs e (List.mem_of_mem_take he), List.length_take, Nat.min_eq_left hi]
  rw [h1, ← h2, List.drop_left']
  rfl
theorem flat_take {sz : Nat} {es : List DV} (hs : ∀ e ∈ es, e.cells.length = sz) (i : Nat) (hi : i ≤ es.length) : flat (es.take i) = (flat es).take (i * sz) := by
  have h1 : flat es = flat (es.take i) ++ flat (es.drop i) := by rw [← flat_append, List.take_append_drop]
  have h2 : (flat (es.take i)).length = i * sz := by
    rw [flat_len (sz := sz) fun e he => hs e (List.mem_of_mem_take he), List.length_take, Nat.min_eq_left hi]
  rw [h1, ← h2, List.take_left']
  rfl

/-- A part of a slice at rest. -/
theorem DR.sub {im : Addr → Option Value} {es : List DV} {a : Option Addr} {n c : Nat} (h : DR im (.list es) (.slice a n c)) (sz : Nat) (hok : szOk sz es = true) (i j m : Nat)
    (hij : i ≤ j) (hj : j ≤ es.length) (hm : j ≤ m) (hmc : m ≤ c) : DR im (.list ((es.take j).drop i)) (.slice (if m = i then a else a.map (·.add (i * sz))) (j - i) (m - i)) := by
  have hlen : ((es.take j).drop i).length = j - i := by simp; omega
  by_cases hz : j = i
  · subst hz
    have : (es.take j).drop j = [] := by simp
    rw [this, Nat.sub_self]
    exact .nil _ _
  · cases h with
    | nil => simp at hj; omega
    | list _ sz' A _ vals hc hsz hi hd hA hok' =>
      have e : sz = sz' := szOk_eq hok hsz (by intro q; subst q; simp at hj; omega)
      subst e
      rw [if_neg (by omega), Option.map_some, add_of hA]
      have hsub : ∀ e ∈ (es.take j).drop i, e.cells.length = sz := fun e he => hsz e (List.mem_of_mem_take (List.mem_of_mem_drop he))
      have hflat : flat ((es.take j).drop i) = ((flat es).take (j * sz)).drop (i * sz) := by
        rw [flat_drop (sz := sz) (fun e he => hsz e (List.mem_of_mem_take he)) i (by simp; omega), flat_take hsz j hj]
      have hk : ∀ k, k < (flat ((es.take j).drop i)).length → i * sz + k < (flat es).length := fun k hk => by
        rw [hflat] at hk; simp at hk; omega
      rw [show j - i = ((es.take j).drop i).length from hlen.symm]
      refine .list _ sz _ _ (fun k => vals (i * sz + k)) (by omega) hsub (fun k h => ?_) (fun k h => ?_) rfl (fun x hx => hok' x (by rw [hflat] at hx; exact List.mem_of_mem_take (List.mem_of_mem_drop hx)))
      · have := hi _ (hk k h)
        rw [← this]
        simp only [Nat.add_assoc]
      · have := hd _ (hk k h)
        have e : (flat ((es.take j).drop i))[k] = (flat es)[i * sz + k]'(hk k h) := by
          simp only [hflat, List.getElem_drop, List.getElem_take]
        rw [e]; exact this

theorem gslice_sound {P : Program} {gp : GP} (hty : TyT P gp) {σ : Sim} {H : List GB} (w : World) {t : Nat} {x v : GV} {a : Value} {ρg : Operand → GV} {ρ : Operand → Value}
    (hO : ∀ x, GR σ H (ρg x) (ρ x)) {lo hi mx : Option Operand} (hx : GR σ H x a) (h : gslice gp t x (lo.map ρg) (hi.map ρg) (mx.map ρg) = some v) :
    ∃ c, (Instr.sliceAt t a (lo.map ρ) (hi.map ρ) (mx.map ρ)).run P w = .ok c w ∧ GR σ H v c := by
  unfold gslice at h
  split at h
  · rename_i sz agg by_ z e eq_ hts
    obtain ⟨d, hu, hp, hk, _⟩ := (hty _ _ hts).under
    simp only [KOK] at hk
    subst hk
    have run : ∀ (base : Option Addr) (len cap l hh m : Nat) (ti : TI), gp.ty e = some ti → (Instr.sliceBounds true len cap (lo.map ρ) (hi.map ρ) (mx.map ρ)).run P w = .ok (l, hh, m) w →
        (Instr.sliceAt t (.slice base len cap) (lo.map ρ) (hi.map ρ) (mx.map ρ)).run P w = .ok (.slice (if m = l then base else base.map (·.add (l * ti.size))) (hh - l) (m - l)) w := by
      intro base len cap l hh m ti hti hb
      simp only [Instr.sliceAt, Sem.run_bind, hu, Result.andThen_ok, Instr.slice, hb, (hty _ _ hti).sizeOf, Sem.run_pure]
    split at h
    · rename_i ti hti
      split at h
      · -- a slice of the ghost heap
        cases hx with
        | slc id off n cap A c hf hc ha hm =>
          split at h
          · rename_i hmx
            have hmx' : mx = none := by cases mx <;> simp_all
            subst hmx'
            split at h
            · rename_i j hj
              split at h
              · rename_i i hi'
                obtain ⟨q1, q2, q3⟩ := bounds_run (P := P) (w := w) hO hc hj hi'
                cases h
                refine ⟨_, run _ _ _ _ _ _ ti hti q3, ?_⟩
                by_cases hz : c = i
                · subst hz
                  rw [if_pos rfl]
                  refine .slc _ _ _ _ A _ hf (by omega) (by omega) fun m hm' => ?_
                  split at hm'
                  · cases hm'; rw [hm _ rfl]
                  · cases hm'
                · rw [if_neg hz, Option.map_some]
                  refine .slc _ _ _ _ _ _ hf (by omega) (fun _ => ?_) fun m hm' => ?_
                  · rw [ha (by omega), add_none]
                  · split at hm'
                    · cases hm'; rw [hm _ rfl]
                    · cases hm'
              · cases h
            · cases h
          · rename_i m hmx
            obtain ⟨mo, rfl, rfl⟩ : ∃ mo, mx = some mo ∧ ρg mo = m := by cases mx <;> simp_all
            split at h
            · rename_i c' hc'
              split at h
              · cases h
              · rename_i q hq
                obtain ⟨ho, rfl, rfl⟩ : ∃ ho, hi = some ho ∧ ρg ho = q := by cases hi <;> simp_all
                split at h
                · rename_i j hj
                  split at h
                  · rename_i i hi'
                    obtain ⟨q1, q2, q3, q4⟩ := bounds3_run (P := P) (w := w) hO hc hc' hj hi'
                    cases h
                    refine ⟨_, run _ _ _ _ _ _ ti hti q4, ?_⟩
                    by_cases hz : c' = i
                    · subst hz
                      rw [if_pos rfl]
                      exact .slc _ _ _ _ A _ hf (by omega) (by omega) fun m hm' => by cases hm'; rfl
                    · rw [if_neg hz, Option.map_some]
                      exact .slc _ _ _ _ _ _ hf (by omega) (fun _ => by rw [ha (by omega), add_none]) fun m hm' => by cases hm'; rfl
                  · cases h
                · cases h
            · cases h
      · split at h
        · rename_i es hes
          obtain ⟨base, cap, rfl, hc⟩ := (hx.list hes).slice
          simp only [Bool.cond_eq_ite] at h
          split at h
          · rename_i hok
            split at h
            · rename_i hmx
              have hmx' : mx = none := by cases mx <;> simp_all
              subst hmx'
              split at h
              · rename_i j hj
                split at h
                · rename_i i hi'
                  obtain ⟨q1, q2, q3⟩ := bounds_run (P := P) (w := w) hO hc hj hi'
                  cases h
                  exact ⟨_, run _ _ _ _ _ _ ti hti q3, .d _ _ ((hx.list hes).sub ti.size hok i j cap q1 q2 (by omega) (Nat.le_refl _))⟩
                · cases h
              · cases h
            · rename_i m hmx
              obtain ⟨mo, rfl, rfl⟩ : ∃ mo, mx = some mo ∧ ρg mo = m := by cases mx <;> simp_all
              split at h
              · rename_i c' hc'
                split at h
                · cases h
                · rename_i q hq
                  obtain ⟨ho, rfl, rfl⟩ : ∃ ho, hi = some ho ∧ ρg ho = q := by cases hi <;> simp_all
                  split at h
                  · rename_i j hj
                    split at h
                    · rename_i i hi'
                      obtain ⟨q1, q2, q3, q4⟩ := bounds3_run (P := P) (w := w) hO hc hc' hj hi'
                      split at h
                      · rename_i hjc
                        have hjc : j = c' := by simpa using hjc
                        subst hjc
                        cases h
                        have := (hx.list hes).sub ti.size hok i j j q1 q3 (Nat.le_refl _) (by omega)
                        refine ⟨_, run _ _ _ _ _ _ ti hti q4, ?_⟩
                        have hlen : ((es.take j).drop i).length = j - i := by simp; omega
                        rw [← hlen] at this ⊢
                        exact .xl _ _ this
                      · cases h
                    · cases h
                  · cases h
              · cases h
          · cases h
        · cases h
    · cases h
  · cases h
end Go.Gh
namespace Go.Gh
open Go.RowKit

theorem foldl_set (off : Nat) : ∀ (vs : List Value) (n : Nat) (cs : Array Value), off + n + vs.length ≤ cs.size →
    ((vs.zipIdx n).foldl (fun (cs : Array Value) (p : Value × Nat) => cs.setIfInBounds (off + p.2) p.1) cs).toList = cs.toList.take (off + n) ++ vs ++ cs.toList.drop (off + n + vs.length)
  | [], n, cs, _ => by simp
  | v :: r, n, cs, h => by
    simp only [List.length_cons] at h
    simp only [List.zipIdx_cons, List.foldl_cons]
    rw [foldl_set off r (n + 1) (cs.setIfInBounds (off + n) v) (by simp; omega)]
    have e : (cs.setIfInBounds (off + n) v).toList = (cs.toList.take (off + n) ++ [v]) ++ cs.toList.drop (off + n + 1) := by
      rw [Array.toList_setIfInBounds, List.set_eq_take_append_cons_drop, if_pos (by simp; omega)]; simp
    have hl : (cs.toList.take (off + n) ++ [v]).length = off + (n + 1) := by simp; omega
    rw [e, List.take_left' hl, List.drop_append, hl, List.drop_eq_nil_of_le (by omega), List.nil_append, List.drop_drop]
    simp only [List.append_assoc, List.cons_append, List.nil_append, List.length_cons]
    congr 3
    congr 1
    omega

/-- Pointwise. -/
def PW (σ : Sim) (H : List GB) (cs : List GV) (vs : List Value) : Prop := vs.length = cs.length ∧ ∀ k (h1 : k < cs.length) (h2 : k < vs.length), GR σ H cs[k] vs[k]
theorem PW.append {σ : Sim} {H : List GB} {a b : List GV} {x y : List Value} (h : PW σ H a x) (k : PW σ H b y) : PW σ H (a ++ b) (x ++ y) := by
  refine ⟨by simp [h.1, k.1], fun i h1 h2 => ?_⟩
  simp only [List.getElem_append]
  by_cases q : i < a.length
  · rw [dif_pos q, dif_pos (by rw [h.1]; exact q)]; exact h.2 i q _
  · rw [dif_neg q, dif_neg (by rw [h.1]; exact q)]
    simp only [h.1]
    exact k.2 (i - a.length) (by simp at h1; omega) _
theorem PW.take {σ : Sim} {H : List GB} {a : List GV} {x : List Value} (h : PW σ H a x) (n : Nat) : PW σ H (a.take n) (x.take n) := by
  refine ⟨by simp [h.1], fun i h1 h2 => ?_⟩
  simp only [List.getElem_take]
  exact h.2 i _ _
theorem PW.drop {σ : Sim} {H : List GB} {a : List GV} {x : List Value} (h : PW σ H a x) (n : Nat) : PW σ H (a.drop n) (x.drop n) := by
  refine ⟨by simp [h.1], fun i h1 h2 => ?_⟩
  simp only [List.getElem_drop]
  exact h.2 _ _ _
theorem PW.setR {σ : Sim} {H : List GB} {cs xs : List GV} {vs ys : List Value} (h : PW σ H cs vs) (k : PW σ H xs ys) (off : Nat) :
    PW σ H (setR cs off xs) (vs.take off ++ ys ++ vs.drop (off + ys.length)) := by
  unfold Gh.setR
  rw [k.1]
  exact ((h.take off).append k).append (h.drop _)

theorem GR.cells {σ : Sim} {H : List GB} {x : GV} {v : Value} (h : GR σ H x v) (ok : x.cells.all cellOk = true) : PW σ H x.cells v.cells.toList := by
  have one : ∀ {x : GV} {v : Value}, x.cells = [x] → v.cells = #[v] → GR σ H x v → PW σ H x.cells v.cells.toList := by
    intro x v hx hv h
    rw [hx, hv]
    refine ⟨rfl, fun k h1 h2 => ?_⟩
    have : k = 0 := by simpa using h1
    subst this
    exact h
  cases h with
  | d x v h =>
    have hc : (GV.d x).cells = x.cells.map .d := by cases x <;> rfl
    obtain ⟨h1, h2⟩ := h.cells
    rw [hc]
    refine ⟨by simp [h1], fun k q1 q2 => ?_⟩
    simp at q1 q2
    simp
    exact .d _ _ (h2 k q1 q2)
  | und v => simp [GV.cells, cellOk] at ok
  | new t v => simp [GV.cells, cellOk] at ok
  | tup cs vs hs h => simp [GV.cells, cellOk] at ok
  | agg cs vs hs h => exact ⟨by simpa [GV.cells, Value.cells] using hs, fun k h1 h2 => h k h1 (by simpa [Value.cells] using h2)⟩
  | xl es a h => exact one rfl rfl (.xl es a h)
  | tl es t L sz v ht hl h hc hz =>
    obtain ⟨a, c, rfl, _⟩ := h.slice
    exact one rfl rfl (.tl es t L sz _ ht hl h hc hz)
  | ptr id off hf => exact one rfl rfl (.ptr id off hf)
  | slc id off n cap a c hf hc ha hm => exact one rfl rfl (.slc id off n cap a c hf hc ha hm)
  | map id hf => exact one rfl rfl (.map id hf)
  | iter id hf => exact one rfl rfl (.iter id hf)
  | fn f a b x y hx hy h1 h2 => exact one rfl rfl (.fn f a b x y hx hy h1 h2)
/-- A cell that may be stored is one cell of the machine. -/
theorem GR.flat {σ : Sim} {H : List GB} {x : GV} {v : Value} (h : GR σ H x v) (ok : cellOk x = true) : v.oneCell' = true := by
  cases h with
  | d x v h =>
    have : Value.flatB v = true := by
      cases h <;> first | rfl | exact ok | simp [cellOk] at ok
    cases v <;> first | rfl | simp [Value.flatB] at this
  | und v => simp [cellOk] at ok
  | new t v => simp [cellOk] at ok
  | tup cs vs hs h => simp [cellOk] at ok
  | agg cs vs hs h => simp [cellOk] at ok
  | xl es a h => rfl
  | tl es t L sz v ht hl h hc hz => obtain ⟨a, c, rfl, _⟩ := h.slice; rfl
  | ptr id off hf => rfl
  | slc id off n cap a c hf hc ha hm => rfl
  | map id hf => rfl
  | iter id hf => rfl
  | fn f a b x y hx hy h1 h2 => rfl

theorem gfill_sound {σ : Sim} {H : List GB} (pg : Nat → Option (Nat × Nat)) (pc : Nat → Option (Nat × Nat)) (hp : ∀ i q, pg i = some q → pc i = some q) :
    ∀ (ps : List (Nat × GV)) (qs : List (Nat × Value)) (cs : List GV) (vs : Array Value) (r : List GV), ps.length = qs.length →
      (∀ k (h1 : k < ps.length) (h2 : k < qs.length), ps[k].1 = qs[k].1 ∧ GR σ H ps[k].2 qs[k].2) → PW σ H cs vs.toList → gfill pg cs ps = some r →
      ∃ out, Instr.fill pc vs qs = some out ∧ PW σ H r out.toList
  | [], [], cs, vs, r, _, _, hcs, h => by
    simp only [gfill, Option.some.injEq] at h; subst h
    exact ⟨vs, rfl, hcs⟩
  | [], _ :: _, _, _, _, hl, _, _, _ => by simp at hl
  | _ :: _, [], _, _, _, hl, _, _, _ => by simp at hl
  | (i, x) :: ps, (j, v) :: qs, cs, vs, r, hl, hq, hcs, h => by
    obtain ⟨e, hx⟩ := hq 0 (by simp) (by simp)
    simp only [List.getElem_cons_zero] at e hx
    subst e
    simp only [gfill] at h
    split at h
    · cases h
    · rename_i off size hpl
      simp only [Bool.cond_eq_ite] at h
      split at h
      · rename_i hok
        simp only [Bool.and_eq_true, Nat.beq_eq, Nat.ble_eq] at hok
        obtain ⟨⟨h1, h2⟩, h3⟩ := hok
        have hc := hx.cells h3
        have hsz : v.cells.size = size := by have := hc.1; simp at this; omega
        have hvs : vs.size = cs.length := by simpa using hcs.1
        have key : PW σ H (setR cs off x.cells) (v.cells.zipIdx.foldl (fun cs (c, j) => cs.setIfInBounds (off + j) c) vs).toList := by
          have := foldl_set off v.cells.toList 0 vs (by simp; omega)
          rw [← Array.foldl_toList, Array.toList_zipIdx]
          simp only [Nat.add_zero] at this
          rw [this]
          exact hcs.setR hc off
        obtain ⟨out, ho1, ho2⟩ := gfill_sound pg pc hp ps qs _ _ r (by simpa using hl) (fun k a b => by
          have := hq (k + 1) (by simpa using a) (by simpa using b)
          simpa using this) key h
        refine ⟨out, ?_, ho2⟩
        simp only [Instr.fill, hp _ _ hpl]
        rw [if_neg (by simp [hsz]; omega)]
        exact ho1
      · cases h
end Go.Gh
namespace Go.Gh
open Go.RowKit

theorem execV {P : Program} {s : Sem Value} {c : Value} {w w' : World} (h : s.run P w = .ok c w') : (do pure (Next.value (← s)) : Sem Next).run P w = .ok (.value c) w' := by
  simp [h]

/-- A part of a struct or an array that is no variable. -/
theorem part_run {P : Program} {t : Nat} {ti : TI} (ht : TyOK P t ti) (w : World) (vs : Array Value) (off : Nat) (h : off + ti.size ≤ vs.size) :
    (part t vs off).run P w = .ok (if ti.agg then .agg ((List.range ti.size).map fun k => vs.getD (off + k) undef).toArray else vs.getD off undef) w := by
  simp only [part, Sem.run_bind, ht.isAgg, Result.andThen_ok]
  cases hb : ti.agg with
  | true =>
    simp only [if_true, Sem.run_bind, ht.sizeOf, Result.andThen_ok, Sem.run_pure]
    congr 2
    apply Array.ext
    · simp; omega
    · intro i h1 h2
      simp at h1 h2
      simp [Array.getD]
      intro hh; omega
  | false =>
    have h1 := ht.one hb
    have : off < vs.size := by omega
    simp [this, Array.getD]

theorem gpart_sound {P : Program} {σ : Sim} {H : List GB} {t : Nat} {ti : TI} (ht : TyOK P t ti) (w : World) {x y : GV} {v : Value} {off : Nat} (hx : GR σ H x v)
    (h : gpart ti x off = some y) : ∃ vs c, v = .agg vs ∧ (part t vs off).run P w = .ok c w ∧ GR σ H y c := by
  unfold gpart at h
  split at h
  · rename_i cs hx
    split at h
    · rename_i z hz; cases h
      cases hx with
      | d _ _ hx => cases hx with
        | agg cs vs hs hd =>
          obtain ⟨hl, _⟩ := partD_ok hz ht.one
          simp only [DV.cells] at hl
          refine ⟨vs, _, rfl, part_run ht w vs off (by omega), .d _ _ (partD_sound hz ht.one (fun k => vs.getD k undef) fun k hk => ?_)⟩
          simp only [DV.cells] at hk ⊢
          have := hd k hk (by omega)
          simpa [Array.getD, show k < vs.size by omega] using this
    · cases h
  · rename_i cs hx
    cases hx with
    | agg cs vs hs hd =>
      obtain ⟨hl, hg⟩ := partG_sound h ht.one (fun k => vs.getD k undef) fun k hk => by
        have := hd k hk (by omega)
        simpa [Array.getD, show k < vs.size by omega] using this
      exact ⟨vs, _, rfl, part_run ht w vs off (by omega), hg⟩
  · cases h

theorem mapM_at {α β : Type} {f : α → Option β} : ∀ {l : List α} {r : List β}, l.mapM f = some r → ∀ {i : Nat} {x : α}, l[i]? = some x → r[i]? = f x
  | [], r, h, i, x, hx => by simp at hx
  | a :: l, r, h, i, x, hx => by
    simp only [List.mapM_cons, Option.bind_eq_bind, Option.pure_def] at h
    cases ha : f a with
    | none => simp [ha] at h
    | some b =>
      cases hl : l.mapM f with
      | none => simp [ha, hl] at h
      | some rest =>
        simp [ha, hl] at h
        subst h
        cases i with
        | zero => simp at hx; subst hx; simp [ha]
        | succ i => simp at hx ⊢; exact mapM_at hl hx

theorem lenG_sound {σ : Sim} {H : List GB} {x : GV} {v : Value} {n : Nat} (hx : GR σ H x v) (h : lenG x = some n) : ∃ a c, v = .slice a n c := by
  unfold lenG at h
  split at h
  · cases h
    cases hx with | slc id off n cap a c hf hc ha hm => exact ⟨_, _, rfl⟩
  · split at h
    · rename_i es hes; cases h
      obtain ⟨a, c, h1, _⟩ := (hx.list hes).slice
      exact ⟨a, c, h1⟩
    · cases h

theorem foldI_max {P : Program} {σ : Sim} {H : List GB} (w : World) (k : IntKind) : ∀ (l : List GV) (vs : List Value) (a m : Int), PW σ H l vs → foldI (fun a b => if b > a then b else a) k a l = some m →
    (vs.foldlM Builtin.max2 (.int k a)).run P w = .ok (.int k m) w
  | [], vs, a, m, hp, h => by
    have : vs = [] := List.eq_nil_of_length_eq_zero hp.1
    subst this
    simp only [foldI, Option.some.injEq] at h; subst h; rfl
  | x :: r, [], a, m, hp, h => by have := hp.1; simp at this
  | x :: r, v :: vs, a, m, hp, h => by
    simp only [foldI] at h
    split at h
    · rename_i k' b hN
      split at h
      · rename_i hk; subst hk
        have hv : v = .int k b := (hp.2 0 (by simp) (by simp)).int hN
        subst hv
        simp only [List.foldlM_cons, Sem.run_bind, Builtin.max2, Sem.run_pure, Result.andThen_ok]
        exact foldI_max w k r vs _ m ⟨by have := hp.1; simpa using this, fun i h1 h2 => by have := hp.2 (i + 1) (by simpa using h1) (by simpa using h2); simpa using this⟩ h
      · cases h
    · cases h
theorem foldI_min {P : Program} {σ : Sim} {H : List GB} (w : World) (k : IntKind) : ∀ (l : List GV) (vs : List Value) (a m : Int), PW σ H l vs → foldI (fun a b => if b < a then b else a) k a l = some m →
    (vs.foldlM Builtin.min2 (.int k a)).run P w = .ok (.int k m) w
  | [], vs, a, m, hp, h => by
    have : vs = [] := List.eq_nil_of_length_eq_zero hp.1
    subst this
    simp only [foldI, Option.some.injEq] at h; subst h; rfl
  | x :: r, [], a, m, hp, h => by have := hp.1; simp at this
  | x :: r, v :: vs, a, m, hp, h => by
    simp only [foldI] at h
    split at h
    · rename_i k' b hN
      split at h
      · rename_i hk; subst hk
        have hv : v = .int k b := (hp.2 0 (by simp) (by simp)).int hN
        subst hv
        simp only [List.foldlM_cons, Sem.run_bind, Builtin.min2, Sem.run_pure, Result.andThen_ok]
        exact foldI_min w k r vs _ m ⟨by have := hp.1; simpa using this, fun i h1 h2 => by have := hp.2 (i + 1) (by simpa using h1) (by simpa using h2); simpa using this⟩ h
      · cases h
    · cases h
theorem PW.map {σ : Sim} {H : List GB} {ρg : Operand → GV} {ρ : Operand → Value} (hO : ∀ x, GR σ H (ρg x) (ρ x)) (l : List Operand) : PW σ H (l.map ρg) (l.map ρ) :=
  ⟨by simp, fun k h1 h2 => by simpa using hO _⟩

theorem gbuild_sound {P : Program} {gp : GP} (hty : TyT P gp) {σ : Sim} {H : List GB} (w : World) {t : Nat} {ti : TI} (ht : gp.ty t = some ti) {ρg : Operand → GV} {ρ : Operand → Value}
    (hO : ∀ x, GR σ H (ρg x) (ρ x)) (parts : Array (Nat × Operand)) {cs : List GV} (hb : buildOk gp ti.kind = true)
    (h : gfill (placeOf gp ti.kind) (ti.zero.map fun v => .d (.lit v)) (parts.toList.map fun p => (p.1, ρg p.2)) = some cs) :
    ∃ c, (Instr.build t (parts.map fun p => (p.1, ρ p.2))).run P w = .ok c w ∧ GR σ H (mkAgg cs) c := by
  have ok := hty _ _ ht
  obtain ⟨i, z, hi1, hi2, _, hi4, hi5⟩ := ok.info
  obtain ⟨d, hu, hp, hk, _⟩ := ok.under
  have hz : ∀ w, (zeroValue t).run P w = .ok z w := fun w => by simp [zeroValue, typeInfo, hi1, hi4]
  have hcells : PW σ H (ti.zero.map fun v => .d (.lit v)) z.cells.toList := by
    rw [hi5]
    exact ⟨by simp, fun k h1 h2 => by simpa using GR.d _ _ (DR.lit _ (ok.zflat _ (List.getElem_mem _)))⟩
  have hq : ∀ k (h1 : k < (parts.toList.map fun p => (p.1, ρg p.2)).length) (h2 : k < ((parts.map fun p => (p.1, ρ p.2)).toList).length),
      (parts.toList.map fun p => (p.1, ρg p.2))[k].1 = ((parts.map fun p => (p.1, ρ p.2)).toList)[k].1 ∧ GR σ H (parts.toList.map fun p => (p.1, ρg p.2))[k].2 ((parts.map fun p => (p.1, ρ p.2)).toList)[k].2 := by
    intro k h1 h2
    simp
    exact hO _
  have fin : ∀ (out : Array Value), PW σ H cs out.toList → GR σ H (mkAgg cs) (.agg out) := fun out ho => mkAgg_sound (by simpa using ho.1) fun k h1 h2 => ho.2 k h1 (by simpa using h2)
  cases hkd : ti.kind with
  | struct fs =>
    rw [hkd] at hk h
    obtain ⟨F, rfl, hF⟩ := hk
    obtain ⟨pl, hpl⟩ := ok.places F hp
    have hpm : ∀ w, (F.mapM fun f => (do pure (f.offset, ← sizeOf f.type) : Sem (Nat × Nat))).run P w = .ok pl.toArray w := fun w => by
      have e := run_places (P := P) w F.toList pl hpl
      have e2 : (fun f : Field => (do pure (f.offset, ← sizeOf f.type) : Sem (Nat × Nat))) = fun f => Prod.mk f.offset <$> sizeOf f.type := by
        funext f; rw [map_eq_pure_bind]
      rw [e2, Array.mapM_eq_mapM_toList]
      simp [e]
    obtain ⟨out, ho1, ho2⟩ := gfill_sound (placeOf gp (.struct fs)) (pl.toArray[·]?) (fun i q hq => by
      simp only [placeOf] at hq
      split at hq
      · rename_i off ft hf
        split at hq
        · rename_i tf htf; cases hq
          rw [← hF, List.getElem?_map] at hf
          obtain ⟨fl, hfl, hfe⟩ := Option.map_eq_some_iff.1 hf
          injection hfe with e1 e2
          subst e1 e2
          obtain ⟨j, zz, hj1, hj2, _⟩ := (hty _ _ htf).info
          have := mapM_at hpl hfl
          rw [hj1] at this
          simp only [Option.map_some] at this
          rw [hj2] at this
          simpa using this
        · cases hq
      · cases hq) _ _ _ z.cells cs (by simp) hq hcells h
    refine ⟨_, ?_, fin out ho2⟩
    simp only [Instr.build, Sem.run_bind, hz, hu, Result.andThen_ok, hpm, ho1, Sem.run_pure]
  | array n e =>
    rw [hkd] at hk h
    simp only [KOK] at hk
    subst hk
    cases hte : gp.ty e with
    | none => rw [hkd] at hb; simp [buildOk, hte] at hb
    | some te =>
      obtain ⟨out, ho1, ho2⟩ := gfill_sound (placeOf gp (.array n e)) (fun i => some (i * te.size, te.size)) (fun i q hq => by
        simp only [placeOf, hte] at hq; exact hq) _ _ _ z.cells cs (by simp) hq hcells h
      refine ⟨_, ?_, fin out ho2⟩
      simp only [Instr.build, Sem.run_bind, hz, hu, Result.andThen_ok, (hty _ _ hte).sizeOf, ho1, Sem.run_pure]
  | _ => rw [hkd] at hb; simp [buildOk] at hb
end Go.Gh
namespace Go.Gh
open Go.RowKit

theorem map_pair (ρ : Operand → Value) (ps : Array (Nat × Operand)) : (ps.map fun (i, x) => (i, ρ x)) = ps.map fun p => (p.1, ρ p.2) := by
  congr 1

def heapish : Op → Bool
  | .alloc _ | .buildSlice .. => true
  | _ => false

theorem gval_sound {P : Program} {gp : GP} (hty : TyT P gp) {σ : Sim} {H : List GB} {w : World} (himm : ∀ a v, σ.imm a = some v → a.spot = none ∧ w.cell? a = some v)
    {ρg : Operand → GV} {ρ : Operand → Value} (hO : ∀ x, GR σ H (ρg x) (ρ x)) {o : Oper} {hint : Nat} (hv : isV gp hint o = true) (hn : heapish o.op = false) {v : GV}
    (h : gval gp o ρg = some v) : ∃ c, (execOp ρ o).run P w = .ok (.value c) w ∧ GR σ H v c := by
  obtain ⟨dst, op, type, pos, after, guard⟩ := o
  cases op with
  | move x => simp only [gval, Option.some.injEq] at h; subst h; exact ⟨_, rfl, hO x⟩
  | assign x => simp only [gval, Option.some.injEq] at h; subst h; exact ⟨_, rfl, hO x⟩
  | pick c a b =>
    simp only [gval] at h
    split at h
    · rename_i t ht; cases h
      have := (hO c).bool ht
      cases t
      · exact ⟨ρ b, by simp [execOp, this, asBool], by simpa using hO b⟩
      · exact ⟨ρ a, by simp [execOp, this, asBool], by simpa using hO a⟩
    · cases h
  | alloc t => simp [heapish] at hn
  | load t a =>
    simp only [gval] at h
    split at h
    · rename_i ti hti
      split at h
      · rename_i es i off hg
        have ha := hO a
        rw [hg] at ha
        split at h
        · rename_i e he
          split at h
          · rename_i y hy; cases h
            cases ha with
            | d _ _ ha =>
              obtain ⟨c, hc1, hc2⟩ := vptr_load (hty _ _ hti) himm ha he hy
              exact ⟨c, execV hc1, .d _ _ hc2⟩
          · cases h
        · cases h
      · cases h
    · cases h
  | nilCheck x =>
    simp only [gval] at h
    have hx := hO x
    split at h
    · rename_i id off hg; cases h
      rw [hg] at hx
      generalize hr : ρ x = r at hx
      cases hx with
      | ptr id off hf => exact ⟨_, by simp [execOp, hr], .ptr _ _ hf⟩
    · rename_i es i off hg; cases h
      rw [hg] at hx
      generalize hr : ρ x = r at hx
      cases hx with
      | d _ _ hx =>
        have hx' := hx
        cases hx with
        | vptr _ sz _ _ A vals hsz hi hd => exact ⟨_, by simp [execOp, hr], .d _ _ hx'⟩
    · rename_i f a b hg; cases h
      rw [hg] at hx
      generalize hr : ρ x = r at hx
      cases hx with
      | d _ _ hx =>
        have hx' := hx
        cases hx with
        | fn _ _ _ X Y hX hY h1 h2 => exact ⟨_, by simp [execOp, hr], .d _ _ hx'⟩
    · rename_i f a b hg; cases h
      rw [hg] at hx
      generalize hr : ρ x = r at hx
      have hx' := hx
      cases hx with
      | fn _ _ _ X Y hX hY h1 h2 => exact ⟨_, by simp [execOp, hr], hx'⟩
    · cases h
  | binOp op t x y yt =>
    simp only [gval] at h
    obtain ⟨c, h1, h2⟩ := gbin_sound (X := x) (Y := y) hty w (hO x) (hO y) h
    exact ⟨c, execV h1, h2⟩
  | unOp op t x =>
    simp only [gval] at h
    split at h
    · split at h
      · rename_i b hb; cases h
        exact ⟨.bool (!b), by simp [execOp, (hO x).bool hb, Op.unary], .mkbool ..⟩
      · cases h
    · split at h
      · rename_i k n hk; cases h
        exact ⟨.int k (k.wrap (0 - n)), by simp [execOp, (hO x).int hk, Op.unary, Op.intArith], .mkint ..⟩
      · cases h
    · cases h
  | convert src dst' x =>
    simp only [gval] at h
    split at h
    · rename_i tis sz agg by_ z kd eq_ k n hs hd hN; cases h
      obtain ⟨d1, hu1, _⟩ := (hty _ _ hs).under
      obtain ⟨d2, hu2, _, hk, _⟩ := (hty _ _ hd).under
      simp only [KOK] at hk
      subst hk
      refine ⟨.int kd (kd.wrap n), execV (s := convert src dst' (ρ x)) ?_, .mkint ..⟩
      rw [(hO x).int hN]
      simp only [convert, Sem.run_bind, hu1, hu2, Result.andThen_ok]
      cases d1 <;> rfl
    · cases h
  | makeFunc f a b =>
    simp only [gval, Option.some.injEq] at h; subst h
    exact ⟨.func f (a.map ρ) (b.map ρ), by simp [execOp, Instr.makeFunc], mkFn_sound (by simp) (by simp) (fun k h1 h2 => by simpa using hO _) fun k h1 h2 => by simpa using hO _⟩
  | slice t x lo hi mx =>
    simp only [gval] at h
    obtain ⟨c, h1, h2⟩ := gslice_sound hty w hO (hO x) h
    exact ⟨c, execV h1, h2⟩
  | fieldAddr s x f =>
    simp only [gval] at h
    obtain ⟨c, h1, h2⟩ := gfieldAddr_sound hty w (hO x) h
    exact ⟨c, execV h1, h2⟩
  | field t x f =>
    simp only [gval] at h
    split at h
    · rename_i sz agg by_ z fs eq_ hts
      obtain ⟨d, hu, _, hk, _⟩ := (hty _ _ hts).under
      obtain ⟨F, rfl, hF⟩ := hk
      split at h
      · rename_i off ft hf
        rw [← hF, List.getElem?_map] at hf
        obtain ⟨fl, hfl, hfe⟩ := Option.map_eq_some_iff.1 hf
        injection hfe with e1 e2
        subst e1 e2
        have hfa : F[f]? = some fl := by simpa using hfl
        split at h
        · rename_i ti hti
          obtain ⟨vs, c, h1, h2, h3⟩ := gpart_sound (hty _ _ hti) w (hO x) h
          refine ⟨c, execV (s := Instr.field t (ρ x) f) ?_, h3⟩
          simp [Instr.field, hu, hfa, h1, asAgg, h2]
        · cases h
      · cases h
    · cases h
  | indexAddr t x ix =>
    simp only [gval] at h
    obtain ⟨c, h1, h2⟩ := gindexAddr_sound hty w (hO x) (hO ix) h
    exact ⟨c, execV h1, h2⟩
  | index t x ix =>
    simp only [gval] at h
    split at h
    · rename_i sz agg by_ z n e eq_ k i hts hN
      obtain ⟨d, hu, _, hk, _⟩ := (hty _ _ hts).under
      simp only [KOK] at hk
      subst hk
      split at h
      · rename_i ti hti
        split at h
        · rename_i hi
          obtain ⟨vs, c, h1, h2, h3⟩ := gpart_sound (hty _ _ hti) w (hO x) h
          refine ⟨c, execV (s := Instr.index t (ρ x) (ρ ix)) ?_, h3⟩
          simp [Instr.index, (hO ix).int hN, asIntOf, hu, h1, hi, (hty _ _ hti).sizeOf, h2]
        · cases h
      · cases h
    · cases h
  | build t parts =>
    simp only [gval] at h
    split at h
    · rename_i ti hti
      simp only [Bool.cond_eq_ite] at h
      split at h
      · rename_i hb
        split at h
        · rename_i cs hcs; cases h
          obtain ⟨c, h1, h2⟩ := gbuild_sound hty w hti hO parts hb hcs
          refine ⟨c, execV (s := Instr.build t (parts.map fun (i, x) => (i, ρ x))) ?_, h2⟩
          rw [map_pair]; exact h1
        · cases h
      · cases h
    · cases h
  | buildSlice t len parts => simp [heapish] at hn
  | extract t i =>
    simp only [gval] at h
    split at h
    · rename_i vs hg
      have hx := hO t
      rw [hg] at hx
      generalize hr : ρ t = r at hx
      cases hx with
      | tup _ xs hs hd =>
        obtain ⟨h1, h2⟩ := List.getElem?_eq_some_iff.1 h
        refine ⟨xs[i]'(by omega), ?_, ?_⟩
        · simp [execOp, hr, Instr.extract, show i < xs.size by omega]
        · rw [← h2]; exact hd i h1 (by omega)
    · cases h
  | call c =>
    simp only [gval] at h
    split at h
    · rename_i b hb
      have hres : resolve ρ c type = pure { target := .builtin b c.argTypes type (c.args.map fun | .const _ => true | _ => false), args := c.args.map ρ } := by
        unfold resolve; rw [hb]; rfl
      have hexec : execOp ρ { dst, op := .call c, type, pos, after, guard } = builtin b c.argTypes type (c.args.map fun | .const _ => true | _ => false) (c.args.map ρ) := by
        simp only [execOp, hres]; rfl
      rw [hexec]
      have hargs : PW σ H (c.args.toList.map ρg) (c.args.map ρ).toList := by simpa using PW.map hO c.args.toList
      split at h
      · rename_i x hx
        rw [hx] at hargs
        obtain ⟨y, hy⟩ : ∃ y, (c.args.map ρ).toList = [y] := by
          have := hargs.1
          match hq : (c.args.map ρ).toList, this with
          | [y], _ => exact ⟨y, rfl⟩
          | [], this => simp at this
          | _ :: _ :: _, this => simp at this
        have hy' : c.args.map ρ = #[y] := by rw [← Array.toArray_toList (xs := c.args.map ρ), hy]
        rw [hy] at hargs
        have gy : GR σ H x y := hargs.2 0 (by simp) (by simp)
        split at h
        · rename_i t ht
          have ht' : c.argTypes = #[t] := by rw [← Array.toArray_toList (xs := c.argTypes), ht]
          rw [hy', ht']
          split at h
          · rename_i sz agg by_ z e eq_ hts
            obtain ⟨d, hu, _, hk, _⟩ := (hty _ _ hts).under
            simp only [KOK] at hk
            subst hk
            split at h
            · rename_i n hn'; cases h
              obtain ⟨a, k, rfl⟩ := lenG_sound gy hn'
              exact ⟨.int .i64 n, by simp [builtin, Builtin.len_, hu, goInt], .mkint ..⟩
            · cases h
          · rename_i sz agg by_ z n e eq_ hts
            obtain ⟨d, hu, _, hk, _⟩ := (hty _ _ hts).under
            simp only [KOK] at hk
            subst hk
            cases h
            exact ⟨.int .i64 n, by simp [builtin, Builtin.len_, hu, goInt], .mkint ..⟩
          · cases h
        · cases h
      · rename_i x r hx
        rw [hx] at hargs
        split at h
        · rename_i kd a hN
          split at h
          · rename_i m hm; cases h
            match hq : (c.args.map ρ).toList, hargs with
            | [], hargs => have := hargs.1; simp at this
            | y :: ys, hargs =>
              have gy : GR σ H x y := hargs.2 0 (by simp) (by simp)
              have e := foldI_max (P := P) (σ := σ) (H := H) w kd r ys a m ⟨by have := hargs.1; simpa using this, fun i h1 h2 => by have := hargs.2 (i + 1) (by simpa using h1) (by simpa using h2); simpa using this⟩ hm
              refine ⟨.int kd m, ?_, .mkint ..⟩
              simp only [builtin, Builtin.max_, hq, gy.int hN]
              simp [e]
          · cases h
        · cases h
      · rename_i x r hx
        rw [hx] at hargs
        split at h
        · rename_i kd a hN
          split at h
          · rename_i m hm; cases h
            match hq : (c.args.map ρ).toList, hargs with
            | [], hargs => have := hargs.1; simp at this
            | y :: ys, hargs =>
              have gy : GR σ H x y := hargs.2 0 (by simp) (by simp)
              have e := foldI_min (P := P) (σ := σ) (H := H) w kd r ys a m ⟨by have := hargs.1; simpa using this, fun i h1 h2 => by have := hargs.2 (i + 1) (by simpa using h1) (by simpa using h2); simpa using this⟩ hm
              refine ⟨.int kd m, ?_, .mkint ..⟩
              simp only [builtin, Builtin.min_, hq, gy.int hN]
              simp [e]
          · cases h
        · cases h
      · cases h
    · cases h
  | _ => simp [isV] at hv
end Go.Gh
namespace Go.Gh
open Go.RowKit

theorem WR.turn {σ σ' : Sim} {H H' : List GB} {w w' : World} (h : WR σ H w) (e : Ext σ H σ' H') (id : Nat) (hH : ∀ j, j ≠ id → H'[j]? = H[j]?)
    (hmu : ∀ j, j ≠ id → σ'.mu j = σ.mu j) (htok : ∀ j, j ≠ id → σ'.tok j = σ.tok j) (hok : ∀ a v, σ'.imm a = some v → a.spot = none ∧ w'.cell? a = some v)
    (hkeep : ∀ j b, j ≠ id → H[j]? = some b → Own σ j b → w'.heap[σ.mu j]? = w.heap[σ.mu j]? ∧ ∀ a, a.block = σ.mu j → σ'.imm a = σ.imm a)
    (hb : ∀ b, H'[id]? = some b → BR σ' H' w' id b)
    (hinj : ∀ b, H'[id]? = some b → Own σ' id b → ∀ j bj, j ≠ id → H[j]? = some bj → Own σ j bj → σ.mu j ≠ σ'.mu id) : WR σ' H' w' := by
  have own : ∀ j b, j ≠ id → Own σ' j b → Own σ j b := fun j b hj ho => ho.congr (htok j hj)
  refine ⟨hok, fun j b hj => ?_, fun i j bi bj hi hj oi oj hne => ?_⟩
  · by_cases hji : j = id
    · subst hji; exact hb b hj
    · rw [hH j hji] at hj
      have hk := h.blk j b hj
      have hq := hkeep j b hji hj
      have hm := hmu j hji
      cases b with
      | cells cs =>
        obtain ⟨c, el, h1, h2, h3, h4⟩ := hk
        obtain ⟨q1, q2⟩ := hq trivial
        refine ⟨c, el, by rw [hm, q1]; exact h1, h2, fun k a b => (h3 k a b).mono e, fun o s => ?_⟩
        rw [hm, q2 _ rfl]; exact h4 o s
      | tail L sz =>
        obtain ⟨a, c, h1, h2, h3⟩ := hk
        refine ⟨a, c, by rw [htok j hji]; exact h1, h2, fun hl => ?_⟩
        obtain ⟨q1, q2⟩ := hq ⟨a, c, h1, hl⟩
        obtain ⟨r1, ⟨cs, el, r2, r3⟩, r4⟩ := h3 hl
        refine ⟨by rw [hm]; exact r1, ⟨cs, el, by rw [hm, q1]; exact r2, r3⟩, fun o s ho => ?_⟩
        rw [hm, q2 _ rfl]; exact r4 o s ho
      | map es =>
        obtain ⟨E, h1, h2, h3⟩ := hk
        obtain ⟨q1, q2⟩ := hq trivial
        exact ⟨E, by rw [hm, q1]; exact h1, h2, fun k a b => ⟨(h3 k a b).1.mono e.imm, (h3 k a b).2.1.mono e, (h3 k a b).2.2⟩⟩
      | iter m n l cu =>
        obtain ⟨hf, s, h1, h2⟩ := hk
        obtain ⟨q1, q2⟩ := hq trivial
        obtain ⟨f1, f2⟩ := e.fixed m hf
        exact ⟨f1, s, by rw [hm, q1, f2]; exact h1, h2⟩
      | resv => trivial
      | dead => trivial
  · by_cases hii : i = id
    · subst hii
      have hji : j ≠ i := fun q => hne q.symm
      rw [hmu j hji]
      rw [hH j hji] at hj
      exact fun q => hinj bi hi oi j bj hji hj (own j bj hji oj) q.symm
    · rw [hH i hii] at hi
      rw [hmu i hii]
      by_cases hji : j = id
      · subst hji
        exact hinj bj hj oj i bi hii hi (own i bi hii oi)
      · rw [hH j hji] at hj
        rw [hmu j hji]
        exact h.inj i j bi bj hi hj (own i bi hii oi) (own j bj hji oj) hne

/-- Nothing but the ghost's own objects changes: what a Step asks, from the same data. -/
theorem Step.turn {lk : Nat} {σ σ' : Sim} {H H' : List GB} {w w' : World} (e : Ext σ H σ' H') (id : Nat) (hlk : lk ≤ id) (hH : ∀ j, j ≠ id → H'[j]? = H[j]?)
    (hmu : ∀ j, j ≠ id → σ'.mu j = σ.mu j) (htok : ∀ j, j ≠ id → σ'.tok j = σ.tok j) (ho : w'.os = w.os) (ht : w'.tape = w.tape) (hu : w'.output = w.output)
    (hs : w.heap.size ≤ w'.heap.size) (hlen : H.length ≤ H'.length)
    (hfrm : ∀ k, k < w.heap.size → (∀ b, H[id]? = some b → Own σ id b → σ.mu id ≠ k) → w'.heap[k]? = w.heap[k]?)
    (hown : ∀ b, H'[id]? = some b → Own σ' id b → (∃ b0, H[id]? = some b0 ∧ Own σ id b0 ∧ σ'.mu id = σ.mu id) ∨ w.heap.size ≤ σ'.mu id)
    (hnew : ∀ a, σ'.imm a ≠ σ.imm a → w.heap.size ≤ a.block ∨ ∃ b, H[id]? = some b ∧ Own σ id b ∧ σ.mu id = a.block) : Step lk σ H w σ' H' w' := by
  refine ⟨e, ho, ht, hu, hs, fun k hk hn => hfrm k hk fun b hb o => hn id b hb hlk o, fun j b hj oj => ?_, fun j hj => ?_, fun a ha => ?_, hlen⟩
  · by_cases hji : j = id
    · subst hji
      rcases hown b hj oj with q | q
      · exact .inl q
      · exact .inr ⟨hlk, q⟩
    · rw [hH j hji] at hj
      exact .inl ⟨b, hj, oj.congr (htok j hji), hmu j hji⟩
  · have hji : j ≠ id := by omega
    exact ⟨hH j hji, hmu j hji, htok j hji⟩
  · rcases hnew a ha with q | ⟨b, q1, q2, q3⟩
    · exact .inl q
    · exact .inr ⟨id, b, q1, hlk, q2, q3⟩

def upd {α : Type} (f : Nat → α) (n : Nat) (x : α) : Nat → α := fun i => if i = n then x else f i
@[simp] theorem upd_same {α : Type} (f : Nat → α) (n : Nat) (x : α) : upd f n x n = x := by simp [upd]
theorem upd_ne {α : Type} (f : Nat → α) {n i : Nat} (x : α) (h : i ≠ n) : upd f n x i = f i := by simp [upd, h]

theorem get_append_ne {H : List GB} {b : GB} {j : Nat} (h : j ≠ H.length) : (H ++ [b])[j]? = H[j]? := by
  rcases Nat.lt_trichotomy j H.length with q | q | q
  · rw [List.getElem?_append_left q]
  · exact absurd q h
  · rw [List.getElem?_append_right (by omega), List.getElem?_eq_none (by simp; omega), List.getElem?_eq_none (by omega)]
theorem get_append_same (H : List GB) (b : GB) : (H ++ [b])[H.length]? = some b := by simp

theorem ext_push {σ : Sim} {H : List GB} {b : GB} (m : Nat) (v : Value) : Ext σ H { σ with mu := upd σ.mu H.length m, tok := upd σ.tok H.length v } (H ++ [b]) := by
  refine ⟨fun id hf => ?_, fun t L sz ht => ?_, fun _ _ h => h⟩
  · obtain ⟨c, hc, hfc⟩ := hf
    have hlt : id < H.length := (List.getElem?_eq_some_iff.1 hc).1
    exact ⟨⟨c, by rw [get_append_ne (by omega)]; exact hc, hfc⟩, upd_ne _ _ (by omega)⟩
  · have hlt : t < H.length := (List.getElem?_eq_some_iff.1 ht).1
    exact ⟨L, by rw [get_append_ne (by omega)]; exact ht, Nat.le_refl _, fun _ => upd_ne _ _ (by omega)⟩

/-- A block is made on both sides. -/
theorem push_obj {lk : Nat} {σ : Sim} {H : List GB} {w : World} (h : WR σ H w) (hlk : lk ≤ H.length) (o : Obj) (b : GB) (v : Value)
    (hb : BR { σ with mu := upd σ.mu H.length w.heap.size, tok := upd σ.tok H.length v } (H ++ [b]) (w.alloc o) H.length b) :
    WR { σ with mu := upd σ.mu H.length w.heap.size, tok := upd σ.tok H.length v } (H ++ [b]) (w.alloc o) ∧
      Step lk σ H w { σ with mu := upd σ.mu H.length w.heap.size, tok := upd σ.tok H.length v } (H ++ [b]) (w.alloc o) := by
  have e := ext_push (σ := σ) (H := H) (b := b) w.heap.size v
  have hold : ∀ k, k < w.heap.size → (w.alloc o).heap[k]? = w.heap[k]? := fun k hk => Below.heap_alloc w o k hk
  constructor
  · refine h.turn e H.length (fun j hj => get_append_ne hj) (fun j hj => upd_ne _ _ hj) (fun j hj => upd_ne _ _ hj) (fun a v hv => ?_) (fun j bj hj hjb ho => ⟨hold _ (h.size_lt hjb ho), fun _ _ => rfl⟩) (fun b' hb' => ?_) (fun b' hb' ho j bj hj hjb hoj => ?_)
    · obtain ⟨q1, q2⟩ := h.imm a v hv
      exact ⟨q1, (World.cell?_of_block (w := w) (hold a.block (block_lt_of_cell q2))).trans q2⟩
    · rw [get_append_same] at hb'; cases hb'; exact hb
    · show σ.mu j ≠ upd σ.mu H.length w.heap.size H.length
      rw [upd_same]
      have := h.size_lt hjb hoj
      omega
  · refine Step.turn e H.length hlk (fun j hj => get_append_ne hj) (fun j hj => upd_ne _ _ hj) (fun j hj => upd_ne _ _ hj) rfl rfl rfl (by simp) (by simp) (fun k hk _ => hold k hk) (fun b' _ _ => .inr ?_) (fun a ha => absurd rfl ha)
    show w.heap.size ≤ upd σ.mu H.length w.heap.size H.length
    rw [upd_same]; exact Nat.le_refl _

/-- Cells are made: what a new variable or a new row is. -/
theorem push_cells {lk : Nat} {σ : Sim} {H : List GB} {w : World} (h : WR σ H w) (hlk : lk ≤ H.length) (cs : List GV) (c : Array Value) (el : TypeId) (hc : PW σ H cs c.toList) :
    ∃ σ', WR σ' (H ++ [.cells cs]) (w.alloc (.cells c el)) ∧ Step lk σ H w σ' (H ++ [.cells cs]) (w.alloc (.cells c el)) ∧ Fixed (H ++ [.cells cs]) H.length ∧ σ'.mu H.length = w.heap.size := by
  have e := ext_push (σ := σ) (H := H) (b := .cells cs) w.heap.size undef
  obtain ⟨h1, h2⟩ := push_obj h hlk (.cells c el) (.cells cs) undef (by
    refine ⟨c, el, ?_, by simpa using hc.1, fun k h1 h2 => (hc.2 k h1 (by simpa using h2)).mono e, fun o s => ?_⟩
    · show (w.alloc (.cells c el)).heap[upd σ.mu H.length w.heap.size H.length]? = _
      rw [upd_same]; exact heap_alloc_new w _
    · show σ.imm ⟨upd σ.mu H.length w.heap.size H.length, o, s⟩ = none
      rw [upd_same]
      cases hi : σ.imm ⟨w.heap.size, o, s⟩ with
      | none => rfl
      | some v =>
        have := block_lt_of_cell (h.imm _ _ hi).2
        simp at this)
  exact ⟨_, h1, h2, ⟨.cells cs, get_append_same H _, rfl⟩, upd_same _ _ _⟩
end Go.Gh
namespace Go.Gh
open Go.RowKit

/-- The cells of a block come to rest. -/
def rest (i : Addr → Option Value) (b : Nat) (c : Array Value) : Addr → Option Value := fun a => if a.block = b ∧ a.spot = none ∧ a.off < c.size then c[a.off]? else i a
theorem rest_in {i : Addr → Option Value} {b : Nat} {c : Array Value} {o : Nat} (h : o < c.size) : rest i b c ⟨b, o, none⟩ = some c[o] := by
  simp [rest, h]
theorem rest_out {i : Addr → Option Value} {b : Nat} {c : Array Value} {a : Addr} (h : a.block ≠ b) : rest i b c a = i a := by
  simp [rest, h]

/-- Elements laid side by side in memory at rest read as a slice. -/
theorem DR.of_rest {im : Addr → Option Value} {es : List DV} {sz : Nat} (hs : ∀ e ∈ es, e.cells.length = sz) (b : Nat) (c : Array Value)
    (hi : ∀ k, k < (flat es).length → im ⟨b, k, none⟩ = some (c.getD k undef)) (hd : ∀ k (h : k < (flat es).length), DR im (flat es)[k] (c.getD k undef)) (cap : Nat) (hc : es.length ≤ cap) (hk : ∀ x ∈ flat es, DVcellOk x = true) :
    DR im (.list es) (.slice (some ⟨b, 0, none⟩) es.length cap) :=
  .list es sz ⟨b, 0, none⟩ cap (fun k => c.getD k undef) hc hs (fun k hk => by simpa using hi k hk) hd rfl hk

theorem push_rest {lk : Nat} {σ : Sim} {H : List GB} {w : World} (h : WR σ H w) (c : Array Value) (el : TypeId) :
    WR { σ with imm := rest σ.imm w.heap.size c } H (w.alloc (.cells c el)) ∧ Step lk σ H w { σ with imm := rest σ.imm w.heap.size c } H (w.alloc (.cells c el)) := by
  have hnone : ∀ a, a.block = w.heap.size → σ.imm a = none := fun a ha => by
    cases hi : σ.imm a with
    | none => rfl
    | some v => have := block_lt_of_cell (h.imm _ _ hi).2; omega
  have himm : ∀ a v, σ.imm a = some v → rest σ.imm w.heap.size c a = some v := fun a v hv => by
    rw [rest_out]; exact hv
    intro q; rw [hnone a q] at hv; cases hv
  have hold : ∀ k, k < w.heap.size → (w.alloc (.cells c el)).heap[k]? = w.heap[k]? := fun k hk => Below.heap_alloc w _ k hk
  constructor
  · refine h.carry rfl rfl himm (fun a v hv => ?_) fun id b hid ho => ⟨hold _ (h.size_lt hid ho), fun a ha => rest_out (by have := h.size_lt hid ho; omega)⟩
    · simp only [rest] at hv
      split at hv
      · rename_i hq
        obtain ⟨q1, q2, q3⟩ := hq
        refine ⟨q2, ?_⟩
        obtain ⟨blk, off, spot⟩ := a
        simp only at q1 q2 q3 hv
        subst q1 q2
        rw [World.cell?_alloc_new]; exact hv
      · obtain ⟨q1, q2⟩ := h.imm a v hv
        exact ⟨q1, (World.cell?_of_block (w := w) (hold a.block (block_lt_of_cell q2))).trans q2⟩
  · exact ⟨⟨fun _ hf => ⟨hf, rfl⟩, fun t L sz ht => ⟨L, ht, Nat.le_refl _, fun _ => rfl⟩, himm⟩, rfl, rfl, rfl, by simp, fun k hk _ => hold k hk, fun id b hb ho => .inl ⟨b, hb, ho, rfl⟩, fun _ _ => ⟨rfl, rfl, rfl⟩,
      fun a ha => .inl (by
        rcases Nat.lt_or_ge a.block w.heap.size with q | q
        · exact absurd (rest_out (by omega)) ha
        · exact q), Nat.le_refl _⟩

/-- The cells of one of the ghost machine's blocks are turned. -/
theorem turn_cells {lk : Nat} {σ : Sim} {H : List GB} {w : World} (h : WR σ H w) {id : Nat} (hlk : lk ≤ id) {cs : List GV} (hid : H[id]? = some (.cells cs)) (cs' : List GV) (c' : Array Value)
    (hpw : PW σ H cs' c'.toList) : WR σ (H.set id (.cells cs')) (w.setRow (σ.mu id) c') ∧ Step lk σ H w σ (H.set id (.cells cs')) (w.setRow (σ.mu id) c') := by
  have hlt : id < H.length := (List.getElem?_eq_some_iff.1 hid).1
  have hH : ∀ j, j ≠ id → (H.set id (.cells cs'))[j]? = H[j]? := fun j hj => List.getElem?_set_ne (Ne.symm hj)
  have hHs : (H.set id (.cells cs'))[id]? = some (.cells cs') := List.getElem?_set_self hlt
  have e : Ext σ H σ (H.set id (.cells cs')) := by
    refine ⟨fun j hf => ⟨?_, rfl⟩, fun t L sz ht => ⟨L, ?_, Nat.le_refl _, fun _ => rfl⟩, fun _ _ q => q⟩
    · by_cases hj : j = id
      · subst hj; exact ⟨_, hHs, rfl⟩
      · obtain ⟨b, hb, hbf⟩ := hf; exact ⟨b, by rw [hH j hj]; exact hb, hbf⟩
    · have hj : t ≠ id := by intro q; subst q; rw [hid] at ht; cases ht
      rw [hH t hj]; exact ht
  obtain ⟨c, el, hc1, hc2, hc3, hc4⟩ := h.blk id _ hid
  have hoth : ∀ k, k ≠ σ.mu id → (w.setRow (σ.mu id) c').heap[k]? = w.heap[k]? := fun k hk => setRow_other w _ k c' hk
  constructor
  · refine h.turn e id hH (fun _ _ => rfl) (fun _ _ => rfl) (fun a v hv => ?_) (fun j b hj hjb ho => ⟨hoth _ (h.inj j id b _ hjb hid ho trivial hj), fun _ _ => rfl⟩) (fun b hb => ?_) (fun b hb ho j bj hj hjb hoj => h.inj j id bj _ hjb hid hoj trivial hj)
    · obtain ⟨q1, q2⟩ := h.imm a v hv
      refine ⟨q1, (World.cell?_of_block (w := w) (hoth _ ?_)).trans q2⟩
      intro q
      obtain ⟨blk, off, sp⟩ := a
      simp only at q
      subst q
      rw [hc4] at hv; cases hv
    · rw [hHs] at hb; cases hb
      refine ⟨c', el, setRow_heap w _ c c' el (0, 0) hc1, by simpa using hpw.1, fun k h1 h2 => (hpw.2 k h1 (by simpa using h2)).mono e, hc4⟩
  · exact Step.turn e id hlk hH (fun _ _ => rfl) (fun _ _ => rfl) rfl rfl rfl (by simp) (by simp) (fun k hk hn => hoth k fun q => hn _ hid trivial q.symm) (fun b hb _ => .inl ⟨_, hid, trivial, rfl⟩) (fun a ha => absurd rfl ha)
end Go.Gh
namespace Go.Gh
open Go.RowKit

theorem WR.same {σ : Sim} {H : List GB} {w w' : World} (h : WR σ H w) (hh : w'.heap = w.heap) : WR σ H w' := by
  have hc : ∀ a, w'.cell? a = w.cell? a := fun a => by simp only [World.cell?, hh]
  exact h.carry rfl rfl (fun _ _ q => q) (fun a v hv => by rw [hc]; exact h.imm a v hv) fun id b _ _ => ⟨by rw [hh], fun _ _ => rfl⟩
theorem Step.same (lk : Nat) {σ : Sim} {H : List GB} {w w' : World} (hh : w'.heap = w.heap) (ho : w'.os = w.os) (ht : w'.tape = w.tape) (hu : w'.output = w.output) : Step lk σ H w σ H w' :=
  ⟨.refl σ H, ho, ht, hu, by rw [hh]; exact Nat.le_refl _, fun k _ _ => by rw [hh], fun id b h o => .inl ⟨b, h, o, rfl⟩, fun _ _ => ⟨rfl, rfl, rfl⟩, fun _ h => absurd rfl h, Nat.le_refl _⟩
theorem WR.drew {σ : Sim} {H : List GB} {w : World} (h : WR σ H w) : WR σ H w.drew := h.same rfl
theorem Step.drew (lk : Nat) (σ : Sim) (H : List GB) (w : World) : Step lk σ H w σ H w.drew := .same lk rfl rfl rfl rfl

/-- A token of a slice that has no room. -/
theorem push_tok {lk : Nat} {σ : Sim} {H : List GB} {w : World} (h : WR σ H w) (hlk : lk ≤ H.length) (a : Option Addr) (L sz : Nat) :
    WR { σ with tok := upd σ.tok H.length (.slice a L L) } (H ++ [.tail L sz]) w ∧ Step lk σ H w { σ with tok := upd σ.tok H.length (.slice a L L) } (H ++ [.tail L sz]) w := by
  have e : Ext σ H { σ with tok := upd σ.tok H.length (.slice a L L) } (H ++ [.tail L sz]) := by
    refine ⟨fun id hf => ?_, fun t L sz ht => ?_, fun _ _ h => h⟩
    · obtain ⟨c, hc, hfc⟩ := hf
      have hlt : id < H.length := (List.getElem?_eq_some_iff.1 hc).1
      exact ⟨⟨c, by rw [get_append_ne (by omega)]; exact hc, hfc⟩, rfl⟩
    · have hlt : t < H.length := (List.getElem?_eq_some_iff.1 ht).1
      exact ⟨L, by rw [get_append_ne (by omega)]; exact ht, Nat.le_refl _, fun _ => upd_ne _ _ (by omega)⟩
  have no : ¬ Own { σ with tok := upd σ.tok H.length (.slice a L L) } H.length (.tail L sz) := by
    rintro ⟨a', c', h1, h2⟩
    simp only [upd_same] at h1
    injection h1 with _ _ e3
    omega
  constructor
  · refine h.turn e H.length (fun j hj => get_append_ne hj) (fun _ _ => rfl) (fun j hj => upd_ne _ _ hj) h.imm (fun _ _ _ _ _ => ⟨rfl, fun _ _ => rfl⟩) (fun b hb => ?_) (fun b hb ho => ?_)
    · rw [get_append_same] at hb; cases hb
      exact ⟨a, L, upd_same _ _ _, Nat.le_refl _, fun q => by omega⟩
    · rw [get_append_same] at hb; cases hb; exact absurd ho no
  · refine Step.turn e H.length hlk (fun j hj => get_append_ne hj) (fun _ _ => rfl) (fun j hj => upd_ne _ _ hj) rfl rfl rfl (Nat.le_refl _) (by simp) (fun k hk _ => rfl) (fun b hb ho => ?_) (fun a ha => absurd rfl ha)
    rw [get_append_same] at hb; cases hb; exact absurd ho no

/-- What has been appended: the cells come to rest, the room behind them is the token's. -/
theorem tail_row {σ : Sim} {H : List GB} {w : World} (h : WR σ H w) {es : List DV} {sz : Nat} (hs : ∀ e ∈ es, e.cells.length = sz) (hok : ∀ x ∈ flat es, DVcellOk x = true) (c : Array Value) (el : TypeId) (cap : Nat) (hcap : es.length ≤ cap)
    (hsize : cap * sz ≤ c.size) (hd : ∀ k (h : k < (flat es).length), DR σ.imm (flat es)[k] (c.getD k undef)) (t : Nat) (lk : Nat) (hlk : lk ≤ t) (H' : List GB) (hH : ∀ j, j ≠ t → H'[j]? = H[j]?) (hlen : H.length ≤ H'.length)
    (hH' : H'[t]? = some (.tail es.length sz)) (hold : H[t]? = none ∨ ∃ L, H[t]? = some (.tail L sz) ∧ L < es.length) (w' : World) (hh : w'.heap = w.heap.push (.cells c el)) (ho : w'.os = w.os) (ht : w'.tape = w.tape) (hu : w'.output = w.output) :
    ∃ σ', WR σ' H' w' ∧ Step lk σ H w σ' H' w' ∧ GR σ' H' (.tl es t) (.slice (some ⟨w.heap.size, 0, none⟩) es.length cap) := by
  have hfl := flat_len hs
  have hle : es.length * sz ≤ c.size := Nat.le_trans (Nat.mul_le_mul_right sz hcap) hsize
  have hnone : ∀ a, a.block = w.heap.size → σ.imm a = none := fun a ha => by
    cases hi : σ.imm a with
    | none => rfl
    | some v => have := block_lt_of_cell (h.imm _ _ hi).2; omega
  let c0 : Array Value := c.extract 0 (es.length * sz)
  have hc0 : c0.size = es.length * sz := by simp [c0]; omega
  let σ' : Sim := { mu := upd σ.mu t w.heap.size, imm := rest σ.imm w.heap.size c0, tok := upd σ.tok t (.slice (some ⟨w.heap.size, 0, none⟩) es.length cap) }
  have himm : ∀ a v, σ.imm a = some v → σ'.imm a = some v := fun a v hv => by
    show rest σ.imm w.heap.size c0 a = some v
    rw [rest_out]; exact hv
    intro q; rw [hnone a q] at hv; cases hv
  have hold' : ∀ k, k < w.heap.size → w'.heap[k]? = w.heap[k]? := fun k hk => by
    rw [hh, Array.getElem?_push, if_neg (by omega)]
  have hnew : w'.heap[w.heap.size]? = some (.cells c el) := by rw [hh]; simp
  have e : Ext σ H σ' H' := by
    refine ⟨fun id hf => ?_, fun t' L sz' ht' => ?_, himm⟩
    · obtain ⟨b, hb, hbf⟩ := hf
      have hne : id ≠ t := by
        intro q; subst q
        rcases hold with q | ⟨L, q, _⟩
        · rw [q] at hb; cases hb
        · rw [q] at hb; cases hb; simp [fixedB] at hbf
      exact ⟨⟨b, by rw [hH id hne]; exact hb, hbf⟩, upd_ne _ _ hne⟩
    · by_cases hne : t' = t
      · subst hne
        rcases hold with q | ⟨L0, q, hl⟩
        · rw [q] at ht'; cases ht'
        · rw [q] at ht'; cases ht'
          exact ⟨es.length, hH', by omega, fun q => by omega⟩
      · exact ⟨L, by rw [hH t' hne]; exact ht', Nat.le_refl _, fun _ => upd_ne _ _ hne⟩
  have own : ∀ b, H'[t]? = some b → Own σ' t b → es.length < cap := fun b hb hob => by
    rw [hH'] at hb; cases hb
    obtain ⟨a', c', h1, h2⟩ := hob
    simp only [σ', upd_same] at h1
    injection h1 with _ _ e3
    omega
  have hcell : ∀ k, k < es.length * sz → (rest σ.imm w.heap.size c0) ⟨w.heap.size, k, none⟩ = some (c.getD k undef) := fun k hk => by
    rw [rest_in (by omega)]
    simp only [c0, Array.getElem_extract, Nat.zero_add, Array.getD]
    rw [dif_pos (by omega)]
    rfl
  refine ⟨σ', h.turn e t hH (fun j hj => upd_ne _ _ hj) (fun j hj => upd_ne _ _ hj) (fun a v hv => ?_) (fun j b hj hjb hob => ⟨hold' _ (h.size_lt hjb hob), fun a ha => rest_out (by have := h.size_lt hjb hob; omega)⟩)
    (fun b hb => ?_) (fun b hb hob j bj hj hjb hoj => ?_), ?_, ?_⟩
  · have hv' : rest σ.imm w.heap.size c0 a = some v := hv
    simp only [rest] at hv'
    split at hv'
    · rename_i hq
      obtain ⟨q1, q2, q3⟩ := hq
      refine ⟨q2, ?_⟩
      obtain ⟨blk, off, spot⟩ := a
      simp only at q1 q2 q3 hv'
      subst q1 q2
      simp only [World.cell?, hnew]
      have : off < es.length * sz := by omega
      simp only [Option.isSome_none, Bool.false_eq_true, if_false]
      rw [← hv']
      simp [c0, Array.getElem?_extract, hle, this]
    · obtain ⟨q1, q2⟩ := h.imm a v hv'
      exact ⟨q1, (World.cell?_of_block (w := w) (hold' a.block (block_lt_of_cell q2))).trans q2⟩
  · rw [hH'] at hb; cases hb
    refine ⟨some ⟨w.heap.size, 0, none⟩, cap, upd_same _ _ _, hcap, fun _ => ⟨?_, ⟨c, el, ?_, hsize⟩, fun o s hos => ?_⟩⟩
    · show some (⟨w.heap.size, 0, none⟩ : Addr) = some (⟨upd σ.mu t w.heap.size t, 0, none⟩ : Addr)
      rw [upd_same]
    · show w'.heap[upd σ.mu t w.heap.size t]? = _
      rw [upd_same]; exact hnew
    · show rest σ.imm w.heap.size c0 ⟨upd σ.mu t w.heap.size t, o, s⟩ = none
      rw [upd_same]
      simp only [rest]
      rw [if_neg (by simp; intro _; omega)]
      exact hnone _ rfl
  · show σ.mu j ≠ upd σ.mu t w.heap.size t
    rw [upd_same]
    have := h.size_lt hjb hoj
    omega
  · refine Step.turn e t hlk hH (fun j hj => upd_ne _ _ hj) (fun j hj => upd_ne _ _ hj) ho ht hu (by rw [hh]; simp) hlen (fun k hk _ => hold' k hk) (fun b hb hob => .inr ?_) (fun a ha => .inl ?_)
    · show w.heap.size ≤ upd σ.mu t w.heap.size t
      rw [upd_same]; exact Nat.le_refl _
    · rcases Nat.lt_or_ge a.block w.heap.size with q | q
      · exact absurd (rest_out (by omega)) ha
      · exact q
  · refine .tl es t es.length sz _ hH' (Nat.le_refl _) (.of_rest hs w.heap.size c (fun k hk => hcell k (by omega)) (fun k hk => (hd k hk).mono himm) cap hcap hok) (fun _ => ?_) hs
    show _ = upd σ.tok t _ t
    rw [upd_same]
end Go.Gh
namespace Go.Gh
open Go.RowKit

theorem append_grow_run {P : Program} {ts : Array TypeId} {sT xT ty e e' : TypeId} {i : TypeInfo} {z : Value} (ht0 : ts[0]? = some sT) (ht1 : ts[1]? = some xT) (hs : P.underlying sT = some (.slice e)) (hx : P.underlying xT = some (.slice e'))
    (hi : P.info? e = some i) (hz : i.zero = some z) {w : World} {base ax : Option Addr} {sLen sCap n cx : Nat} {olds news : Array Value}
    (ho : (Builtin.firstCells i.size sLen (.slice base sLen sCap)).run P w.drew = .ok olds w.drew) (hn : (Builtin.firstCells i.size n (.slice ax n cx)).run P w.drew = .ok news w.drew)
    (hg : sCap < sLen + n) (h63 : ((sLen + n : Nat) : Int) ≤ 9223372036854775807) (hfit : Builtin.nextslicecap (sLen + n) sCap * i.bytes ≤ 281474976710656) :
    (Builtin.append_ ts ty #[.slice base sLen sCap, .slice ax n cx]).run P w =
      .ok (.slice (some ⟨w.heap.size, 0, none⟩) (sLen + n) (grownCap w (sLen + n) sCap e))
        (w.drew.alloc (.cells (olds ++ news ++ Builtin.zeroCells z.cells (grownCap w (sLen + n) sCap e - (sLen + n))) e)) := by
  have hn' : ¬ (sLen + n ≤ sCap) := by omega
  have h63' : ¬ (9223372036854775807 < ((sLen : Int) + (n : Int))) := by omega
  have h48' : ¬ (281474976710656 < Builtin.nextslicecap (sLen + n) sCap * i.bytes) := by omega
  have hus : ∀ w, (underlying sT).run P w = .ok (.slice e) w := fun w => by simp [underlying, hs]
  have hux : ∀ w, (underlying xT).run P w = .ok (.slice e') w := fun w => by simp [underlying, hx]
  simp [Builtin.append_, ht0, ht1, hus, hux, sizeOf, typeInfo, zeroValue, hi, hz, Builtin.lenOf, hn', h63', h48', Question.forced, ho, hn, newRow, grownCap]

theorem append_room_run {P : Program} {ts : Array TypeId} {sT xT ty e e' : TypeId} {i : TypeInfo} {z : Value} (ht0 : ts[0]? = some sT) (ht1 : ts[1]? = some xT) (hs : P.underlying sT = some (.slice e)) (hx : P.underlying xT = some (.slice e'))
    (hi : P.info? e = some i) (hz : i.zero = some z) {w : World} {base ax : Option Addr} {sLen sCap n cx : Nat} {news : Array Value}
    (hn : (Builtin.firstCells i.size n (.slice ax n cx)).run P w = .ok news w) (hg : sLen + n ≤ sCap) :
    (Builtin.append_ ts ty #[.slice base sLen sCap, .slice ax n cx]).run P w =
      match base with
      | none => .ok (.slice none (sLen + n) sCap) w
      | some a => ((storeCells (a.add (sLen * i.size)) news.toList).run P w).andThen fun _ w' => .ok (.slice (some a) (sLen + n) sCap) w' := by
  have hus : ∀ w, (underlying sT).run P w = .ok (.slice e) w := fun w => by simp [underlying, hs]
  have hux : ∀ w, (underlying xT).run P w = .ok (.slice e') w := fun w => by simp [underlying, hx]
  cases base <;> simp [Builtin.append_, ht0, ht1, hus, hux, sizeOf, typeInfo, hi, Builtin.lenOf, hg, hn]

/-- The cells of a slice at rest. -/
theorem DR.firstCells {P : Program} {im : Addr → Option Value} {es : List DV} {v : Value} (h : DR im (.list es) v) {sz : Nat} (hok : szOk sz es = true) :
    ∃ a c, v = .slice a es.length c ∧ ∃ cs : Array Value, cs.size = (flat es).length ∧ (∀ k (h : k < (flat es).length), DR im (flat es)[k] (cs.getD k undef)) ∧
      ∀ w : World, (∀ a v, im a = some v → w.cell? a = some v) → (Builtin.firstCells sz es.length v).run P w = .ok cs w := by
  cases h with
  | nil a c =>
    refine ⟨a, c, rfl, #[], rfl, fun k h => by simp [flat] at h, fun w _ => ?_⟩
    cases a with
    | none => simp [Builtin.firstCells]
    | some a => simp [Builtin.firstCells, loadCells, loadCellsFrom]
  | list _ sz' A c vals hc hsz hi hd hA =>
    refine ⟨some A, c, rfl, ((List.range (flat es).length).map vals).toArray, by simp, fun k h => ?_, fun w hw => ?_⟩
    · have := hd k h
      simpa [Array.getD, h] using this
    · by_cases hne : es = []
      · subst hne; simp [Builtin.firstCells, loadCells, loadCellsFrom, flat]
      · have e : sz = sz' := szOk_eq hok hsz hne
        subst e
        have hfl := flat_len hsz
        have := run_loadCells (P := P) w A (es.length * sz) vals (fun j hj => by rw [add_of hA]; exact hw _ _ (hi j (by omega)))
        simp only [Builtin.firstCells, this, hfl]

theorem DR.listOk {im : Addr → Option Value} {es : List DV} {v : Value} (h : DR im (.list es) v) : ∀ x ∈ flat es, DVcellOk x = true := by
  cases h with
  | nil => simp [flat]
  | list _ sz A c vals hc hsz hi hd ha hk => exact hk
theorem szOk_all {im : Addr → Option Value} {es : List DV} {v : Value} (h : DR im (.list es) v) {n : Nat} (hok : szOk n es = true) : ∀ e ∈ es, e.cells.length = n := by
  cases h with
  | nil => simp
  | list _ sz A c vals hc hsz =>
    intro e he
    have : n = sz := szOk_eq hok hsz (by intro q; subst q; simp at he)
    rw [this]; exact hsz e he

theorem toD1_sound {σ : Sim} {H : List GB} {x : GV} {y : DV} {v : Value} (h : toD1 x = some y) (g : GR σ H x v) : DR σ.imm y v := by
  unfold toD1 at h
  split at h <;> cases h
  · cases g with | d _ _ h => exact h
  · cases g with | xl _ _ h => exact h
  · cases g with | tl _ _ _ _ _ _ _ h _ _ => exact h
theorem toDs_sound {σ : Sim} {H : List GB} : ∀ {l : List GV} {ys : List DV} {vs : List Value}, toDs l = some ys → PW σ H l vs → ys.length = l.length ∧ ∀ k (h1 : k < ys.length) (h2 : k < vs.length), DR σ.imm ys[k] vs[k]
  | [], ys, vs, h, hp => by simp only [toDs, Option.some.injEq] at h; subst h; exact ⟨rfl, fun k h1 => by simp at h1⟩
  | x :: r, ys, [], h, hp => by have := hp.1; simp at this
  | x :: r, ys, v :: vs, h, hp => by
    simp only [toDs] at h
    split at h
    · rename_i y hy
      split at h
      · rename_i ys' hys; cases h
        obtain ⟨h1, h2⟩ := toDs_sound hys (vs := vs) ⟨by have := hp.1; simpa using this, fun k a b => by have := hp.2 (k + 1) (by simpa using a) (by simpa using b); simpa using this⟩
        refine ⟨by simp [h1], fun k a b => ?_⟩
        cases k with
        | zero => exact toD1_sound hy (hp.2 0 (by simp) (by simp))
        | succ k => simpa using h2 k (by simpa using a) (by simpa using b)
      · cases h
    · cases h

theorem DVcellOk_cells {x : DV} (h : DVcellOk x = true) : x.cells = [x] := by cases x <;> first | rfl | simp [DVcellOk] at h
theorem chunk_ok {sz : Nat} {agg : Bool} (hone : agg = false → sz = 1) : ∀ (n : Nat) (l : List DV), l.length = n * sz → l.all DVcellOk = true →
    (chunk sz agg n l).length = n ∧ (∀ e ∈ chunk sz agg n l, e.cells.length = sz) ∧ flat (chunk sz agg n l) = l
  | 0, l, hl, _ => by
    have : l = [] := List.eq_nil_of_length_eq_zero (by simpa using hl)
    subst this
    simp [chunk, flat]
  | n + 1, l, hl, hok => by
    rw [Nat.succ_mul] at hl
    obtain ⟨h1, h2, h3⟩ := chunk_ok hone n (l.drop sz) (by simp; omega) (by
      rw [List.all_eq_true] at hok ⊢
      exact fun x hx => hok x (List.mem_of_mem_drop hx))
    have hhead : (bif agg then DV.agg (l.take sz) else (l.head?.getD (.lit nilS))).cells = l.take sz := by
      cases agg with
      | true => rfl
      | false =>
        have hsz := hone rfl
        subst hsz
        cases l with
        | nil => simp at hl
        | cons x r =>
          simp only [cond_false, List.head?_cons, Option.getD_some, List.take_succ_cons, List.take_zero]
          exact DVcellOk_cells (by simp at hok; exact hok.1)
    refine ⟨by simp [chunk, h1], fun e he => ?_, ?_⟩
    · simp only [chunk, List.mem_cons] at he
      rcases he with rfl | he
      · rw [hhead]; simp; omega
      · exact h2 e he
    · simp only [chunk, flat, List.flatMap_cons] at h3 ⊢
      rw [hhead, h3, List.take_append_drop]

theorem srcOf_sound {P : Program} {σ : Sim} {H : List GB} {w : World} (hw : WR σ H w) {ti : TI} (hone : ti.agg = false → ti.size = 1) {x : GV} {v : Value} (hx : GR σ H x v) {xs : List DV}
    (h : srcOf H ti x = some xs) (hok : szOk ti.size xs = true) :
    ∃ a c, v = .slice a xs.length c ∧ ∃ cs : Array Value, cs.size = (flat xs).length ∧ (∀ k (h : k < (flat xs).length), DR σ.imm (flat xs)[k] (cs.getD k undef)) ∧
      (∀ w' : World, w'.heap = w.heap → (Builtin.firstCells ti.size xs.length v).run P w' = .ok cs w') ∧ (∀ q ∈ xs, q.cells.length = ti.size) ∧ ∀ q ∈ flat xs, DVcellOk q = true := by
  unfold srcOf at h
  split at h
  · rename_i g id off n cap
    split at h
    · rename_i cs hcs
      simp only [Bool.cond_eq_ite] at h
      split at h
      · rename_i hle
        simp only [Nat.ble_eq] at hle
        split at h
        · rename_i l hl
          split at h
          · rename_i hall; cases h
            obtain ⟨c, el, hb1, hb2, hb3, _⟩ := hw.blk id _ hcs
            cases hx with
            | slc _ _ _ _ A cc hf hc ha hm =>
              have hpw : PW σ H cs c.toList := ⟨by simpa using hb2, fun k h1 h2 => hb3 k h1 (by simpa using h2)⟩
              obtain ⟨q1, q2⟩ := toDs_sound hl ((hpw.drop off).take (n * ti.size))
              have hlen : l.length = n * ti.size := by rw [q1]; simp; omega
              obtain ⟨r1, r2, r3⟩ := chunk_ok hone n l hlen hall
              refine ⟨some A, cc, by rw [r1], ((c.toList.drop off).take (n * ti.size)).toArray, ?_, fun k hk => ?_, fun w' hw' => ?_, r2, by rw [r3]; exact fun q hq => List.all_eq_true.1 hall q hq⟩
              · rw [r3, hlen]; simp; omega
              · have hk' : k < l.length := by rw [r3] at hk; exact hk
                have := q2 k hk' (by simp; omega)
                have e : (flat (chunk ti.size ti.agg n l))[k] = l[k] := by simp only [r3]
                rw [e]
                simp only [Array.getD, List.size_toArray, List.length_take, List.length_drop, Array.length_toList]
                rw [dif_pos (by omega)]
                simpa using this
              · rw [r1]
                by_cases hz : n * ti.size = 0
                · simp [Builtin.firstCells, loadCells, loadCellsFrom, hz]
                · have hn0 : 0 < n := by
                    rcases Nat.eq_zero_or_pos n with q | q
                    · subst q; simp at hz
                    · exact q
                  have hA := ha (by omega)
                  subst hA
                  have hlen2 : ((c.toList.drop off).take (n * ti.size)).length = n * ti.size := by simp; omega
                  refine run_firstCells_some w' ti.size n _ n cc _ hlen2 fun j v hj => ?_
                  rw [add_none]
                  have hj' : j < n * ti.size := by rw [← hlen2]; exact (List.getElem?_eq_some_iff.1 hj).1
                  rw [List.getElem?_take_of_lt hj', List.getElem?_drop] at hj
                  simp only [World.cell?, hw', hb1]
                  simpa using hj
          · cases h
        · cases h
      · cases h
    · cases h
  · obtain ⟨a, c, h1, cs, h2, h3, h4⟩ := (hx.list h).firstCells (P := P) hok
    refine ⟨a, c, h1, cs, h2, h3, fun w' hw' => h4 w' fun a v hv => ?_, szOk_all (hx.list h) hok, (hx.list h).listOk⟩
    have := (hw.imm a v hv).2
    simpa only [World.cell?, hw'] using this
end Go.Gh
namespace Go.Gh
open Go.RowKit

theorem tail_room {lk : Nat} {σ : Sim} {H : List GB} {w : World} (hw : WR σ H w) {t sz c : Nat} (hlk : lk ≤ t) {es xs : List DV} (ht : H[t]? = some (.tail es.length sz))
    (htok : σ.tok t = .slice (some ⟨σ.mu t, 0, none⟩) es.length c) (hes : DR σ.imm (.list es) (σ.tok t)) (hse : ∀ e ∈ es, e.cells.length = sz) (hsx : ∀ e ∈ xs, e.cells.length = sz)
    (hlt : es.length < c) (hroom : es.length + xs.length ≤ c)
    {cs : Array Value} {el : TypeId} (hblk : w.heap[σ.mu t]? = some (.cells cs el (0, 0))) (hsize : c * sz ≤ cs.size) (hfree : ∀ o s, es.length * sz ≤ o → σ.imm ⟨σ.mu t, o, s⟩ = none)
    (hkx : ∀ x ∈ flat xs, DVcellOk x = true) (news : Array Value) (hns : news.size = (flat xs).length) (hnd : ∀ k (h : k < (flat xs).length), DR σ.imm (flat xs)[k] (news.getD k undef)) :
    ∃ σ', WR σ' (H.set t (.tail (es.length + xs.length) sz)) (w.setRow (σ.mu t) (cs.toList.take (es.length * sz) ++ news.toList ++ cs.toList.drop (es.length * sz + news.toList.length)).toArray) ∧
      Step lk σ H w σ' (H.set t (.tail (es.length + xs.length) sz)) (w.setRow (σ.mu t) (cs.toList.take (es.length * sz) ++ news.toList ++ cs.toList.drop (es.length * sz + news.toList.length)).toArray) ∧
      GR σ' (H.set t (.tail (es.length + xs.length) sz)) (.tl (es ++ xs) t) (.slice (some ⟨σ.mu t, 0, none⟩) (es.length + xs.length) c) := by
  have hfx := flat_len hsx
  have hfe := flat_len hse
  have hsum : (es.length + xs.length) * sz ≤ cs.size := Nat.le_trans (Nat.mul_le_mul_right sz hroom) hsize
  rw [Nat.add_mul] at hsum
  generalize hC : (cs.toList.take (es.length * sz) ++ news.toList ++ cs.toList.drop (es.length * sz + news.toList.length)).toArray = C
  have hnl : news.toList.length = xs.length * sz := by simp; omega
  have hCs : C.size = cs.size := by rw [← hC]; simp; omega
  have hC1 : ∀ k, k < es.length * sz → C[k]? = cs[k]? := fun k hk => by
    rw [← hC]
    simp only [List.getElem?_toArray, List.append_assoc]
    rw [List.getElem?_append_left (by simp; omega), List.getElem?_take_of_lt hk]
    simp
  have hC2 : ∀ k, k < xs.length * sz → C[es.length * sz + k]? = news[k]? := fun k hk => by
    rw [← hC]
    simp only [List.getElem?_toArray, List.append_assoc]
    rw [List.getElem?_append_right (by simp; omega)]
    have : (cs.toList.take (es.length * sz)).length = es.length * sz := by simp; omega
    rw [this, Nat.add_sub_cancel_left, List.getElem?_append_left (by omega)]
    simp
  let imm' : Addr → Option Value := fun a => if a.block = σ.mu t ∧ a.spot = none ∧ es.length * sz ≤ a.off ∧ a.off < es.length * sz + xs.length * sz then C[a.off]? else σ.imm a
  let σ' : Sim := { mu := σ.mu, imm := imm', tok := upd σ.tok t (.slice (some ⟨σ.mu t, 0, none⟩) (es.length + xs.length) c) }
  have hlt' : t < H.length := (List.getElem?_eq_some_iff.1 ht).1
  have hH : ∀ j, j ≠ t → (H.set t (.tail (es.length + xs.length) sz))[j]? = H[j]? := fun j hj => List.getElem?_set_ne (Ne.symm hj)
  have hHs : (H.set t (.tail (es.length + xs.length) sz))[t]? = some (.tail (es.length + xs.length) sz) := List.getElem?_set_self hlt'
  have himm : ∀ a v, σ.imm a = some v → imm' a = some v := fun a v hv => by
    show (if _ then _ else _) = _
    rw [if_neg]
    · exact hv
    · rintro ⟨q1, q2, q3, _⟩
      obtain ⟨b, o, s⟩ := a
      simp only at q1 q2 q3
      subst q1 q2
      rw [hfree o none q3] at hv; cases hv
  have hout : ∀ a, a.block ≠ σ.mu t → imm' a = σ.imm a := fun a ha => by
    show (if _ then _ else _) = _
    rw [if_neg (fun q => ha q.1)]
  have hown : Own σ t (.tail es.length sz) := ⟨_, c, htok, hlt⟩
  have e : Ext σ H σ' (H.set t (.tail (es.length + xs.length) sz)) := by
    refine ⟨fun j hf => ⟨?_, rfl⟩, fun t' L sz' hL => ?_, himm⟩
    · obtain ⟨b, hb, hbf⟩ := hf
      have hne : j ≠ t := by intro q; subst q; rw [ht] at hb; cases hb; simp [fixedB] at hbf
      exact ⟨b, by rw [hH j hne]; exact hb, hbf⟩
    · by_cases hne : t' = t
      · subst hne
        rw [ht] at hL; cases hL
        refine ⟨_, hHs, by omega, fun q => ?_⟩
        show upd σ.tok t' _ t' = σ.tok t'
        rw [upd_same, htok, q]
      · exact ⟨L, by rw [hH t' hne]; exact hL, Nat.le_refl _, fun _ => upd_ne _ _ hne⟩
  have hoth : ∀ k, k ≠ σ.mu t → (w.setRow (σ.mu t) C).heap[k]? = w.heap[k]? := fun k hk => setRow_other w _ k C hk
  have hnew : (w.setRow (σ.mu t) C).heap[σ.mu t]? = some (.cells C el (0, 0)) := setRow_heap w _ cs C el (0, 0) hblk
  refine ⟨σ', hw.turn e t hH (fun _ _ => rfl) (fun j hj => upd_ne _ _ hj) (fun a v hv => ?_) (fun j b hj hjb ho => ?_) (fun b hb => ?_) (fun b hb ho j bj hj hjb hoj => hw.inj j t bj _ hjb ht hoj hown hj), ?_, ?_⟩
  · have hv' : imm' a = some v := hv
    by_cases hq : a.block = σ.mu t ∧ a.spot = none ∧ es.length * sz ≤ a.off ∧ a.off < es.length * sz + xs.length * sz
    · have : imm' a = C[a.off]? := if_pos hq
      rw [this] at hv'
      refine ⟨hq.2.1, ?_⟩
      simp only [World.cell?, hq.1, hnew, hq.2.1]
      simpa using hv'
    · have : imm' a = σ.imm a := if_neg hq
      rw [this] at hv'
      obtain ⟨q1, q2⟩ := hw.imm a v hv'
      refine ⟨q1, ?_⟩
      by_cases hbk : a.block = σ.mu t
      · obtain ⟨b, o, s⟩ := a
        simp only at hbk q1
        subst hbk q1
        have ho : o < es.length * sz := by
          rcases Nat.lt_or_ge o (es.length * sz) with q | q
          · exact q
          · rw [hfree o none q] at hv'; cases hv'
        simp only [World.cell?, hblk] at q2
        simp only [World.cell?, hnew]
        simp only [Option.isSome_none, Bool.false_eq_true, if_false] at q2 ⊢
        rw [hC1 o ho]; exact q2
      · exact (World.cell?_of_block (w := w) (hoth a.block hbk)).trans q2
  · have hne := hw.inj j t b _ hjb ht ho hown hj
    exact ⟨hoth _ hne, fun a ha => hout a (by rw [ha]; exact hne)⟩
  · rw [hHs] at hb; cases hb
    refine ⟨some ⟨σ.mu t, 0, none⟩, c, upd_same _ _ _, hroom, fun _ => ⟨rfl, ⟨C, el, hnew, by omega⟩, fun o s ho => ?_⟩⟩
    rw [Nat.add_mul] at ho
    show (if _ then _ else _) = _
    rw [if_neg (by simp; intro _ _; omega)]
    exact hfree o s (by omega)
  · refine Step.turn e t hlk hH (fun _ _ => rfl) (fun j hj => upd_ne _ _ hj) rfl rfl rfl (by simp) (by simp) (fun k hk hn => hoth k fun q => hn _ ht hown q.symm) (fun b hb _ => .inl ⟨_, ht, hown, rfl⟩) (fun a ha => .inr ⟨_, ht, hown, ?_⟩)
    by_cases hbk : a.block = σ.mu t
    · exact hbk.symm
    · exact absurd (hout a hbk) ha
  · have hlen : (es ++ xs).length = es.length + xs.length := by simp
    have hall : ∀ e ∈ es ++ xs, e.cells.length = sz := fun e he => by
      rcases List.mem_append.1 he with q | q
      · exact hse e q
      · exact hsx e q
    rw [← hlen]
    have hfa : flat (es ++ xs) = flat es ++ flat xs := flat_append es xs
    have hold : ∀ k (hk : k < (flat es).length), ∃ v, σ.imm ⟨σ.mu t, k, none⟩ = some v ∧ C.getD k undef = v ∧ DR σ.imm (flat es)[k] v := fun k hk => by
      rw [htok] at hes
      cases hes with
      | nil => simp [flat] at hk
      | list _ sz' A _ vals hc' hsz' hi' hd' hA =>
        have h1 := hi' k hk
        simp only [Nat.zero_add] at h1
        refine ⟨vals k, h1, ?_, hd' k hk⟩
        have h2 := (hw.imm _ _ h1).2
        simp only [World.cell?, hblk] at h2
        simp only [Option.isSome_none, Bool.false_eq_true, if_false] at h2
        have h3 := hC1 k (by omega)
        rw [h2] at h3
        simp [Array.getD_eq_getD_getElem?, h3]
    refine .tl (es ++ xs) t (es ++ xs).length sz _ (by rw [hlen]; exact hHs) (Nat.le_refl _) (.of_rest (sz := sz) hall (σ.mu t) C (fun k hk => ?_) (fun k hk => ?_) c (by omega) (fun x hx => by
      rw [hfa] at hx
      rcases List.mem_append.1 hx with q | q
      · exact hes.listOk x q
      · exact hkx x q)) (fun _ => ?_) hall
    · rw [hfa, List.length_append] at hk
      by_cases hke : k < (flat es).length
      · obtain ⟨v, h1, h2, _⟩ := hold k hke
        rw [h2]; exact himm _ _ h1
      · show (if _ then _ else _) = _
        rw [if_pos ⟨rfl, rfl, by simp; omega, by simp; omega⟩]
        simp only
        rw [Array.getElem?_eq_getElem (by omega)]
        simp [Array.getD, show k < C.size by omega]
    · by_cases hke : k < (flat es).length
      · obtain ⟨v, h1, h2, h3⟩ := hold k hke
        rw [h2]
        have : (flat (es ++ xs))[k] = (flat es)[k] := by simp only [hfa]; rw [List.getElem_append_left hke]
        rw [this]; exact h3.mono himm
      · have hk' : k - (flat es).length < (flat xs).length := by rw [hfa, List.length_append] at hk; omega
        have : (flat (es ++ xs))[k] = (flat xs)[k - (flat es).length] := by simp only [hfa]; rw [List.getElem_append_right (by omega)]
        rw [this]
        have h2 := hC2 (k - (flat es).length) (by omega)
        rw [show es.length * sz + (k - (flat es).length) = k by omega] at h2
        have h3 := (hnd (k - (flat es).length) hk').mono himm
        rw [Array.getD_eq_getD_getElem?, h2, ← Array.getD_eq_getD_getElem?]
        exact h3
    · show _ = upd σ.tok t _ t
      rw [upd_same, hlen]
end Go.Gh
namespace Go.Gh
open Go.RowKit

theorem grow_tail {P : Program} {lk : Nat} {σ : Sim} {H : List GB} {w : World} (hw : WR σ H w) {ts : Array TypeId} {sT xT ty e e' : TypeId} {i : TypeInfo} {z : Value} (ht0 : ts[0]? = some sT) (ht1 : ts[1]? = some xT)
    (hs : P.underlying sT = some (.slice e)) (hx : P.underlying xT = some (.slice e')) (hi : P.info? e = some i) (hz : i.zero = some z) (hzs : z.cells.size = i.size)
    {base ax : Option Addr} {sCap cx : Nat} {es xs : List DV} (hes : DR σ.imm (.list es) (.slice base es.length sCap)) (hxs : DR σ.imm (.list xs) (.slice ax xs.length cx) ∨ True)
    (hse : ∀ e ∈ es, e.cells.length = i.size) (hsx : ∀ e ∈ xs, e.cells.length = i.size) (hoke : szOk i.size es = true)
    (hkx : ∀ x ∈ flat xs, DVcellOk x = true) (news : Array Value) (hns : news.size = (flat xs).length) (hnd : ∀ k (h : k < (flat xs).length), DR σ.imm (flat xs)[k] (news.getD k undef))
    (hnr : ∀ w' : World, w'.heap = w.heap → (Builtin.firstCells i.size xs.length (.slice ax xs.length cx)).run P w' = .ok news w')
    (hg : sCap < es.length + xs.length) (hb1 : 1 ≤ i.bytes) (hfit : (es.length + xs.length) * i.bytes ≤ 140737488355328)
    (t : Nat) (hlk : lk ≤ t) (H' : List GB) (hH : ∀ j, j ≠ t → H'[j]? = H[j]?) (hlen : H.length ≤ H'.length)
    (hH' : H'[t]? = some (.tail (es ++ xs).length i.size)) (hold : H[t]? = none ∨ ∃ L, H[t]? = some (.tail L i.size) ∧ L < (es ++ xs).length) :
    ∃ c w' σ', (Builtin.append_ ts ty #[.slice base es.length sCap, .slice ax xs.length cx]).run P w = .ok c w' ∧ WR σ' H' w' ∧ Step lk σ H w σ' H' w' ∧ GR σ' H' (.tl (es ++ xs) t) c := by
  obtain ⟨a0, c0, hv0, olds, ho1, ho2, ho3⟩ := hes.firstCells (P := P) hoke
  have hlen63 : es.length + xs.length ≤ 140737488355328 := by
    have : (es.length + xs.length) * 1 ≤ (es.length + xs.length) * i.bytes := Nat.mul_le_mul_left _ hb1
    omega
  have hrun := append_grow_run (P := P) (ts := ts) (ty := ty) ht0 ht1 hs hx hi hz (w := w) (base := base) (ax := ax) (sLen := es.length) (sCap := sCap) (n := xs.length) (cx := cx) (olds := olds) (news := news)
    (ho3 w.drew fun a v hv => (hw.imm a v hv).2) (hnr w.drew rfl) hg (by omega) (growslice_fits hg hfit)
  have hcap : es.length + xs.length ≤ grownCap w (es.length + xs.length) sCap e := by
    simp only [grownCap, Question.cut]; omega
  generalize grownCap w (es.length + xs.length) sCap e = cap at hrun hcap
  have hfe := flat_len hse
  have hfx := flat_len hsx
  have hall : ∀ q ∈ es ++ xs, q.cells.length = i.size := fun q hq => by
    rcases List.mem_append.1 hq with r | r
    · exact hse q r
    · exact hsx q r
  have hfa : flat (es ++ xs) = flat es ++ flat xs := flat_append es xs
  have hzc : (Builtin.zeroCells z.cells (cap - (es.length + xs.length))).size = (cap - (es.length + xs.length)) * i.size := by
    simp [Builtin.zeroCells, hzs]
  obtain ⟨σ', r1, r2, r3⟩ := tail_row (hw.drew) hall (fun x hx => by
      rw [hfa] at hx
      rcases List.mem_append.1 hx with q | q
      · exact hes.listOk x q
      · exact hkx x q) (olds ++ news ++ Builtin.zeroCells z.cells (cap - (es.length + xs.length))) e cap (by simpa using hcap) (by
      simp only [Array.size_append, ho1, hns, hzc, hfe, hfx]
      rw [← Nat.add_mul, ← Nat.add_mul]
      exact Nat.mul_le_mul_right _ (by omega)) (fun k hk => by
      rw [hfa, List.length_append] at hk
      rw [Array.getD_eq_getD_getElem?]
      by_cases hke : k < (flat es).length
      · rw [Array.getElem?_append_left (by simp; omega), Array.getElem?_append_left (by omega), ← Array.getD_eq_getD_getElem?]
        have : (flat (es ++ xs))[k] = (flat es)[k] := by simp only [hfa]; rw [List.getElem_append_left hke]
        rw [this]; exact ho2 k hke
      · rw [Array.getElem?_append_left (by simp; omega), Array.getElem?_append_right (by omega), ← Array.getD_eq_getD_getElem?]
        have : (flat (es ++ xs))[k] = (flat xs)[k - (flat es).length] := by simp only [hfa]; rw [List.getElem_append_right (by omega)]
        rw [this, ho1]; exact hnd _ (by omega)) t lk hlk H' hH hlen hH' hold (w.drew.alloc (.cells (olds ++ news ++ Builtin.zeroCells z.cells (cap - (es.length + xs.length))) e)) rfl rfl rfl rfl
  refine ⟨_, _, σ', hrun, r1, (Step.drew lk σ H w).trans r2, ?_⟩
  have : (es ++ xs).length = es.length + xs.length := by simp
  rw [this] at r3
  exact r3

theorem gappend_sound {P : Program} {gp : GP} (hty : TyT P gp) {lk : Nat} {σ : Sim} {H : List GB} {w : World} (hw : WR σ H w) (hlk : lk ≤ H.length) {ts : Array TypeId} {sT xT ty : Nat} (ht0 : ts[0]? = some sT) (ht1 : ts[1]? = some xT)
    {s x : GV} {a b : Value} (ga : GR σ H s a) (gx : GR σ H x b) {k : CK} (hxT : ∃ ti e, gp.ty xT = some ti ∧ ti.kind = .slice e) (h : gappend gp lk sT s x H k = true) :
    ∃ c w' σ' gv H', (Builtin.append_ ts ty #[a, b]).run P w = .ok c w' ∧ k gv H' = true ∧ Step lk σ H w σ' H' w' ∧ WR σ' H' w' ∧ GR σ' H' gv c := by
  obtain ⟨tx, ex, htx, hkx⟩ := hxT
  obtain ⟨dx, _, hpx, hkx', _⟩ := (hty _ _ htx).under
  rw [hkx] at hkx'
  simp only [KOK] at hkx'
  subst hkx'
  unfold gappend at h
  split at h
  · rename_i sz agg by_ zz e eq_ hts
    obtain ⟨ds, _, hps, hks, _⟩ := (hty _ _ hts).under
    simp only [KOK] at hks
    subst hks
    split at h
    · rename_i ti hti
      have okT := hty _ _ hti
      obtain ⟨i, z, hi1, hi2, hi3, hi4, hi5⟩ := okT.info
      have hzs : z.cells.size = i.size := by
        have := okT.zlen
        rw [← hi5] at this
        simp at this; omega
      split at h
      · rename_i xs hxs
        simp only [Bool.cond_eq_ite] at h
        split at h
        · rename_i hokx
          obtain ⟨ax, cx, rfl, news, hn1, hn2, hn3, hn4, hn5⟩ := srcOf_sound (P := P) hw okT.one gx hxs hokx
          have hsx : ∀ q ∈ xs, q.cells.length = i.size := by
            rw [hi2]; exact hn4
          rw [← hi2] at hn3
          split at h
          · rename_i es t
            split at h
            · rename_i L sz' ht
              split at h
              · rename_i hc
                simp only [Bool.and_eq_true, Nat.beq_eq, Nat.ble_eq] at hc
                obtain ⟨⟨⟨⟨c1, c2⟩, c3⟩, c4⟩, c5⟩ := hc
                subst c2 c3
                rw [← hi3] at c4 c5
                cases ga with
                | tl _ _ L' sz'' _ ht' hl hd hcur hzz =>
                  rw [ht] at ht'
                  injection ht' with ht'
                  injection ht' with e1 e2
                  subst e1 e2
                  have hva := hcur rfl
                  obtain ⟨base, cap, htk, hle, hsp⟩ := hw.blk t _ ht
                  have hse : ∀ q ∈ es, q.cells.length = i.size := by rw [hi2]; exact hzz
                  have hoke : szOk i.size es = true := by
                    cases es with
                    | nil => rfl
                    | cons q r => simp [szOk, hse q (by simp)]
                  rw [hva, htk]
                  have hdk : DR σ.imm (.list es) (.slice base es.length cap) := by rw [← htk, ← hva]; exact hd
                  by_cases hroom : es.length + xs.length ≤ cap
                  · have hrun := append_room_run (P := P) (ts := ts) (ty := ty) ht0 ht1 hps hpx hi1 hi4 (base := base) (hn3 w rfl) hroom
                    by_cases hlc : es.length < cap
                    · obtain ⟨rfl, ⟨cs, el, hb1, hb2⟩, hb3⟩ := hsp hlc
                      rw [← hi2] at ht hb2 hb3
                      obtain ⟨σ', q1, q2, q3⟩ := tail_room (lk := lk) hw c1 ht htk (by rw [htk]; exact hdk) hse hsx hlc hroom hb1 hb2 hb3 hn5 news hn1 hn2
                      rw [← hi2] at h
                      have hfx := flat_len hsx
                      have hfe := flat_len hse
                      have hn1' : ∀ v ∈ news.toList, v.oneCell' = true := fun v hv => by
                        obtain ⟨k, hk, hkv⟩ := List.getElem_of_mem hv
                        have hk' : k < (flat xs).length := by rw [← hn1]; simpa using hk
                        have q := hn2 k hk'
                        have : news.getD k undef = v := by
                          rw [← hkv]; simp [Array.getD, show k < news.size by simpa using hk]
                        rw [this] at q
                        have := q.flatB_of (hn5 _ (List.getElem_mem hk'))
                        cases v <;> first | rfl | simp [Value.flatB] at this
                      have hst := run_storeCells_at (P := P) (σ.mu t) (es.length * i.size) el news.toList 0 cs w hb1 (by
                        have : (es.length + xs.length) * i.size ≤ cap * i.size := Nat.mul_le_mul_right _ hroom
                        rw [Nat.add_mul] at this
                        simp; omega) hn1'
                      refine ⟨.slice (some ⟨σ.mu t, 0, none⟩) (es.length + xs.length) cap, _, σ', _, _, ?_, h, q2, q1, q3⟩
                      rw [hrun]
                      simp only [add_none, Nat.zero_add, Nat.add_zero] at hst ⊢
                      rw [hst]; rfl
                    · have hx0 : xs = [] := List.eq_nil_of_length_eq_zero (by omega)
                      subst hx0
                      have hnews : news = #[] := Array.eq_empty_of_size_eq_zero (by rw [hn1]; rfl)
                      subst hnews
                      have hset : H.set t (.tail (es.length + ([] : List DV).length) ti.size) = H := by
                        have hlt : t < H.length := (List.getElem?_eq_some_iff.1 ht).1
                        have := (List.getElem?_eq_some_iff.1 ht).2
                        simp only [List.length_nil, Nat.add_zero]
                        rw [← this]; exact List.set_getElem_self hlt
                      rw [hset] at h
                      refine ⟨.slice base es.length cap, w, σ, _, _, ?_, h, .refl .., hw, ?_⟩
                      · rw [hrun]
                        cases base with
                        | none => rfl
                        | some ad => simp [storeCells]
                      · rw [List.append_nil]
                        exact .tl es t es.length ti.size _ ht (Nat.le_refl _) hdk (fun _ => htk.symm) hzz
                  · obtain ⟨c, w', σ', q1, q2, q3, q4⟩ := grow_tail (P := P) (lk := lk) (ty := ty) hw ht0 ht1 hps hpx hi1 hi4 hzs hdk (.inr trivial) hse hsx hoke hn5 news hn1 hn2 hn3 (by omega) c4 (by simpa [maxBytes] using c5) t c1
                      (H.set t (.tail (es.length + xs.length) ti.size)) (fun j hj => List.getElem?_set_ne (Ne.symm hj)) (by simp) (by
                        have hlt : t < H.length := (List.getElem?_eq_some_iff.1 ht).1
                        rw [List.getElem?_set_self hlt, hi2]; simp) (.inr ⟨es.length, by rw [hi2]; exact ht, by simp; omega⟩)
                    exact ⟨c, w', σ', _, _, q1, h, q3, q2, q4⟩
              · cases h
            · cases h
          · rename_i hnt
            split at h
            · rename_i es hes
              split at h
              · rename_i hc
                simp only [Bool.and_eq_true, Nat.ble_eq] at hc
                obtain ⟨⟨c4, c5⟩, c6⟩ := hc
                rw [← hi3] at c4 c5
                have hab : ∃ base, a = .slice base es.length es.length ∧ DR σ.imm (.list es) (.slice base es.length es.length) := by
                  split at hes
                  · cases hes; rw [ga.lit]; exact ⟨none, rfl, .nil _ _⟩
                  · cases hes
                    cases ga with
                    | xl _ ad hd => exact ⟨ad, rfl, hd⟩
                  · cases hes
                obtain ⟨base, rfl, hd⟩ := hab
                have hse : ∀ q ∈ es, q.cells.length = i.size := by rw [hi2]; exact szOk_all hd c6
                have hoke : szOk i.size es = true := by rw [hi2]; exact c6
                by_cases hx0 : xs = []
                · subst hx0
                  have hrun := append_room_run (P := P) (ts := ts) (ty := ty) ht0 ht1 hps hpx hi1 hi4 (base := base) (sLen := es.length) (sCap := es.length) (hn3 w rfl) (by simp)
                  have hnews : news = #[] := Array.eq_empty_of_size_eq_zero (by rw [hn1]; rfl)
                  subst hnews
                  obtain ⟨q1, q2⟩ := push_tok (lk := lk) hw hlk base es.length ti.size
                  simp only [List.length_nil, Nat.add_zero, List.append_nil] at h
                  refine ⟨.slice base es.length es.length, w, _, _, _, ?_, h, q2, q1, ?_⟩
                  · rw [hrun]
                    cases base with
                    | none => rfl
                    | some ad => simp [storeCells]
                  · refine .tl es H.length es.length ti.size _ (get_append_same _ _) (Nat.le_refl _) (hd.mono q2.ext.imm) (fun _ => ?_) (by rw [← hi2]; exact hse)
                    show _ = upd σ.tok H.length _ H.length
                    rw [upd_same]
                · have hpos : 0 < xs.length := List.length_pos_iff.2 hx0
                  obtain ⟨c, w', σ', q1, q2, q3, q4⟩ := grow_tail (P := P) (lk := lk) (ty := ty) hw ht0 ht1 hps hpx hi1 hi4 hzs hd (.inr trivial) hse hsx hoke hn5 news hn1 hn2 hn3 (by omega) c4 (by simpa [maxBytes] using c5) H.length hlk
                    (H ++ [.tail (es.length + xs.length) ti.size]) (fun j hj => get_append_ne hj) (by simp) (by rw [get_append_same, hi2]; simp) (.inl (by simp))
                  exact ⟨c, w', σ', _, _, q1, h, q3, q2, q4⟩
              · cases h
            · cases h
        · cases h
      · cases h
    · cases h
  · cases h
end Go.Gh
namespace Go.Gh
open Go.RowKit

/-- A new object of the machine's at a free place of the ghost's. -/
theorem make_obj {lk : Nat} {σ : Sim} {H H' : List GB} {w : World} (h : WR σ H w) {id : Nat} (hlk : lk ≤ id) (hid : H[id]? = none ∨ H[id]? = some .resv) (o : Obj) (b : GB)
    (hH : ∀ j, j ≠ id → H'[j]? = H[j]?) (hlen : H.length ≤ H'.length) (hb' : H'[id]? = some b)
    (hb : Ext σ H { σ with mu := upd σ.mu id w.heap.size } H' → BR { σ with mu := upd σ.mu id w.heap.size } H' (w.alloc o) id b) (hnt : ∀ L sz, b ≠ .tail L sz) :
    WR { σ with mu := upd σ.mu id w.heap.size } H' (w.alloc o) ∧ Step lk σ H w { σ with mu := upd σ.mu id w.heap.size } H' (w.alloc o) := by
  have e : Ext σ H { σ with mu := upd σ.mu id w.heap.size } H' := by
    refine ⟨fun j hf => ?_, fun t L sz ht => ?_, fun _ _ h => h⟩
    · obtain ⟨c, hc, hfc⟩ := hf
      have hne : j ≠ id := by
        intro q; subst q
        rcases hid with q | q <;> rw [q] at hc
        · cases hc
        · cases hc; simp [fixedB] at hfc
      exact ⟨⟨c, by rw [hH j hne]; exact hc, hfc⟩, upd_ne _ _ hne⟩
    · have hne : t ≠ id := by
        intro q; subst q
        rcases hid with q | q <;> rw [q] at ht <;> cases ht
      exact ⟨L, by rw [hH t hne]; exact ht, Nat.le_refl _, fun _ => rfl⟩
  have hold : ∀ k, k < w.heap.size → (w.alloc o).heap[k]? = w.heap[k]? := fun k hk => Below.heap_alloc w o k hk
  constructor
  · refine h.turn e id hH (fun j hj => upd_ne _ _ hj) (fun _ _ => rfl) (fun a v hv => ?_) (fun j bj hj hjb ho => ⟨hold _ (h.size_lt hjb ho), fun _ _ => rfl⟩) (fun c hc => ?_) (fun c hc ho j bj hj hjb hoj => ?_)
    · obtain ⟨q1, q2⟩ := h.imm a v hv
      exact ⟨q1, (World.cell?_of_block (w := w) (hold a.block (block_lt_of_cell q2))).trans q2⟩
    · rw [hb'] at hc; cases hc; exact hb e
    · show σ.mu j ≠ upd σ.mu id w.heap.size id
      rw [upd_same]
      have := h.size_lt hjb hoj
      omega
  · refine Step.turn e id hlk hH (fun j hj => upd_ne _ _ hj) (fun _ _ => rfl) rfl rfl rfl (by simp) hlen (fun k hk _ => hold k hk) (fun c _ _ => .inr ?_) (fun a ha => absurd rfl ha)
    show w.heap.size ≤ upd σ.mu id w.heap.size id
    rw [upd_same]; exact Nat.le_refl _

theorem make_cells {lk : Nat} {σ : Sim} {H H' : List GB} {w : World} (h : WR σ H w) {id : Nat} (hlk : lk ≤ id) (hid : H[id]? = none ∨ H[id]? = some .resv) (cs : List GV) (c : Array Value) (el : TypeId) (hc : PW σ H cs c.toList)
    (hH : ∀ j, j ≠ id → H'[j]? = H[j]?) (hlen : H.length ≤ H'.length) (hb' : H'[id]? = some (.cells cs)) :
    ∃ σ', WR σ' H' (w.alloc (.cells c el)) ∧ Step lk σ H w σ' H' (w.alloc (.cells c el)) ∧ Fixed H' id ∧ σ'.mu id = w.heap.size := by
  obtain ⟨h1, h2⟩ := make_obj (lk := lk) h hlk hid (.cells c el) (.cells cs) hH hlen hb' (fun e => by
    refine ⟨c, el, ?_, by simpa using hc.1, fun k h1 h2 => (hc.2 k h1 (by simpa using h2)).mono e, fun o s => ?_⟩
    · show (w.alloc (.cells c el)).heap[upd σ.mu id w.heap.size id]? = _
      rw [upd_same]; exact heap_alloc_new w _
    · show σ.imm ⟨upd σ.mu id w.heap.size id, o, s⟩ = none
      rw [upd_same]
      cases hi : σ.imm ⟨w.heap.size, o, s⟩ with
      | none => rfl
      | some v =>
        have := block_lt_of_cell (h.imm _ _ hi).2
        simp at this) (by intro L sz q; cases q)
  exact ⟨_, h1, h2, ⟨.cells cs, hb', rfl⟩, upd_same _ _ _⟩

def Runs (P : Program) (lk : Nat) (σ : Sim) (H : List GB) (w : World) (s : Sem Next) (k : CK) : Prop :=
  ∃ c r w' σ' gv H', s.run P w = .ok r w' ∧ (r = .value c ∨ r = .skip ∧ c = undef) ∧ k gv H' = true ∧ Step lk σ H w σ' H' w' ∧ WR σ' H' w' ∧ GR σ' H' gv c

theorem Runs.value {P : Program} {lk : Nat} {σ : Sim} {H : List GB} {w : World} {s : Sem Value} {k : CK} {c : Value} {w' : World} {σ' : Sim} {gv : GV} {H' : List GB}
    (h : s.run P w = .ok c w') (hk : k gv H' = true) (st : Step lk σ H w σ' H' w') (wr : WR σ' H' w') (g : GR σ' H' gv c) : Runs P lk σ H w (do pure (Next.value (← s))) k :=
  ⟨c, .value c, w', σ', gv, H', execV h, .inl rfl, hk, st, wr, g⟩

theorem toD_sound {σ : Sim} {H : List GB} {x : GV} {y : DV} {v : Value} (h : toD x = some y) (g : GR σ H x v) : DR σ.imm y v := by
  unfold toD at h
  split at h
  · rename_i cs
    split at h
    · rename_i ys hys; cases h
      cases g with
      | agg _ vs hs hd =>
        obtain ⟨q1, q2⟩ := toDs_sound hys (vs := vs.toList) ⟨by simpa using hs, fun k a b => hd k a (by simpa using b)⟩
        exact .agg ys vs (by omega) fun k a b => q2 k a (by simpa using b)
    · cases h
  · exact toD1_sound h g

theorem box_sound {P : Program} {lk : Nat} {σ : Sim} {H : List GB} {w : World} (hw : WR σ H w) (hlk : lk ≤ H.length) {t : TypeId} {x : GV} {v : Value} (gx : GR σ H x v) (hint : Nat) {k : CK}
    (h : (bif x.cells.all cellOk then
      bif hint.beq 1 then
        match toD x with
        | some y => k (.d (.vptr [y] 0 0)) H
        | none => k (.ptr H.length 0) (H ++ [.cells x.cells])
      else k (.ptr H.length 0) (H ++ [.cells x.cells])
    else false) = true) : Runs P lk σ H w (do pure (Next.value (← Instr.box t v))) k := by
  simp only [Bool.cond_eq_ite] at h
  split at h
  · rename_i hok
    have hrun : (Instr.box t v).run P w = .ok (.pointer (some ⟨w.heap.size, 0, none⟩)) (w.alloc (.cells v.cells t)) := by simp [Instr.box, newVar, newRow]
    have hheap : k (.ptr H.length 0) (H ++ [.cells x.cells]) = true → Runs P lk σ H w (do pure (Next.value (← Instr.box t v))) k := fun hk => by
      obtain ⟨σ', q1, q2, q3, q4⟩ := push_cells hw hlk x.cells v.cells t (gx.cells hok)
      refine .value hrun hk q2 q1 ?_
      rw [← q4]; exact .ptr _ _ q3
    split at h
    · split at h
      · rename_i y hy
        have hd := toD_sound hy gx
        obtain ⟨hc1, hc2⟩ := hd.cells
        obtain ⟨q1, q2⟩ := push_rest (lk := lk) hw v.cells t
        have hfl : flat [y] = y.cells := by simp [flat]
        have hv := DR.vptr (imm := rest σ.imm w.heap.size v.cells) [y] y.cells.length 0 0 ⟨w.heap.size, 0, none⟩ (fun k => v.cells.getD k undef) (by simp) (fun k hk => by
          rw [hfl] at hk
          simp only [Nat.zero_add]
          rw [rest_in (by omega)]
          simp [Array.getD, show k < v.cells.size by omega]) (fun k hk => by
          have hk' : k < y.cells.length := by rw [hfl] at hk; exact hk
          have : (flat [y])[k] = y.cells[k] := by simp only [hfl]
          rw [this]
          have := (hc2 k hk' (by omega)).mono q2.ext.imm
          simpa [Array.getD, show k < v.cells.size by omega] using this)
        exact .value hrun h q2 q1 (.d _ _ (by simpa using hv))
      · exact hheap h
    · exact hheap h
  · cases h

theorem zero_pw {P : Program} {t : Nat} {ti : TI} (ok : TyOK P t ti) (σ : Sim) (H : List GB) : ∃ z, (∀ w, (zeroValue t).run P w = .ok z w) ∧ PW σ H (ti.zero.map fun v => GV.d (.lit v)) z.cells.toList ∧ z.cells.size = ti.size := by
  obtain ⟨i, z, hi1, hi2, _, hi4, hi5⟩ := ok.info
  refine ⟨z, fun w => by simp [zeroValue, typeInfo, hi1, hi4], ?_, ?_⟩
  · rw [hi5]
    exact ⟨by simp, fun k h1 h2 => by simpa using GR.d _ _ (DR.lit _ (ok.zflat _ (List.getElem_mem _)))⟩
  · have := ok.zlen
    rw [← hi5] at this
    simpa using this

theorem alloc_sound {P : Program} {gp : GP} (hty : TyT P gp) {lk : Nat} {σ : Sim} {H : List GB} {w : World} (hw : WR σ H w) (hlk : lk ≤ H.length) {t : Nat} {k : CK}
    (h : (match gp.ty t with
      | some ti => k (.ptr H.length 0) (H ++ [.cells (ti.zero.map fun v => .d (.lit v))])
      | none => false) = true) : Runs P lk σ H w (do pure (Next.value (← Instr.alloc t true (.tuple #[])))) k := by
  split at h
  · rename_i ti hti
    obtain ⟨z, hz1, hz2, _⟩ := zero_pw (hty _ _ hti) σ H
    obtain ⟨σ', q1, q2, q3, q4⟩ := push_cells hw hlk _ z.cells t hz2
    refine .value (c := .pointer (some ⟨w.heap.size, 0, none⟩)) ?_ h q2 q1 ?_
    · simp [Instr.alloc, hz1, newVar, newRow]
    · rw [← q4]; exact .ptr _ _ q3
  · cases h

theorem load_sound {P : Program} {gp : GP} (hty : TyT P gp) {σ : Sim} {H : List GB} {w : World} (hw : WR σ H w) {t : Nat} {x v : GV} {a : Value} (gx : GR σ H x a) (h : gload gp t x H = some v) :
    ∃ c, (Instr.loadAt t a).run P w = .ok c w ∧ GR σ H v c := by
  unfold gload at h
  split at h
  · rename_i ti hti
    split at h
    · split at h
      · rename_i e he
        split at h
        · rename_i y hy; cases h
          cases gx with
          | d _ _ gx =>
            obtain ⟨c, h1, h2⟩ := vptr_load (hty _ _ hti) hw.imm gx he hy
            exact ⟨c, h1, .d _ _ h2⟩
        · cases h
      · cases h
    · rename_i id off
      split at h
      · rename_i cs hcs
        obtain ⟨c, el, hb1, hb2, hb3, _⟩ := hw.blk _ _ hcs
        cases gx with
        | ptr _ _ hf =>
          obtain ⟨hl, hg⟩ := partG_sound h (hty _ _ hti).one (fun k => c.getD k undef) fun k hk => by
            have := hb3 k hk (by omega)
            simpa [Array.getD, show k < c.size by omega] using this
          refine ⟨_, ?_, hg⟩
          simp only [Instr.loadAt, Instr.sureAddr, Sem.run_bind, Sem.run_pure, Result.andThen_ok]
          rw [load_cells (hty _ _ hti) _ _ (fun k => c.getD (_ + k) undef) fun k hk => ?_]
          · rfl
          · simp only [World.cell?, hb1]
            simp only [Option.isSome_none, Bool.false_eq_true, if_false]
            rw [Array.getElem?_eq_getElem (by omega)]
            simp only [Array.getD]
            rw [dif_pos (by omega)]
            rfl
      · cases h
    · cases h
  · cases h

theorem store_sound {P : Program} {gp : GP} (hty : TyT P gp) {lk : Nat} {σ : Sim} {H : List GB} {w : World} (hw : WR σ H w) {t : Nat} {x y : GV} {a b : Value} (gx : GR σ H x a) (gy : GR σ H y b) {k : CK}
    (h : (match gp.ty t with
    | some ti => match (generalizing := false) x with
      | .ptr id off => match H[id]? with
        | some (.cells cs) =>
          bif lk.ble id && y.cells.length.beq ti.size && (off + ti.size).ble cs.length && y.cells.all cellOk then
            k .und (H.set id (.cells (setR cs off y.cells)))
          else false
        | _ => false
      | _ => false
    | none => false) = true) : Runs P lk σ H w (do Instr.storeAt t a b; pure Next.skip) k := by
  split at h
  · rename_i ti hti
    split at h
    · rename_i id off
      split at h
      · rename_i cs hcs
        simp only [Bool.cond_eq_ite] at h
        split at h
        · rename_i hc
          simp only [Bool.and_eq_true, Nat.beq_eq, Nat.ble_eq] at hc
          obtain ⟨⟨⟨c1, c2⟩, c3⟩, c4⟩ := hc
          obtain ⟨c, el, hb1, hb2, hb3, _⟩ := hw.blk id _ hcs
          cases gx with
          | ptr _ _ hf =>
            have hpw : PW σ H cs c.toList := ⟨by simpa using hb2, fun k h1 h2 => hb3 k h1 (by simpa using h2)⟩
            have hyc := gy.cells c4
            have hone : ∀ v ∈ b.cells.toList, v.oneCell' = true := fun v hv => by
              obtain ⟨q, hq, hqv⟩ := List.getElem_of_mem hv
              have hq' : q < y.cells.length := by rw [← hyc.1]; exact hq
              rw [← hqv]
              exact (hyc.2 q hq' hq).flat (List.all_eq_true.1 c4 _ (List.getElem_mem hq'))
            have hbl : b.cells.size = ti.size := by have := hyc.1; simp at this; omega
            have hst := run_storeCells_at (P := P) (σ.mu id) off el b.cells.toList 0 c w hb1 (by simp; omega) hone
            obtain ⟨q1, q2⟩ := turn_cells (lk := lk) hw c1 hcs (setR cs off y.cells) (c.toList.take off ++ b.cells.toList ++ c.toList.drop (off + b.cells.toList.length)).toArray (by simpa using hpw.setR hyc off)
            refine ⟨undef, .skip, _, σ, .und, _, ?_, .inr ⟨rfl, rfl⟩, h, q2, q1, .und _⟩
            simp only [Nat.add_zero] at hst
            simp [Instr.storeAt, Instr.sureAddr, storeVar, (hty _ _ hti).sizeOf, hbl, hst]
        · cases h
      · cases h
    · cases h
  · cases h
end Go.Gh
