import Derived.Orders
import Derived.Defers
import Derived.Below
namespace Go.Ev
set_option linter.unusedVariables false
set_option linter.unusedSimpArgs false
inductive AVal where
  | bool (b : Bool)
  | int (k : IntKind) (n : Int)
  | str (s : ByteArray)
  | ptr (i o : Nat)
  | nilp
  | slice (i o l : Nat) (ex : Bool) (c : Nat)
  | nils
  | emp (i : Nat)
  | map (i : Nat)
  | nilm
  | func (f : FuncId) (fs cs : List AVal)
  | nilf
  | iface (t : TypeId) (v : AVal)
  | nili
  | agg (cs : List AVal)
  | tup (vs : List AVal)
  | junk (i : Nat)
  | vec (i : Nat)
  deriving Inhabited
structure Loc where
  blk : Nat
  base : Nat
  capE : Nat
  odd : Addr := ⟨0, 0, none⟩
  val : Value := .nilIface
  sp : Option Addr := none
  sl : Nat := 0
  sk : Nat := 0
  lp : Loop := default
  deriving Inhabited
abbrev Loc.mk3 (b o c : Nat) : Loc := ⟨b, o, c, ⟨0, 0, none⟩, .nilIface, none, 0, 0, default⟩
mutual
def γ (ρ : Nat → Loc) : AVal → Value
  | .bool b => .bool b
  | .int k n => .int k n
  | .str s => .string s
  | .ptr i o => .pointer (some ⟨(ρ i).blk, (ρ i).base + o, none⟩)
  | .nilp => .pointer none
  | .slice i o l ex c => .slice (some ⟨(ρ i).blk, (ρ i).base + o, none⟩) l (if ex then c else (ρ i).capE - c)
  | .nils => .slice none 0 0
  | .emp i => .slice (some (ρ i).odd) 0 0
  | .map i => .map (some (ρ i).blk)
  | .nilm => .map none
  | .func f fs cs => .func (.func f) (γL ρ fs).toArray (γL ρ cs).toArray
  | .nilf => .nilFunc
  | .iface t v => .iface t (γ ρ v)
  | .nili => .nilIface
  | .agg cs => .agg (γL ρ cs).toArray
  | .tup vs => .tuple (γL ρ vs).toArray
  | .junk i => (ρ i).val
  | .vec i => .slice (ρ i).sp (ρ i).sl (ρ i).sk
def γL (ρ : Nat → Loc) : List AVal → List Value
  | [] => []
  | v :: vs => γ ρ v :: γL ρ vs
end
def AVal.isCell : AVal → Bool
  | .agg _ | .tup _ | .junk _ => false
  | _ => true
mutual
def sc (n : Nat) : AVal → Bool
  | .ptr i _ => decide (i < n)
  | .slice i _ _ _ _ => decide (i < n)
  | .emp i => decide (i < n)
  | .map i => decide (i < n)
  | .func _ fs cs => scL n fs && scL n cs
  | .iface _ v => sc n v
  | .agg cs => scC n cs
  | .tup vs => scL n vs
  | .junk i => decide (i < n)
  | .vec i => decide (i < n)
  | _ => true
def scL (n : Nat) : List AVal → Bool
  | [] => true
  | v :: vs => sc n v && scL n vs
def scC (n : Nat) : List AVal → Bool
  | [] => true
  | v :: vs => v.isCell && sc n v && scC n vs
end
mutual
def aeq : AVal → AVal → Bool
  | .bool a, .bool b => a == b
  | .int k a, .int l b => decide (k = l) && a == b
  | .str a, .str b => a.data.toList == b.data.toList
  | .ptr i o, .ptr j p => i == j && o == p
  | .nilp, .nilp => true
  | .slice i o l e c, .slice i' o' l' e' c' => i == i' && o == o' && l == l' && e == e' && c == c'
  | .nils, .nils => true
  | .emp i, .emp j => i == j
  | .map i, .map j => i == j
  | .nilm, .nilm => true
  | .func f a b, .func g c d => f == g && aeqL a c && aeqL b d
  | .nilf, .nilf => true
  | .iface t v, .iface u w => t == u && aeq v w
  | .nili, .nili => true
  | .agg a, .agg b => aeqL a b
  | .tup a, .tup b => aeqL a b
  | .junk i, .junk j => i == j
  | .vec i, .vec j => i == j
  | _, _ => false
def aeqL : List AVal → List AVal → Bool
  | [], [] => true
  | a :: x, b :: y => aeq a b && aeqL x y
  | _, _ => false
end
inductive ABlk where
  | cells (cs : List AVal) (own : Bool) (gr : Option Nat)
  | vec (cs : List AVal) (n sz : Nat) (own : Bool)
  | map (es : List (AVal × AVal × Nat)) (clock : Nat)
  | iter (m since : Nat) (seen : List Nat) (last : Nat)
  | coll
  | turn (k i : Nat)
  | dead
  deriving Inhabited
structure Mem where
  next : Nat
  bs : List (Nat × ABlk)
  deriving Inhabited
def look : List (Nat × ABlk) → Nat → Option ABlk
  | [], _ => none
  | (j, b) :: r, i => if j == i then some b else look r i
def Mem.get (σ : Mem) (i : Nat) : Option ABlk := look σ.bs i
def Mem.push (σ : Mem) (b : ABlk) : Mem := ⟨σ.next + 1, (σ.next, b) :: σ.bs⟩
def Mem.set (σ : Mem) (i : Nat) (b : ABlk) : Mem := ⟨σ.next, (i, b) :: σ.bs⟩
inductive TK where
  | int (k : IntKind)
  | bool
  | str
  | ptr (e : TypeId)
  | slice (e : TypeId)
  | arr (n : Nat) (e : TypeId)
  | struct (fs : List (Nat × TypeId))
  | map (k e : TypeId)
  | func
  | iface
  | other
  deriving Inhabited, DecidableEq
structure TyI where
  size : Nat
  bytes : Nat
  zero : List AVal
  agg : Bool
  flat : Option (List TK)
  k : TK
  deriving Inhabited
abbrev TTab := TypeId → Option TyI
def AVal.cellsOf : AVal → List AVal
  | .agg cs => cs
  | v => [v]
def ofV : Value → Option AVal
  | .bool b => some (.bool b)
  | .int k n => some (.int k n)
  | .string s => some (.str s)
  | .pointer none => some .nilp
  | .slice none 0 0 => some .nils
  | .map none => some .nilm
  | .nilFunc => some .nilf
  | .nilIface => some .nili
  | _ => none
def ev (tm : List AVal) : Operand → Option AVal
  | .tmp t => some (tm.getD t (.tup []))
  | .const v => ofV v
  | .func f => some (.func f [] [])
  | .global _ => none
def evL (tm : List AVal) : List Operand → Option (List AVal)
  | [] => some []
  | x :: xs => match ev tm x, evL tm xs with
    | some v, some vs => some (v :: vs)
    | _, _ => none
def intOp (op : BinOp) (k : IntKind) (a b : Int) : Option AVal :=
  match op with
  | .add => some (.int k (k.wrap (a + b)))
  | .sub => some (.int k (k.wrap (a - b)))
  | .mul => some (.int k (k.wrap (a * b)))
  | .quo => if b = 0 then none else some (.int k (k.wrap (a.tdiv b)))
  | .rem => if b = 0 then none else some (.int k (a.tmod b))
  | .and => some (.int k (k.wrap (BitVec.ofInt k.bits a &&& BitVec.ofInt k.bits b).toNat))
  | .or => some (.int k (k.wrap (BitVec.ofInt k.bits a ||| BitVec.ofInt k.bits b).toNat))
  | .xor => some (.int k (k.wrap (BitVec.ofInt k.bits a ^^^ BitVec.ofInt k.bits b).toNat))
  | .andNot => some (.int k (k.wrap (BitVec.ofInt k.bits a &&& ~~~(BitVec.ofInt k.bits b)).toNat))
  | .eql => some (.bool (a == b))
  | .neq => some (.bool (a != b))
  | .lss => some (.bool (decide (a < b)))
  | .leq => some (.bool (decide (a ≤ b)))
  | .gtr => some (.bool (decide (a > b)))
  | .geq => some (.bool (decide (a ≥ b)))
  | _ => none
def shiftOp (op : BinOp) (k : IntKind) (a b : Int) : Option AVal :=
  if b < 0 then none else
  match op with
  | .shl => some (.int k (k.wrap (a * 2 ^ (min b.toNat k.bits))))
  | .shr => some (.int k (a.fdiv (2 ^ (min b.toNat k.bits))))
  | _ => none
def eqCells : List TK → List AVal → List AVal → Option Bool
  | [], [], [] => some true
  | .int k :: ks, .int a x :: xs, .int b y :: ys => if a = k ∧ b = k then (eqCells ks xs ys).map fun r => x == y && r else none
  | .bool :: ks, .bool x :: xs, .bool y :: ys => (eqCells ks xs ys).map fun r => x == y && r
  | _, _, _ => none
def eqOp (T : TTab) (c : Bool) (t : TypeId) (x y : AVal) : Option Bool :=
  match T t with
  | none => none
  | some i =>
    match i.k, x, y with
    | .bool, .bool a, .bool b => some (a == b)
    | .slice _, .nils, .nils => some true
    | .slice _, .nils, .slice .. => some false
    | .slice _, .slice .., .nils => some false
    | .slice _, .nils, .emp _ => some false
    | .slice _, .emp _, .nils => some false
    | .ptr _, .nilp, .nilp => some true
    | .ptr _, .nilp, .ptr .. => some false
    | .ptr _, .ptr .., .nilp => some false
    | .map _ _, .nilm, .nilm => some true
    | .map _ _, .nilm, .map .. => some false
    | .map _ _, .map .., .nilm => some false
    | .func, .nilf, .nilf => some true
    | .func, .nilf, .func .. => some false
    | .func, .func .., .nilf => some false
    | .iface, .nili, .nili => if c then some true else none
    | .iface, .nili, .iface .. => some false
    | .iface, .iface .., .nili => some false
    | .struct _, .agg xs, .agg ys => i.flat.bind fun ks => eqCells ks xs ys
    | .arr _ _, .agg xs, .agg ys => i.flat.bind fun ks => eqCells ks xs ys
    | _, _, _ => none
def isCst : Operand → Bool
  | .const _ => true
  | _ => false
def binA (T : TTab) (c : Bool) (op : BinOp) (t : TypeId) (x y : AVal) : Option AVal :=
  match x, y with
  | .int k a, .int l b =>
    match op with
    | .shl | .shr => shiftOp op k a b
    | _ => if k = l then intOp op k a b else none
  | .str a, .str b =>
    match op with
    | .eql => some (.bool (a.data.toList == b.data.toList))
    | .neq => some (.bool (!(a.data.toList == b.data.toList)))
    | _ => none
  | _, _ =>
    match op with
    | .eql => (eqOp T c t x y).map .bool
    | .neq => (eqOp T c t x y).map (.bool !·)
    | _ => none
def isNilC : Operand → Bool
  | .const (.slice none 0 0) => true
  | _ => false
def isNils : AVal → Bool
  | .nils => true
  | _ => false
def fullV (σ : Mem) : AVal → Bool
  | .vec i => match σ.get i with
    | some (.vec (_ :: _) _ _ _) => true
    | _ => false
  | _ => false
def isSlK : Option TyI → Bool
  | some { k := .slice _, .. } => true
  | _ => false
def nilB (T : TTab) (σ : Mem) (op : BinOp) (t : TypeId) (x y : AVal) : Option AVal :=
  cond (((isNils x && fullV σ y) || (fullV σ x && isNils y)) && isSlK (T t)) (match op with
    | .eql => some (.bool false)
    | .neq => some (.bool true)
    | _ => none) none
def binM (T : TTab) (σ : Mem) (c n : Bool) (op : BinOp) (t : TypeId) (x y : AVal) : Option AVal :=
  cond n (match nilB T σ op t x y with
    | some v => some v
    | none => binA T c op t x y) (binA T c op t x y)
def unA (op : UnOp) (x : AVal) : Option AVal :=
  match op, x with
  | .neg, .int k n => some (.int k (k.wrap (0 - n)))
  | .xor, .int k n => intOp .xor k (if k.signed then -1 else k.max) n
  | .not, .bool b => some (.bool !b)
  | _, _ => none
def convA (T : TTab) (src dst : TypeId) (x : AVal) : Option AVal :=
  if (T src).isNone then none else
  match T dst, x with
  | some { k := .int k, .. }, .int _ n => some (.int k (k.wrap n))
  | _, _ => none
def bytesTy : TypeId := 174
def bytesOf (s : ByteArray) : List AVal := s.data.toList.map fun b => .int .u8 b.toNat
def isByteT : Option TyI → Bool
  | some { k := .int .u8, size := 1, .. } => true
  | _ => false
def strBytesA (T : TTab) (σ : Mem) (src dst : TypeId) (x : AVal) : Option (AVal × Mem) :=
  match T src, T dst, x with
  | some { k := .str, .. }, some { k := .slice e, .. }, .str s => cond (isByteT (T e)) (some (.slice σ.next 0 s.size false 0, σ.push (.cells (bytesOf s) true (some 1)))) none
  | _, some { k := .slice e, .. }, .slice i o l x c => cond (isByteT (T e) && Nat.beq src dst) (match σ.get i with
    | some (.cells cs true g) => some (.slice i o l x c, σ.set i (.cells cs true g))
    | _ => none) none
  | _, _, _ => none
def byteL : List AVal → Option (List UInt8)
  | [] => some []
  | .int .u8 n :: r => (byteL r).map (UInt8.ofNat n.toNat :: ·)
  | _ => none
def partA (T : TTab) (t : TypeId) (cs : List AVal) (off : Nat) : Option AVal :=
  match T t with
  | none => none
  | some i => if i.agg then some (.agg ((cs.drop off).take i.size)) else cs[off]?
def cellsAt (σ : Mem) (i o n : Nat) : Option (List AVal) :=
  match σ.get i with
  | some (.cells cs _ _) => if o + n ≤ cs.length then some ((cs.drop o).take n) else none
  | some (.vec cs _ _ _) => if o + n ≤ cs.length then some ((cs.drop o).take n) else none
  | _ => none
def loadA (T : TTab) (σ : Mem) (t : TypeId) (x : AVal) : Option AVal :=
  match T t, x with
  | some i, .ptr b o =>
    match cellsAt σ b o i.size with
    | none => none
    | some cs => if i.agg then some (.agg cs) else cs.head?
  | _, _ => none
def spliced (cs : List AVal) (o : Nat) (vs : List AVal) : List AVal := cs.take o ++ vs ++ cs.drop (o + vs.length)
def putA (σ : Mem) (b o : Nat) (vs : List AVal) : Option Mem :=
  match σ.get b with
  | some (.cells cs true gr) => if o + vs.length ≤ cs.length then some (σ.set b (.cells (spliced cs o vs) true gr)) else none
  | some (.vec cs n sz true) => if o + vs.length ≤ cs.length ∧ scC 0 vs = true then some (σ.set b (.vec (spliced cs o vs) n sz true)) else none
  | _ => none
def AVal.isTup : AVal → Bool
  | .tup _ | .junk _ => true
  | _ => false
def storeA (T : TTab) (σ : Mem) (t : TypeId) (x v : AVal) : Option Mem :=
  match T t, x with
  | some i, .ptr b o => if v.cellsOf.length = i.size ∧ v.isTup = false then putA σ b o v.cellsOf else none
  | _, _ => none
def fillA (size : Nat → Option (Nat × Nat)) (cs : List AVal) : List (Nat × AVal) → Option (List AVal)
  | [] => some cs
  | (i, v) :: rest =>
    match size i with
    | none => none
    | some (off, n) => if v.cellsOf.length = n ∧ off + n ≤ cs.length ∧ v.isTup = false then fillA size (spliced cs off v.cellsOf) rest else none
def structPlaces (T : TTab) : List (Nat × TypeId) → Option (List (Nat × Nat))
  | [] => some []
  | (off, t) :: r => match T t, structPlaces T r with
    | some i, some ps => some ((off, i.size) :: ps)
    | _, _ => none
def buildA (T : TTab) (t : TypeId) (parts : List (Nat × AVal)) : Option AVal :=
  match T t with
  | none => none
  | some i =>
    match i.k with
    | .struct fs => match structPlaces T fs with
      | none => none
      | some ps => (fillA (ps[·]?) i.zero parts).map .agg
    | .arr _ e => match T e with
      | none => none
      | some j => (fillA (fun n => some (n * j.size, j.size)) i.zero parts).map .agg
    | _ => none
def times (zero : List AVal) : Nat → List AVal
  | 0 => []
  | n + 1 => zero ++ times zero n
def buildSliceA (T : TTab) (σ : Mem) (t : TypeId) (len : Nat) (parts : List (Nat × AVal)) : Option (AVal × Mem) :=
  match T t with
  | some { k := .slice e, .. } =>
    match T e with
    | none => none
    | some j =>
      if len * j.size > 2 ^ 24 ∨ j.size = 0 then none else
      match fillA (fun n => some (n * j.size, j.size)) (times j.zero len) parts with
      | none => none
      | some cs => some (.slice σ.next 0 len true len, σ.push (.cells cs true (some j.size)))
  | _ => none
def makeB (j : TyI) (n : Int) : Bool := decide (0 ≤ n) && decide (n ≤ 16777216) && Nat.ble j.bytes 16777216 && !Nat.beq j.size 0
def makeA (T : TTab) (σ : Mem) (t : TypeId) (n : Int) : Option (AVal × Mem) :=
  match T t with
  | some { k := .slice e, .. } =>
    match T e with
    | none => none
    | some j => cond (makeB j n) (some (.slice σ.next 0 n.toNat true n.toNat, σ.push (.cells (times j.zero n.toNat) true (some j.size)))) none
  | _ => none
def sameO : Operand → Operand → Bool
  | .tmp a, .tmp b => Nat.beq a b
  | .const (.int k a), .const (.int l b) => decide (k = l) && decide (a = b)
  | _, _ => false
def fieldAddrA (T : TTab) (s : TypeId) (x : AVal) (f : Nat) : Option AVal :=
  match T s, x with
  | some { k := .struct fs, .. }, .ptr b o =>
    match fs[f]? with
    | none => none
    | some (off, t) => match T t with
      | none => none
      | some i => if i.size = 0 then none else some (.ptr b (o + off))
  | _, _ => none
def fieldA (T : TTab) (s : TypeId) (x : AVal) (f : Nat) : Option AVal :=
  match T s, x with
  | some { k := .struct fs, .. }, .agg cs =>
    match fs[f]? with
    | none => none
    | some (off, t) => partA T t cs off
  | _, _ => none
def indexAddrA (T : TTab) (σ : Mem) (t : TypeId) (x i : AVal) : Option AVal :=
  match T t, x, i with
  | some { k := .slice e, .. }, .vec b, .int _ n =>
    match T e, σ.get b with
    | some j, some (.vec _ l _ _) => if 0 ≤ n ∧ n < l then some (.ptr b (n.toNat * j.size)) else none
    | _, _ => none
  | some { k := .slice e, .. }, .slice b o l _ _, .int _ n =>
    match T e with
    | none => none
    | some j => if 0 ≤ n ∧ n < l then some (.ptr b (o + n.toNat * j.size)) else none
  | some { k := .arr l e, .. }, .ptr b o, .int _ n =>
    match T e with
    | none => none
    | some j => if 0 ≤ n ∧ n < l then some (.ptr b (o + n.toNat * j.size)) else none
  | _, _, _ => none
def indexA (T : TTab) (t : TypeId) (x i : AVal) : Option AVal :=
  match T t, x, i with
  | some { k := .arr l e, .. }, .agg cs, .int _ n =>
    match T e with
    | none => none
    | some j => if 0 ≤ n ∧ n < l then partA T e cs (n.toNat * j.size) else none
  | some { k := .str, .. }, .str s, .int _ n =>
    if 0 ≤ n then (s[n.toNat]?).map fun b => .int .u8 b.toNat else none
  | _, _, _ => none
def keyEq (i : TyI) (x y : AVal) : Option Bool :=
  match i.k, x, y with
  | .int k, .int a n, .int b m => if a = k ∧ b = k then some (n == m) else none
  | .bool, .bool a, .bool b => some (a == b)
  | .struct _, .agg xs, .agg ys => i.flat.bind fun ks => eqCells ks xs ys
  | .arr _ _, .agg xs, .agg ys => i.flat.bind fun ks => eqCells ks xs ys
  | _, _, _ => none
def notNil : AVal → Bool
  | .nilp | .nili | .nilf | .junk _ => false
  | _ => true
def nilCheckA (v : AVal) : Option AVal := if notNil v then some v else none
def ifaceA (T : TTab) (t : TypeId) (v : AVal) : Option AVal :=
  match T t with
  | none => none
  | some i => if i.k = .iface ∨ v.isTup = true then none else some (.iface t v)
def assertA (T : TTab) (t : TypeId) (x : AVal) (ok : Bool) : Option AVal :=
  match T t with
  | none => none
  | some i => cond (match i.k with | .iface => true | .other => true | _ => false) none (match x with
    | .iface u v => if u = t then some (if ok then .tup [v, .bool true] else v) else if ok then (if i.agg then some (.agg i.zero) else i.zero.head?).map fun z => .tup [z, .bool false] else none
    | .nili => if ok then (if i.agg then some (.agg i.zero) else i.zero.head?).map fun z => .tup [z, .bool false] else none
    | _ => none)
def findA (i : TyI) (k : AVal) : List (AVal × AVal × Nat) → Nat → Option (Option (Nat × AVal))
  | [], _ => some none
  | (x, v, _) :: r, n => match keyEq i k x with
    | some true => some (some (n, v))
    | some false => findA i k r (n + 1)
    | none => none
def zeroA (i : TyI) : Option AVal := if i.agg then some (.agg i.zero) else i.zero.head?
def entriesA (σ : Mem) (x : AVal) : Option (List (AVal × AVal × Nat)) :=
  match x with
  | .nilm => some []
  | .map b => match σ.get b with
    | some (.map es _) => some es
    | _ => none
  | _ => none
def lookupA (T : TTab) (σ : Mem) (t : TypeId) (x k : AVal) (ok : Bool) : Option AVal :=
  match T t with
  | some { k := .map kt et, .. } =>
    match T kt, T et, entriesA σ x with
    | some ki, some ei, some es =>
      if (keyEq ki k k).isSome then
        match findA ki k es 0 with
        | some (some (_, v)) => some (if ok then .tup [v, .bool true] else v)
        | some none => (zeroA ei).map fun z => if ok then .tup [z, .bool false] else z
        | none => none
      else none
    | _, _, _ => none
  | _ => none
def mapPutA (T : TTab) (σ : Mem) (t : TypeId) (x k v : AVal) : Option Mem :=
  match T t, x with
  | some { k := .map kt _, .. }, .map b =>
    match T kt, σ.get b with
    | some ki, some (.map es clock) =>
      if (keyEq ki k k).isSome ∧ sc 0 k = true ∧ sc 0 v = true then
        match findA ki k es 0 with
        | some (some (i, _)) => some (σ.set b (.map (es.modify i fun e => (k, v, e.2.2)) clock))
        | some none => some (σ.set b (.map (es ++ [(k, v, clock)]) (clock + 1)))
        | none => none
      else none
    | _, _ => none
  | _, _ => none
def mapDelA (T : TTab) (σ : Mem) (t : TypeId) (x k : AVal) : Option Mem :=
  match T t, x with
  | some { k := .map kt _, .. }, .map b =>
    match T kt, σ.get b with
    | some ki, some (.map es clock) =>
      if (keyEq ki k k).isSome then
        match findA ki k es 0 with
        | some (some (i, _)) => some (σ.set b (.map (es.eraseIdx i) clock))
        | some none => some (σ.set b (.map es clock))
        | none => none
      else none
    | _, _ => none
  | _, _ => none
def mapEntryA (T : TTab) (σ : Mem) (t : TypeId) (x k : AVal) : Option (AVal × Mem) :=
  match T t, x with
  | some { k := .map kt et, .. }, .map b =>
    match T kt, T et, σ.get b with
    | some ki, some ei, some (.map es clock) =>
      if (keyEq ki k k).isSome ∧ sc 0 k = true then
        match findA ki k es 0 with
        | some (some (i, u)) => match es[i]? with
          | some e => some (.tup [u, .int .i64 e.2.2], σ.set b (.map (es.modify i fun e => (k, e.2.1, e.2.2)) clock))
          | none => none
        | some none => match zeroA ei with
          | some z => some (.tup [z, .int .i64 clock], σ.set b (.map (es ++ [(k, z, clock)]) (clock + 1)))
          | none => none
        | none => none
      else none
    | _, _, _ => none
  | _, _ => none
def entryStoreA (σ : Mem) (x n v : AVal) : Option Mem :=
  match x, n with
  | .map b, .int _ n => match σ.get b with
    | some (.map es clock) => if sc 0 v = true then (es.findIdx? fun e => decide ((e.2.2 : Int) = n)).map fun i => σ.set b (.map (es.modify i fun e => (e.1, v, e.2.2)) clock) else none
    | _ => none
  | _, _ => none
def elemsA (σ : Mem) (size : Nat) (x : AVal) : Option (List AVal × Nat) :=
  match x with
  | .nils => some ([], 0)
  | .emp _ => some ([], 0)
  | .slice b o l _ _ => (cellsAt σ b o (l * size)).map fun cs => (cs, l)
  | .vec b => match σ.get b with
    | some (.vec cs n sz _) => if sz = size then some (cs, n) else none
    | _ => none
  | _ => none
def bytesStrA (T : TTab) (σ : Mem) (src dst : TypeId) (x : AVal) : Option AVal :=
  match T src, T dst with
  | some { k := .slice e, .. }, some { k := .str, .. } => cond (isByteT (T e)) (match elemsA σ 1 x with
    | some (cs, _) => (byteL cs).map fun l => .str ⟨l.toArray⟩
    | none => none) none
  | _, _ => none
def flatA (σ : Mem) (size : Nat) (x : AVal) : Bool :=
  match x with
  | .nils | .emp _ | .vec _ => true
  | .slice b o l _ _ => match cellsAt σ b o (l * size) with
    | some cs => scC 0 cs
    | none => false
  | _ => false
def AVal.isAggV : AVal → Bool
  | .agg _ => true
  | _ => false
def appendB (σ : Mem) (j : TyI) (cs : List AVal) (l : Nat) (ds : List AVal) (m : Nat) (s x : AVal) : Option (AVal × Mem) :=
  match s with
  | .vec i => match σ.get i with
    | some (.vec _ _ _ true) => if flatA σ j.size x then some (.vec σ.next, (σ.set i .dead).push (.vec (cs ++ ds) (l + m) j.size true)) else none
    | _ => none
  | .nils => if flatA σ j.size x then some (.vec σ.next, σ.push (.vec ds m j.size true)) else if m = 0 then some (.nils, σ) else some (.slice σ.next 0 (l + m) false 0, σ.push (.cells (cs ++ ds) true (some j.size)))
  | .emp i => if flatA σ j.size x then some (.vec σ.next, σ.push (.vec ds m j.size true)) else if m = 0 then some (.emp i, σ) else some (.slice σ.next 0 (l + m) false 0, σ.push (.cells (cs ++ ds) true (some j.size)))
  | .slice b o _ true c =>
    if c = 0 ∧ l = 0 ∧ flatA σ j.size x = true then some (.vec σ.next, σ.push (.vec ds m j.size true)) else
    if l + m ≤ c then (if m = 0 then some (s, σ) else (putA σ b (o + l * j.size) ds).map fun σ' => (.slice b o (l + m) true c, σ'))
    else if flatA σ j.size s && flatA σ j.size x then some (.vec σ.next, σ.push (.vec (cs ++ ds) (l + m) j.size true)) else some (.slice σ.next 0 (l + m) false 0, σ.push (.cells (cs ++ ds) true (some j.size)))
  | .slice b o _ false c =>
    match σ.get b with
    | some (.cells bs true (some g)) =>
      if g = j.size ∧ o = c * g ∧ o + l * g = bs.length then
        some (.slice σ.next 0 (l + m) false 0, (σ.set b .dead).push (.cells (cs ++ ds) true (some j.size)))
      else none
    | _ => none
  | _ => none
def appendA (T : TTab) (σ : Mem) (t : TypeId) (s x : AVal) : Option (AVal × Mem) :=
  match T t with
  | some { k := .slice e, .. } =>
    match T e with
    | none => none
    | some j =>
      match elemsA σ j.size s, elemsA σ j.size x with
      | some (cs, l), some (ds, m) => if j.size = 0 ∨ j.bytes = 0 ∨ 2 * (l + m) * j.bytes > 2 ^ 48 then none else appendB σ j cs l ds m s x
      | _, _ => none
  | _ => none
def lenA (T : TTab) (σ : Mem) (t : TypeId) (x : AVal) : Option AVal :=
  match T t with
  | none => none
  | some i =>
    match i.k, x with
    | .str, .str s => some (.int .i64 s.size)
    | .arr n _, _ => some (.int .i64 n)
    | .slice _, .slice _ _ l _ _ => some (.int .i64 l)
    | .slice _, .nils => some (.int .i64 0)
    | .slice _, .emp _ => some (.int .i64 0)
    | .slice _, .vec b => match σ.get b with
      | some (.vec _ n _ _) => some (.int .i64 n)
      | _ => none
    | .map _ _, .nilm => some (.int .i64 0)
    | .map _ _, .map b => match σ.get b with
      | some (.map es _) => some (.int .i64 es.length)
      | _ => none
    | _, _ => none
def mmA (mx : Bool) : AVal → List AVal → Option AVal
  | x, [] => some x
  | .int k x, .int _ y :: r => mmA mx (.int k (if mx then (if y > x then y else x) else (if y < x then y else x))) r
  | _, _ => none
def minmaxA (mx : Bool) : List AVal → Option AVal
  | x :: r => mmA mx x r
  | [] => none
inductive ARes where
  | ret (v : AVal)
  | pan (v : AVal)
  deriving Inhabited
abbrev Hooks := FuncId → List AVal → Mem → Option (ARes × Mem)
def markF : FuncId := 1000000000
structure ADef where
  f : FuncId
  cap : List AVal
  args : List AVal
  deriving Inhabited
inductive ORes where
  | val (v : AVal)
  | skip
  | pan (v : AVal)
  | dfr (d : ADef)
  deriving Inhabited
def evP (tm : List AVal) : List (Nat × Operand) → Option (List (Nat × AVal))
  | [] => some []
  | (i, x) :: xs => match ev tm x, evP tm xs with
    | some v, some vs => some ((i, v) :: vs)
    | _, _ => none
def eqEs : List (AVal × AVal × Nat) → List (AVal × AVal × Nat) → Bool
  | [], [] => true
  | (a, b, n) :: x, (c, d, m) :: y => aeq a c && aeq b d && Nat.beq n m && eqEs x y
  | _, _ => false
def eqNs : List Nat → List Nat → Bool
  | [], [] => true
  | a :: x, b :: y => Nat.beq a b && eqNs x y
  | _, _ => false
def eqb : Bool → Bool → Bool
  | true, true => true
  | false, false => true
  | _, _ => false
def eqON : Option Nat → Option Nat → Bool
  | none, none => true
  | some a, some b => Nat.beq a b
  | _, _ => false
def eqB : ABlk → ABlk → Bool
  | .cells a o g, .cells b p h => aeqL a b && eqb o p && eqON g h
  | .vec a n s o, .vec b m t p => aeqL a b && Nat.beq n m && Nat.beq s t && eqb o p
  | .map a c, .map b d => eqEs a b && Nat.beq c d
  | .iter a b l c, .iter a' b' l' c' => Nat.beq a a' && Nat.beq b b' && eqNs l l' && Nat.beq c c'
  | .dead, .dead => true
  | .coll, .coll => true
  | .turn a b, .turn c d => Nat.beq a c && Nat.beq b d
  | _, _ => false
def eqBs : List (Nat × ABlk) → List (Nat × ABlk) → Bool
  | [], [] => true
  | (a, b) :: x, (c, d) :: y => Nat.beq a c && eqB b d && eqBs x y
  | _, _ => false
def eqMem (a b : Mem) : Bool := Nat.beq a.next b.next && eqBs a.bs b.bs
def dynTy : TypeId := 22
def dynRd (f : Operand) (ts : List TypeId) : Bool :=
  match f with
  | .tmp _ => (match ts with
    | [t] => Nat.beq t dynTy
    | _ => false)
  | _ => false
def callA (H : Hooks) (σ : Mem) (f : AVal) (args : List AVal) : Option (ORes × Mem) :=
  match f with
  | .func g fs cs => match H g (fs ++ args ++ cs) σ with
    | some (.ret v, σ') => some (.val v, σ')
    | some (.pan v, σ') => some (.pan v, σ')
    | none => none
  | _ => none
def dynR (H : Hooks) (σ : Mem) (b : Bool) (g : AVal) (vs : List AVal) : Option (ORes × Mem) :=
  cond b (cond (sc 0 g && scL 0 vs) (match callA H ⟨0, []⟩ g vs with
    | some (.val v, σ') => cond (eqMem σ' ⟨0, []⟩ && sc 0 v) (some (.val v, σ)) none
    | _ => none) none) (callA H σ g vs)
def builtinA (T : TTab) (b : Builtin) (ts : List TypeId) (args : List AVal) (σ : Mem) : Option (ORes × Mem) :=
  match b, ts, args with
  | .len, t :: _, x :: _ => (lenA T σ t x).map fun v => (.val v, σ)
  | .append, [t, u], [s, x] => match T u with
    | some { k := .slice _, .. } => (appendA T σ t s x).map fun (v, σ') => (.val v, σ')
    | _ => none
  | .delete, t :: _, [x, k] => (mapDelA T σ t x k).map fun σ' => (.val (.tup []), σ')
  | .max, _, l => (minmaxA true l).map fun v => (.val v, σ)
  | .min, _, l => (minmaxA false l).map fun v => (.val v, σ)
  | _, _, _ => none
def arrLike (T : TTab) (t : TypeId) : Bool :=
  match T t with
  | some i => match i.flat with
    | some (.int k :: ks) => ks.all (fun x => decide (x = .int k)) && (match i.k with
      | .arr _ _ => true
      | .struct [(_, e)] => (match T e with
        | some { k := .arr _ _, .. } => true
        | _ => false)
      | _ => false)
    | _ => false
  | none => false
def blkOf (q : Bool) (cs : List AVal) : ABlk := if q && scC 0 cs && !cs.isEmpty then .vec cs 1 cs.length true else .cells cs true none
def evO (tm : List AVal) : Option Operand → Option (Option AVal)
  | none => some none
  | some x => (ev tm x).map some
def rangeA (T : TTab) (σ : Mem) (t : TypeId) (x : AVal) : Option (AVal × Mem) :=
  match T t, x with
  | some { k := .map _ _, .. }, .map b => match σ.get b with
    | some (.map _ clock) => some (.ptr σ.next 0, σ.push (.iter b clock [] clock))
    | _ => none
  | _, _ => none
def leftA (es : List (AVal × AVal × Nat)) (seen : List Nat) : List (AVal × AVal × Nat) := es.filter fun e => !seen.contains e.2.2
def iterA (σ : Mem) (x : AVal) : Option (Nat × Nat × Nat × List Nat × List (AVal × AVal × Nat) × Nat) :=
  match x with
  | .ptr i 0 => match σ.get i with
    | some (.iter m since seen last) => match σ.get m with
      | some (.map es clock) => if since ≤ last ∧ since ≤ clock ∧ es.all (fun e => decide (e.2.2 < since)) = true then some (i, m, since, seen, es, clock) else none
      | _ => none
    | _ => none
  | _ => none
def nextA (σ : Mem) (x : AVal) : Option (AVal × Mem) :=
  match iterA σ x with
  | some (i, m, since, seen, es, clock) => match leftA es seen with
    | [] => some (.tup [.bool false], σ)
    | [e] => some (.tup [.bool true, e.1, e.2.1], σ.set i (.iter m since (seen ++ [e.2.2]) clock))
    | _ => none
  | none => none
def entryA (σ : Mem) (x : AVal) : Option AVal :=
  match x with
  | .ptr i 0 => match σ.get i with
    | some (.iter m _ seen last) => match σ.get m, seen.getLast? with
      | some (.map es clock), some st => if clock = last then (es.find? fun e => e.2.2 == st).map fun e => .tup [e.1, e.2.1] else none
      | _, _ => none
    | _ => none
  | _ => none
def boundA (x : Option AVal) (d : Nat) : Option Nat :=
  match x with
  | none => some d
  | some (.int _ n) => if 0 ≤ n then some n.toNat else none
  | _ => none
def strCut (s : ByteArray) (lo hi : Nat) : ByteArray := ⟨((s.data.toList.drop lo).take (hi - lo)).toArray⟩
def sliceA (T : TTab) (σ : Mem) (t : TypeId) (x : AVal) (low high : Option AVal) : Option (AVal × Mem) :=
  match T t with
  | some { k := .slice e, .. } => match T e with
    | none => none
    | some j => match x with
      | .slice b o l ex c => match boundA low 0, boundA high l with
        | some lo, some hi => if lo ≤ hi ∧ hi ≤ l ∧ ex = true ∧ hi ≤ c then (if lo = 0 then some (.slice b o hi ex c, σ) else if lo < c then some (.slice b (o + lo * j.size) (hi - lo) ex (c - lo), σ) else none)
          else if ex = false ∧ o = 0 ∧ c = 0 ∧ lo = 0 ∧ hi ≤ l then (match σ.get b with
            | some (.cells bs true (some g)) => if g = j.size ∧ 0 < g ∧ l * g ≤ bs.length then some (.slice σ.next 0 hi false 0, (σ.set b .dead).push (.cells (bs.take (hi * g)) true (some g))) else none
            | _ => none)
          else none
        | _, _ => none
      | .vec b => match σ.get b, boundA low 0 with
        | some (.vec cs n sz true), some 0 => match boundA high n with
          | some hi => if hi ≤ n ∧ hi ≠ 0 ∧ sz = j.size ∧ hi * sz ≤ cs.length ∧ 0 < sz then some (.vec σ.next, (σ.set b .dead).push (.vec (cs.take (hi * sz)) hi sz true))
            else if hi = 0 ∧ cs.isEmpty = false ∧ sz = j.size then some (.slice σ.next 0 0 false 0, (σ.set b .dead).push (.cells [] true (some sz))) else none
          | none => none
        | _, _ => none
      | _ => none
  | some { k := .arr n e, .. } => match T e, x, low, high with
    | some _, .ptr b o, none, none => some (.slice b o n true n, σ)
    | _, _, _, _ => none
  | some { k := .str, .. } => match x with
    | .str s => match boundA low 0, boundA high s.size with
      | some lo, some hi => if lo ≤ hi ∧ hi ≤ s.size then some (.str (strCut s lo hi), σ) else none
      | _, _ => none
    | _ => none
  | _ => none
def aexec (T : TTab) (H : Hooks) (op : Op) (tm : List AVal) (σ : Mem) : Option (ORes × Mem) :=
  let pure1 (r : Option AVal) : Option (ORes × Mem) := r.map fun v => (.val v, σ)
  match op with
  | .move x | .assign x => pure1 (ev tm x)
  | .pick c a b => match ev tm c with
    | some (.bool true) => pure1 (ev tm a)
    | some (.bool false) => pure1 (ev tm b)
    | _ => none
  | .alloc t => match T t with
    | none => none
    | some i => some (.val (.ptr σ.next 0), σ.push (blkOf (arrLike T t) i.zero))
  | .box t x => match ev tm x with
    | some v => if v.isTup then none else some (.val (.ptr σ.next 0), σ.push (blkOf (arrLike T t) v.cellsOf))
    | none => none
  | .build t ps => match evP tm ps.toList with
    | some vs => pure1 (buildA T t vs)
    | none => none
  | .buildSlice t n ps => match evP tm ps.toList with
    | some vs => (buildSliceA T σ t n vs).map fun (v, σ') => (.val v, σ')
    | none => none
  | .makeSlice t l c => match sameO l c, ev tm l with
    | true, some (.int _ n) => (makeA T σ t n).map fun (v, σ') => (.val v, σ')
    | _, _ => none
  | .load t x => match ev tm x with
    | some a => pure1 (loadA T σ t a)
    | none => none
  | .store t x y => match ev tm x, ev tm y with
    | some a, some v => (storeA T σ t a v).map fun σ' => (.skip, σ')
    | _, _ => none
  | .binOp op t x y _ => match ev tm x, ev tm y with
    | some a, some b => pure1 (binM T σ (isCst x || isCst y) (isNilC x || isNilC y) op t a b)
    | _, _ => none
  | .unOp op _ x => match ev tm x with
    | some a => pure1 (unA op a)
    | none => none
  | .convert src dst x => match Nat.beq dst bytesTy, Nat.beq src bytesTy, ev tm x with
    | true, _, some a => (strBytesA T σ src dst a).map fun (v, σ') => (.val v, σ')
    | false, true, some a => pure1 (bytesStrA T σ src dst a)
    | false, false, some a => pure1 (convA T src dst a)
    | _, _, _ => none
  | .makeFunc (.func f) fs cs => match evL tm fs.toList, evL tm cs.toList with
    | some a, some b => some (.val (.func f a b), σ)
    | _, _ => none
  | .makeMap _ none => some (.val (.map σ.next), σ.push (.map [] 0))
  | .fieldAddr s x f => match ev tm x with
    | some a => pure1 (fieldAddrA T s a f)
    | none => none
  | .field s x f => match ev tm x with
    | some a => pure1 (fieldA T s a f)
    | none => none
  | .indexAddr t x i => match ev tm x, ev tm i with
    | some a, some b => pure1 (indexAddrA T σ t a b)
    | _, _ => none
  | .index t x i => match ev tm x, ev tm i with
    | some a, some b => pure1 (indexA T t a b)
    | _, _ => none
  | .lookup t x k ok => match ev tm x, ev tm k with
    | some a, some b => pure1 (lookupA T σ t a b ok)
    | _, _ => none
  | .mapEntry t m k => match ev tm m, ev tm k with
    | some a, some b => (mapEntryA T σ t a b).map fun (v, σ') => (.val v, σ')
    | _, _ => none
  | .entryStore _ m n x => match ev tm m, ev tm n, ev tm x with
    | some a, some b, some v => (entryStoreA σ a b v).map fun σ' => (.skip, σ')
    | _, _, _ => none
  | .mapUpdate t m k x => match ev tm m, ev tm k, ev tm x with
    | some a, some b, some v => (mapPutA T σ t a b v).map fun σ' => (.skip, σ')
    | _, _, _ => none
  | .range t x => match ev tm x with
    | some a => (rangeA T σ t a).map fun (v, σ') => (.val v, σ')
    | none => none
  | .next x false => match ev tm x with
    | some a => (nextA σ a).map fun (v, σ') => (.val v, σ')
    | none => none
  | .entry x => match ev tm x with
    | some a => pure1 (entryA σ a)
    | none => none
  | .slice t x l h none => match ev tm x, evO tm l, evO tm h with
    | some a, some lo, some hi => (sliceA T σ t a lo hi).map fun (v, σ') => (.val v, σ')
    | _, _, _ => none
  | .extract x i => match ev tm x with
    | some (.tup vs) => pure1 (vs[i]?)
    | _ => none
  | .nilCheck x => match ev tm x with
    | some v => pure1 (nilCheckA v)
    | none => none
  | .makeInterface t x => match ev tm x with
    | some v => pure1 (ifaceA T t v)
    | none => none
  | .typeAssert x _ t ok => match ev tm x with
    | some v => pure1 (assertA T t v ok)
    | none => none
  | .panic x => match ev tm x with
    | some (.iface t v) => some (.pan (.iface t v), σ)
    | _ => none
  | .defer { callee := .value f, args, .. } => match ev tm f, evL tm args.toList with
    | some (.func g fs cs), some vs => if g = markF then none else some (.dfr ⟨g, cs, fs ++ vs⟩, σ)
    | _, _ => none
  | .call { callee := .builtin b, args, argTypes } => match evL tm args.toList with
    | some vs => builtinA T b argTypes.toList vs σ
    | none => none
  | .call { callee := .value f, args, argTypes } => match ev tm f, evL tm args.toList with
    | some g, some vs => dynR H σ (dynRd f argTypes.toList) g vs
    | _, _ => none
  | _ => none
end Go.Ev

