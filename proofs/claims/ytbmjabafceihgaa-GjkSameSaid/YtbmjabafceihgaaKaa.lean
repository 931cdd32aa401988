import Derived.Orders
import Derived.Defers
import Derived.Below
import Derived.Laws.CopyRow
import Derived.Laws.Cells
import Derived.Laws.Entries
import Derived.Laws.Strings
import Derived.Laws.MakeOwn
set_option linter.unusedVariables false
set_option linter.unusedSimpArgs false
set_option maxRecDepth 100000
noncomputable section
namespace Go.Ev
inductive ab where
 | bool (b : Bool)
 | int (k : IntKind) (n : Int)
 | str (s : ByteArray)
 | ptr (i o : Nat)
 | dR
 | slice (i o l : Nat) (ex : Bool) (c : Nat)
 | aL
 | emp (i : Nat)
 | map (i : Nat)
 | eR
 | func (f : FuncId) (fs cs : List ab)
 | cN
 | iface (t : TypeId) (v : ab)
 | dr
 | agg (cs : List ab)
 | tup (vs : List ab)
 | dm (i : Nat)
 | vec (i : Nat)
 deriving Inhabited
abbrev LA_ := List ab
theorem bE_ {A B : Type} {x : Option A} {f : A → Option B} {b : B} (h : x.bind f = some b) : ∃ a, x = some a ∧ f a = some b := Option.bind_eq_some_iff.1 h
theorem Uy.{u, v} {α : Type u} {β : Type v} (a : α) (f : α → Option β) : (some a).bind f = f a := rfl
theorem Uz.{u, v} {α : Type u} {β : Type v} (f : α → Option β) : (none : Option α).bind f = none := rfl
theorem UA.{u, v, w} {α : Type u} {β : Type v} {γ : Type w} (x : Option α) (f : α → Option β) (g : β → Option γ) : (x.bind f).bind g = x.bind fun y => (f y).bind g := Option.bind_assoc x f g
theorem UB.{u} {α : Type u} (a b : α) : (some a = some b) = (a = b) := Option.some.injEq a b
theorem UC (a b : Bool) : ((a && b) = true) = (a = true ∧ b = true) := Bool.and_eq_true a b
theorem UD.{u, v} {α : Type u} {β : Type v} (a : α) (b : β) (c : α) (d : β) : ((a, b) = (c, d)) = (a = c ∧ b = d) := Prod.mk.injEq a b c d
theorem UE : (false = true) = False := Bool.false_eq_true
theorem UF (b : Bool) : (b && b) = b := Bool.and_self b
theorem UG {p : Prop} [Decidable p] (h : ¬ p) : decide p = false := decide_eq_false h
theorem UH {p : Prop} [Decidable p] (h : p) : decide p = true := decide_eq_true h
theorem UI {p : Prop} [Decidable p] : (decide p = true) = p := decide_eq_true_eq
theorem UJ.{u} {α : Type u} {l : List α} {i : Nat} (h : i < l.length) : l[i]? = some l[i] := List.getElem?_eq_getElem h
theorem UK.{u} {α : Type u} {l : List α} {i : Nat} {a : α} : l.getD i a = l[i]?.getD a := List.getD_eq_getElem?_getD
theorem UL.{u} {α : Type u} {l : List α} {i : Nat} {a : α} : l[i]? = some a ↔ ∃ h : i < l.length, l[i] = a := List.getElem?_eq_some_iff
theorem UM.{u, v} {α : Type u} {β : Type v} {x : Option α} {f : α → β} {b : β} : x.map f = some b ↔ ∃ a, x = some a ∧ f a = b := Option.map_eq_some_iff
theorem UN : type_of% @Result.andThen_ok := @Result.andThen_ok
theorem UO : type_of% @Sem.run_bind := @Sem.run_bind
theorem UP : type_of% @Sem.run_pure := @Sem.run_pure
theorem UQ.{u} : type_of% @List.length_append.{u} := @List.length_append.{u}
theorem UR : type_of% @Nat.eq_of_beq_eq_true := @Nat.eq_of_beq_eq_true
theorem US.{u, v} : type_of% @Option.map_some.{u, v} := @Option.map_some.{u, v}
theorem UT : type_of% @Int.mul_le_mul_of_nonneg_right := @Int.mul_le_mul_of_nonneg_right
theorem UU : type_of% @Int.mul_le_mul_of_nonneg_left := @Int.mul_le_mul_of_nonneg_left
theorem UV.{u} : type_of% @List.append_assoc.{u} := @List.append_assoc.{u}
theorem UW.{u} : type_of% @List.length_cons.{u} := @List.length_cons.{u}
theorem UX.{u} : type_of% @Array.getElem?_toList.{u} := @Array.getElem?_toList.{u}
theorem UY.{u, v, w} : type_of% @Sum.elim_inr.{u, v, w} := @Sum.elim_inr.{u, v, w}
theorem UZ.{u, v, w} : type_of% @Sum.elim_inl.{u, v, w} := @Sum.elim_inl.{u, v, w}
theorem U0.{u} : type_of% @List.mem_zipIdx_iff_getElem?.{u} := @List.mem_zipIdx_iff_getElem?.{u}
theorem U1.{u} : type_of% @List.mem_append.{u} := @List.mem_append.{u}
structure Loc where
 blk : Nat
 base : Nat
 dS : Nat
 odd : Addr := ⟨0, 0, none⟩
 val : Value := .nilIface
 sp : Option Addr := none
 sl : Nat := 0
 sk : Nat := 0
 lp : Loop := default
 deriving Inhabited
abbrev Loc.mk3 (b o c : Nat) : Loc := ⟨b, o, c, ⟨0, 0, none⟩, .nilIface, none, 0, 0, default⟩
mutual
def γ (ρ : Nat → Loc) : ab → Value
 | .bool b => .bool b
 | .int k n => .int k n
 | .str s => .string s
 | .ptr i o => .pointer (some ⟨(ρ i).blk, (ρ i).base + o, none⟩)
 | .dR => .pointer none
 | .slice i o l ex c => .slice (some ⟨(ρ i).blk, (ρ i).base + o, none⟩) l (if ex then c else (ρ i).dS - c)
 | .aL => .slice none 0 0
 | .emp i => .slice (some (ρ i).odd) 0 0
 | .map i => .map (some (ρ i).blk)
 | .eR => .map none
 | .func f fs cs => .func (.func f) (γL ρ fs).toArray (γL ρ cs).toArray
 | .cN => .nilFunc
 | .iface t v => .iface t (γ ρ v)
 | .dr => .nilIface
 | .agg cs => .agg (γL ρ cs).toArray
 | .tup vs => .tuple (γL ρ vs).toArray
 | .dm i => (ρ i).val
 | .vec i => .slice (ρ i).sp (ρ i).sl (ρ i).sk
def γL (ρ : Nat → Loc) : LA_ → List Value
 | [] => []
 | v :: vs => γ ρ v :: γL ρ vs
end
def ab.eV : ab → Bool
 | .agg _ | .tup _ | .dm _ => false
 | _ => true
mutual
def sc (n : Nat) : ab → Bool
 | .ptr i _ => decide (i < n)
 | .slice i _ _ _ _ => decide (i < n)
 | .emp i => decide (i < n)
 | .map i => decide (i < n)
 | .func _ fs cs => scL n fs && scL n cs
 | .iface _ v => sc n v
 | .agg cs => scC n cs
 | .tup vs => scL n vs
 | .dm i => decide (i < n)
 | .vec i => decide (i < n)
 | _ => true
def scL (n : Nat) : LA_ → Bool
 | [] => true
 | v :: vs => sc n v && scL n vs
def scC (n : Nat) : LA_ → Bool
 | [] => true
 | v :: vs => v.eV && sc n v && scC n vs
end
mutual
def aeq : ab → ab → Bool
 | .bool a, .bool b => a == b
 | .int k a, .int l b => decide (k = l) && a == b
 | .str a, .str b => a.data.toList == b.data.toList
 | .ptr i o, .ptr j p => i == j && o == p
 | .dR, .dR => true
 | .slice i o l e c, .slice i' o' l' e' c' => i == i' && o == o' && l == l' && e == e' && c == c'
 | .aL, .aL => true
 | .emp i, .emp j => i == j
 | .map i, .map j => i == j
 | .eR, .eR => true
 | .func f a b, .func g c d => f == g && mY a c && mY b d
 | .cN, .cN => true
 | .iface t v, .iface u w => t == u && aeq v w
 | .dr, .dr => true
 | .agg a, .agg b => mY a b
 | .tup a, .tup b => mY a b
 | .dm i, .dm j => i == j
 | .vec i, .vec j => i == j
 | _, _ => false
def mY : LA_ → LA_ → Bool
 | [], [] => true
 | a :: x, b :: y => aeq a b && mY x y
 | _, _ => false
end
inductive am where
 | cells (cs : LA_) (own : Bool) (gr : Option Nat)
 | vec (cs : LA_) (n sz : Nat) (own : Bool)
 | map (es : List (ab × ab × Nat)) (clock : Nat)
 | iter (m since : Nat) (seen : List Nat) (last : Nat)
 | jm
 | bM (k i : Nat)
 | dead
 deriving Inhabited
structure Mem where
 next : Nat
 bs : List (Nat × am)
 deriving Inhabited
def look : List (Nat × am) → Nat → Option am
 | [], _ => none
 | (j, b) :: r, i => if j == i then some b else look r i
def Mem.get (σ : Mem) (i : Nat) : Option am := look σ.bs i
def Mem.push (σ : Mem) (b : am) : Mem := ⟨σ.next + 1, (σ.next, b) :: σ.bs⟩
def Mem.set (σ : Mem) (i : Nat) (b : am) : Mem := ⟨σ.next, (i, b) :: σ.bs⟩
inductive TK where
 | int (k : IntKind)
 | bool
 | str
 | ptr (e : TypeId)
 | slice (e : TypeId)
 | arr (n : Nat) (e : TypeId)
 | struct (fs : List (Nat × TypeId))
 | map (k e : TypeId)
 | func
 | iface
 | other
 deriving Inhabited, DecidableEq
structure TyI where
 size : Nat
 bytes : Nat
 zero : LA_
 agg : Bool
 flat : Option (List TK)
 k : TK
 deriving Inhabited
abbrev ar := TypeId → Option TyI
def ab.cellsOf : ab → LA_
 | .agg cs => cs
 | v => [v]
def ofV : Value → Option ab
 | .bool b => some (.bool b)
 | .int k n => some (.int k n)
 | .string s => some (.str s)
 | .pointer none => some .dR
 | .slice none 0 0 => some .aL
 | .map none => some .eR
 | .nilFunc => some .cN
 | .nilIface => some .dr
 | _ => none
def ev (tm : LA_) : Operand → Option ab
 | .tmp t => some (tm.getD t (.tup []))
 | .const v => ofV v
 | .func f => some (.func f [] [])
 | .global _ => none
def evL (tm : LA_) : List Operand → Option (LA_)
 | [] => some []
 | x :: xs => match ev tm x, evL tm xs with
  | some v, some vs => some (v :: vs)
  | _, _ => none
def zP (op : BinOp) (k : IntKind) (a b : Int) : Option ab :=
 match op with
 | .add => some (.int k (k.wrap (a + b)))
 | .sub => some (.int k (k.wrap (a - b)))
 | .mul => some (.int k (k.wrap (a * b)))
 | .quo => if b = 0 then none else some (.int k (k.wrap (a.tdiv b)))
 | .rem => if b = 0 then none else some (.int k (a.tmod b))
 | .and => some (.int k (k.wrap (BitVec.ofInt k.bits a &&& BitVec.ofInt k.bits b).toNat))
 | .or => some (.int k (k.wrap (BitVec.ofInt k.bits a ||| BitVec.ofInt k.bits b).toNat))
 | .xor => some (.int k (k.wrap (BitVec.ofInt k.bits a ^^^ BitVec.ofInt k.bits b).toNat))
 | .andNot => some (.int k (k.wrap (BitVec.ofInt k.bits a &&& ~~~(BitVec.ofInt k.bits b)).toNat))
 | .eql => some (.bool (a == b))
 | .neq => some (.bool (a != b))
 | .lss => some (.bool (decide (a < b)))
 | .leq => some (.bool (decide (a ≤ b)))
 | .gtr => some (.bool (decide (a > b)))
 | .geq => some (.bool (decide (a ≥ b)))
 | _ => none
def yt (op : BinOp) (k : IntKind) (a b : Int) : Option ab :=
 if b < 0 then none else
 match op with
 | .shl => some (.int k (k.wrap (a * 2 ^ (min b.toNat k.bits))))
 | .shr => some (.int k (a.fdiv (2 ^ (min b.toNat k.bits))))
 | _ => none
def cD : List TK → LA_ → LA_ → Option Bool
 | [], [], [] => some true
 | .int k :: ks, .int a x :: xs, .int b y :: ys => if a = k ∧ b = k then (cD ks xs ys).map fun r => x == y && r else none
 | .bool :: ks, .bool x :: xs, .bool y :: ys => (cD ks xs ys).map fun r => x == y && r
 | _, _, _ => none
def HT (T : ar) (c : Bool) (t : TypeId) (x y : ab) : Option Bool :=
 match T t with
 | none => none
 | some i =>
  match i.k, x, y with
  | .bool, .bool a, .bool b => some (a == b)
  | .slice _, .aL, .aL => some true
  | .slice _, .aL, .slice .. => some false
  | .slice _, .slice .., .aL => some false
  | .slice _, .aL, .emp _ => some false
  | .slice _, .emp _, .aL => some false
  | .ptr _, .dR, .dR => some true
  | .ptr _, .dR, .ptr .. => some false
  | .ptr _, .ptr .., .dR => some false
  | .map _ _, .eR, .eR => some true
  | .map _ _, .eR, .map .. => some false
  | .map _ _, .map .., .eR => some false
  | .func, .cN, .cN => some true
  | .func, .cN, .func .. => some false
  | .func, .func .., .cN => some false
  | .iface, .dr, .dr => if c then some true else none
  | .iface, .dr, .iface .. => some false
  | .iface, .iface .., .dr => some false
  | .struct _, .agg xs, .agg ys => i.flat.bind fun ks => cD ks xs ys
  | .arr _ _, .agg xs, .agg ys => i.flat.bind fun ks => cD ks xs ys
  | _, _, _ => none
def ml : Operand → Bool
 | .const _ => true
 | _ => false
def xy (T : ar) (c : Bool) (op : BinOp) (t : TypeId) (x y : ab) : Option ab :=
 match x, y with
 | .int k a, .int l b =>
  match op with
  | .shl | .shr => yt op k a b
  | _ => if k = l then zP op k a b else none
 | .str a, .str b =>
  match op with
  | .eql => some (.bool (a.data.toList == b.data.toList))
  | .neq => some (.bool (!(a.data.toList == b.data.toList)))
  | _ => none
 | _, _ =>
  match op with
  | .eql => (HT T c t x y).map .bool
  | .neq => (HT T c t x y).map (.bool !·)
  | _ => none
def nu : Operand → Bool
 | .const (.slice none 0 0) => true
 | _ => false
def gJ : ab → Bool
 | .aL => true
 | _ => false
def iX (σ : Mem) : ab → Bool
 | .vec i => match σ.get i with
  | some (.vec (_ :: _) _ _ _) => true
  | _ => false
 | _ => false
def F9 : Option TyI → Bool
 | some { k := .slice _, .. } => true
 | _ => false
def B9 (T : ar) (σ : Mem) (op : BinOp) (t : TypeId) (x y : ab) : Option ab :=
 cond (((gJ x && iX σ y) || (iX σ x && gJ y)) && F9 (T t)) (match op with
  | .eql => some (.bool false)
  | .neq => some (.bool true)
  | _ => none) none
def Ca (T : ar) (σ : Mem) (c n : Bool) (op : BinOp) (t : TypeId) (x y : ab) : Option ab :=
 cond n (match B9 T σ op t x y with
  | some v => some v
  | none => xy T c op t x y) (xy T c op t x y)
def unA (op : UnOp) (x : ab) : Option ab :=
 match op, x with
 | .neg, .int k n => some (.int k (k.wrap (0 - n)))
 | .xor, .int k n => zP .xor k (if k.signed then -1 else k.max) n
 | .not, .bool b => some (.bool !b)
 | _, _ => none
def Mu (T : ar) (src dst : TypeId) (x : ab) : Option ab :=
 if (T src).isNone then none else
 match T dst, x with
 | some { k := .int k, .. }, .int _ n => some (.int k (k.wrap n))
 | _, _ => none
def oK : TypeId := 999999999
def wC (T : ar) (σ : Mem) (src dst : TypeId) (x : ab) : Option (ab × Mem) := none
def Ga (T : ar) (t : TypeId) (cs : LA_) (off : Nat) : Option ab :=
 match T t with
 | none => none
 | some i => if i.agg then some (.agg ((cs.drop off).take i.size)) else cs[off]?
def cC (σ : Mem) (i o n : Nat) : Option (LA_) :=
 match σ.get i with
 | some (.cells cs _ _) => if o + n ≤ cs.length then some ((cs.drop o).take n) else none
 | some (.vec cs _ _ _) => if o + n ≤ cs.length then some ((cs.drop o).take n) else none
 | _ => none
def p8 (T : ar) (σ : Mem) (t : TypeId) (x : ab) : Option ab :=
 match T t, x with
 | some i, .ptr b o =>
  match cC σ b o i.size with
  | none => none
  | some cs => if i.agg then some (.agg cs) else cs.head?
 | _, _ => none
def spliced (cs : LA_) (o : Nat) (vs : LA_) : LA_ := cs.take o ++ vs ++ cs.drop (o + vs.length)
def xz (σ : Mem) (b o : Nat) (vs : LA_) : Option Mem :=
 match σ.get b with
 | some (.cells cs true gr) => if o + vs.length ≤ cs.length then some (σ.set b (.cells (spliced cs o vs) true gr)) else none
 | some (.vec cs n sz true) => if o + vs.length ≤ cs.length ∧ scC 0 vs = true then some (σ.set b (.vec (spliced cs o vs) n sz true)) else none
 | _ => none
def ab.p9 : ab → Bool
 | .tup _ | .dm _ => true
 | _ => false
def qa (T : ar) (σ : Mem) (t : TypeId) (x v : ab) : Option Mem :=
 match T t, x with
 | some i, .ptr b o => if v.cellsOf.length = i.size ∧ v.p9 = false then xz σ b o v.cellsOf else none
 | _, _ => none
def qb (size : Nat → Option (Nat × Nat)) (cs : LA_) : List (Nat × ab) → Option (LA_)
 | [] => some cs
 | (i, v) :: rest =>
  match size i with
  | none => none
  | some (off, n) => if v.cellsOf.length = n ∧ off + n ≤ cs.length ∧ v.p9 = false then qb size (spliced cs off v.cellsOf) rest else none
def lA (T : ar) : List (Nat × TypeId) → Option (List (Nat × Nat))
 | [] => some []
 | (off, t) :: r => match T t, lA T r with
  | some i, some ps => some ((off, i.size) :: ps)
  | _, _ => none
def JN (T : ar) (t : TypeId) (parts : List (Nat × ab)) : Option ab :=
 match T t with
 | none => none
 | some i =>
  match i.k with
  | .struct fs => match lA T fs with
   | none => none
   | some ps => (qb (ps[·]?) i.zero parts).map .agg
  | .arr _ e => match T e with
   | none => none
   | some j => (qb (fun n => some (n * j.size, j.size)) i.zero parts).map .agg
  | _ => none
def times (zero : LA_) : Nat → LA_
 | 0 => []
 | n + 1 => zero ++ times zero n
def iK (T : ar) (σ : Mem) (t : TypeId) (len : Nat) (parts : List (Nat × ab)) : Option (ab × Mem) :=
 match T t with
 | some { k := .slice e, .. } =>
  match T e with
  | none => none
  | some j =>
   if len * j.size > 2 ^ 24 ∨ j.size = 0 then none else
   match qb (fun n => some (n * j.size, j.size)) (times j.zero len) parts with
   | none => none
   | some cs => some (.slice σ.next 0 len true len, σ.push (.cells cs true (some j.size)))
 | _ => none
def Jm (j : TyI) (n : Int) : Bool := decide (0 ≤ n) && decide (n ≤ 16777216) && Nat.ble j.bytes 16777216 && !Nat.beq j.size 0
def CM (T : ar) (σ : Mem) (t : TypeId) (n : Int) : Option (ab × Mem) :=
 match T t with
 | some { k := .slice e, .. } =>
  match T e with
  | none => none
  | some j => cond (Jm j n) (some (.slice σ.next 0 n.toNat true n.toNat, σ.push (.cells (times j.zero n.toNat) true (some j.size)))) none
 | _ => none
def Jn : Operand → Operand → Bool
 | .tmp a, .tmp b => Nat.beq a b
 | .const (.int k a), .const (.int l b) => decide (k = l) && decide (a = b)
 | _, _ => false
def zQ (T : ar) (s : TypeId) (x : ab) (f : Nat) : Option ab :=
 match T s, x with
 | some { k := .struct fs, .. }, .ptr b o =>
  match fs[f]? with
  | none => none
  | some (off, t) => match T t with
   | none => none
   | some i => if i.size = 0 then none else some (.ptr b (o + off))
 | _, _ => none
def JO (T : ar) (s : TypeId) (x : ab) (f : Nat) : Option ab :=
 match T s, x with
 | some { k := .struct fs, .. }, .agg cs =>
  match fs[f]? with
  | none => none
  | some (off, t) => Ga T t cs off
 | _, _ => none
def fv (T : ar) (σ : Mem) (t : TypeId) (x i : ab) : Option ab :=
 match T t, x, i with
 | some { k := .slice e, .. }, .vec b, .int _ n =>
  match T e, σ.get b with
  | some j, some (.vec _ l _ _) => if 0 ≤ n ∧ n < l then some (.ptr b (n.toNat * j.size)) else none
  | _, _ => none
 | some { k := .slice e, .. }, .slice b o l _ _, .int _ n =>
  match T e with
  | none => none
  | some j => if 0 ≤ n ∧ n < l then some (.ptr b (o + n.toNat * j.size)) else none
 | some { k := .arr l e, .. }, .ptr b o, .int _ n =>
  match T e with
  | none => none
  | some j => if 0 ≤ n ∧ n < l then some (.ptr b (o + n.toNat * j.size)) else none
 | _, _, _ => none
def sA (T : ar) (t : TypeId) (x i : ab) : Option ab :=
 match T t, x, i with
 | some { k := .arr l e, .. }, .agg cs, .int _ n =>
  match T e with
  | none => none
  | some j => if 0 ≤ n ∧ n < l then Ga T e cs (n.toNat * j.size) else none
 | some { k := .str, .. }, .str s, .int _ n =>
  if 0 ≤ n then (s[n.toNat]?).map fun b => .int .u8 b.toNat else none
 | _, _, _ => none
def notNil : ab → Bool
 | .dR | .dr | .cN | .dm _ => false
 | _ => true
def Io (v : ab) : Option ab := if notNil v then some v else none
def Nx (T : ar) (t : TypeId) (v : ab) : Option ab :=
 match T t with
 | none => none
 | some i => if i.k = .iface ∨ v.p9 = true then none else some (.iface t v)
def LK (T : ar) (t : TypeId) (x : ab) (ok : Bool) : Option ab := none
def ur (T : ar) (σ : Mem) (t : TypeId) (x k : ab) (ok : Bool) : Option ab := none
def ut (T : ar) (σ : Mem) (t : TypeId) (x k v : ab) : Option Mem := none
def CN (T : ar) (σ : Mem) (t : TypeId) (x k : ab) : Option Mem := none
def wD (T : ar) (σ : Mem) (t : TypeId) (x k : ab) : Option (ab × Mem) := none
def rO (σ : Mem) (x n v : ab) : Option Mem := none
def bN (σ : Mem) (size : Nat) (x : ab) : Option (LA_ × Nat) :=
 match x with
 | .aL => some ([], 0)
 | .emp _ => some ([], 0)
 | .slice b o l _ _ => (cC σ b o (l * size)).map fun cs => (cs, l)
 | .vec b => match σ.get b with
  | some (.vec cs n sz _) => if sz = size then some (cs, n) else none
  | _ => none
 | _ => none
def wE (T : ar) (σ : Mem) (src dst : TypeId) (x : ab) : Option ab := none
def ui (σ : Mem) (size : Nat) (x : ab) : Bool :=
 match x with
 | .aL | .emp _ | .vec _ => true
 | .slice b o l _ _ => match σ.get b with
  | some (.vec _ _ _ _) => true
  | _ => match cC σ b o (l * size) with
   | some cs => scC 0 cs
   | none => false
 | _ => false
def Qv (σ : Mem) (size : Nat) (x : ab) : Bool :=
 match x with
 | .slice _ _ l true c => Nat.ble l c
 | .slice b o _ false c => Nat.beq o 0 && Nat.beq c 0 && (match σ.get b with
  | some (.cells _ true (some g)) => Nat.beq g size
  | _ => false)
 | _ => true
def wF (σ : Mem) (size : Nat) (x : ab) : Bool := ui σ size x && Qv σ size x
def yu (σ : Mem) (j : TyI) (cs : LA_) (l : Nat) (ds : LA_) (m : Nat) (s x : ab) : Option (ab × Mem) :=
 match s with
 | .vec i => match σ.get i with
  | some (.vec _ _ _ true) => if ui σ j.size x then some (.vec σ.next, (σ.set i .dead).push (.vec (cs ++ ds) (l + m) j.size true)) else none
  | _ => none
 | .aL => if ui σ j.size x then some (.vec σ.next, σ.push (.vec ds m j.size true)) else if m = 0 then some (.aL, σ) else some (.slice σ.next 0 (l + m) false 0, σ.push (.cells (cs ++ ds) true (some j.size)))
 | .emp i => if ui σ j.size x then some (.vec σ.next, σ.push (.vec ds m j.size true)) else if m = 0 then some (.emp i, σ) else some (.slice σ.next 0 (l + m) false 0, σ.push (.cells (cs ++ ds) true (some j.size)))
 | .slice b o _ true c =>
  if c = 0 ∧ l = 0 ∧ ui σ j.size x = true then some (.vec σ.next, σ.push (.vec ds m j.size true)) else
  if l + m ≤ c then (if m = 0 then some (s, σ) else (xz σ b (o + l * j.size) ds).map fun σ' => (.slice b o (l + m) true c, σ'))
  else if ui σ j.size s && ui σ j.size x then some (.vec σ.next, σ.push (.vec (cs ++ ds) (l + m) j.size true)) else some (.slice σ.next 0 (l + m) false 0, σ.push (.cells (cs ++ ds) true (some j.size)))
 | .slice b o _ false c =>
  match σ.get b with
  | some (.cells bs true (some g)) =>
   if g = j.size ∧ o = c * g ∧ o + l * g = bs.length then
    some (.slice σ.next 0 (l + m) false 0, (σ.set b .dead).push (.cells (cs ++ ds) true (some j.size)))
   else none
  | _ => none
 | _ => none
def oL (T : ar) (σ : Mem) (t : TypeId) (s x : ab) : Option (ab × Mem) :=
 match T t with
 | some { k := .slice e, .. } =>
  match T e with
  | none => none
  | some j =>
   match bN σ j.size s, bN σ j.size x with
   | some (cs, l), some (ds, m) => if j.size = 0 ∨ j.bytes = 0 ∨ 2 * (l + m) * j.bytes > 2 ^ 48 then none else yu σ j cs l ds m s x
   | _, _ => none
 | _ => none
def HU (T : ar) (σ : Mem) (t : TypeId) (x : ab) : Option ab :=
 match T t with
 | none => none
 | some i =>
  match i.k, x with
  | .str, .str s => some (.int .i64 s.size)
  | .arr n _, _ => some (.int .i64 n)
  | .slice _, .slice _ _ l _ _ => some (.int .i64 l)
  | .slice _, .aL => some (.int .i64 0)
  | .slice _, .emp _ => some (.int .i64 0)
  | .slice _, .vec b => match σ.get b with
   | some (.vec _ n _ _) => some (.int .i64 n)
   | _ => none
  | .map _ _, .eR => some (.int .i64 0)
  | .map _ _, .map b => match σ.get b with
   | some (.map es _) => some (.int .i64 es.length)
   | _ => none
  | _, _ => none
def mmA (mx : Bool) : ab → LA_ → Option ab
 | x, [] => some x
 | .int k x, .int _ y :: r => mmA mx (.int k (if mx then (if y > x then y else x) else (if y < x then y else x))) r
 | _, _ => none
def CO (mx : Bool) : LA_ → Option ab
 | x :: r => mmA mx x r
 | [] => none
inductive fc where
 | ret (v : ab)
 | pan (v : ab)
 deriving Inhabited
abbrev bT := FuncId → LA_ → Mem → Option (fc × Mem)
def wG : FuncId := 1000000000
structure oh where
 f : FuncId
 cap : LA_
 args : LA_
 deriving Inhabited
inductive cF where
 | val (v : ab)
 | skip
 | pan (v : ab)
 | dfr (d : oh)
 deriving Inhabited
def evP (tm : LA_) : List (Nat × Operand) → Option (List (Nat × ab))
 | [] => some []
 | (i, x) :: xs => match ev tm x, evP tm xs with
  | some v, some vs => some ((i, v) :: vs)
  | _, _ => none
def HV : List (ab × ab × Nat) → List (ab × ab × Nat) → Bool
 | [], [] => true
 | (a, b, n) :: x, (c, d, m) :: y => aeq a c && aeq b d && Nat.beq n m && HV x y
 | _, _ => false
def HW : List Nat → List Nat → Bool
 | [], [] => true
 | a :: x, b :: y => Nat.beq a b && HW x y
 | _, _ => false
def eqb : Bool → Bool → Bool
 | true, true => true
 | false, false => true
 | _, _ => false
def JP : Option Nat → Option Nat → Bool
 | none, none => true
 | some a, some b => Nat.beq a b
 | _, _ => false
def eqB : am → am → Bool
 | .cells a o g, .cells b p h => mY a b && eqb o p && JP g h
 | .vec a n s o, .vec b m t p => mY a b && Nat.beq n m && Nat.beq s t && eqb o p
 | .map a c, .map b d => HV a b && Nat.beq c d
 | .iter a b l c, .iter a' b' l' c' => Nat.beq a a' && Nat.beq b b' && HW l l' && Nat.beq c c'
 | .dead, .dead => true
 | .jm, .jm => true
 | .bM a b, .bM c d => Nat.beq a c && Nat.beq b d
 | _, _ => false
def HX : List (Nat × am) → List (Nat × am) → Bool
 | [], [] => true
 | (a, b) :: x, (c, d) :: y => Nat.beq a c && eqB b d && HX x y
 | _, _ => false
def wH (a b : Mem) : Bool := Nat.beq a.next b.next && HX a.bs b.bs
def TT : TypeId := 999999998
def nM (f : Operand) (ts : List TypeId) : Bool :=
 match f with
 | .tmp _ => (match ts with
  | [t] => Nat.beq t TT
  | _ => false)
 | _ => false
def gi (H : bT) (σ : Mem) (f : ab) (args : LA_) : Option (cF × Mem) :=
 match f with
 | .func g fs cs => match H g (fs ++ args ++ cs) σ with
  | some (.ret v, σ') => some (.val v, σ')
  | some (.pan v, σ') => some (.pan v, σ')
  | none => none
 | _ => none
def qd (H : bT) (σ : Mem) (b : Bool) (g : ab) (vs : LA_) : Option (cF × Mem) :=
 cond b (cond (sc 0 g && scL 0 vs) (match gi H ⟨0, []⟩ g vs with
  | some (.val v, σ') => cond (wH σ' ⟨0, []⟩ && sc 0 v) (some (.val v, σ)) none
  | _ => none) none) (gi H σ g vs)
def iL (T : ar) (b : Builtin) (ts : List TypeId) (args : LA_) (σ : Mem) : Option (cF × Mem) :=
 match b, ts, args with
 | .len, t :: _, x :: _ => (HU T σ t x).map fun v => (.val v, σ)
 | .append, [t, u], [s, x] => match T u with
  | some { k := .slice _, .. } => (oL T σ t s x).map fun (v, σ') => (.val v, σ')
  | _ => none
 | .delete, t :: _, [x, k] => (CN T σ t x k).map fun σ' => (.val (.tup []), σ')
 | .max, _, l => (CO true l).map fun v => (.val v, σ)
 | .min, _, l => (CO false l).map fun v => (.val v, σ)
 | _, _, _ => none
def yw (T : ar) (t : TypeId) : Bool :=
 match T t with
 | some i => match i.flat with
  | some (.int k :: ks) => ks.all (fun x => decide (x = .int k)) && (match i.k with
   | .arr _ _ => true
   | .struct [(_, e)] => (match T e with
    | some { k := .arr _ _, .. } => true
    | _ => false)
   | _ => false)
  | _ => false
 | none => false
def uj (q : Bool) (cs : LA_) : am := if q && scC 0 cs && !cs.isEmpty then .vec cs 1 cs.length true else .cells cs true none
def evO (tm : LA_) : Option Operand → Option (Option ab)
 | none => some none
 | some x => (ev tm x).map some
def JQ (T : ar) (σ : Mem) (t : TypeId) (x : ab) : Option (ab × Mem) := none
def Gb (es : List (ab × ab × Nat)) (seen : List Nat) : List (ab × ab × Nat) := es.filter fun e => !seen.contains e.2.2
def Gc (σ : Mem) (x : ab) : Option (Nat × Nat × Nat × List Nat × List (ab × ab × Nat) × Nat) := none
def Qw (σ : Mem) (x : ab) : Option (ab × Mem) :=
 match Gc σ x with
 | some (i, m, since, seen, es, clock) => match Gb es seen with
  | [] => some (.tup [.bool false], σ)
  | [e] => some (.tup [.bool true, e.1, e.2.1], σ.set i (.iter m since (seen ++ [e.2.2]) clock))
  | _ => none
 | none => none
def JR (σ : Mem) (x : ab) : Option ab := none
def dl (x : Option ab) (d : Nat) : Option Nat :=
 match x with
 | none => some d
 | some (.int _ n) => if 0 ≤ n then some n.toNat else none
 | _ => none
def JS (s : ByteArray) (lo hi : Nat) : ByteArray := ⟨((s.data.toList.drop lo).take (hi - lo)).toArray⟩
def xA : Bool := true
def sB (T : ar) (σ : Mem) (t : TypeId) (x : ab) (low high : Option ab) : Option ab :=
 match T t, x with
 | some { k := .slice e, .. }, .vec b => match T e, σ.get b with
  | some j, some (.vec _ n sz false) => match dl low 0, dl high n with
   | some lo, some hi => if lo ≤ hi ∧ hi ≤ n ∧ lo < n ∧ sz = j.size then some (.slice b (lo * sz) (hi - lo) false lo) else none
   | _, _ => none
  | _, _ => none
 | _, _ => none
def Gd (T : ar) (σ : Mem) (t : TypeId) (x : ab) (low high : Option ab) : Option (ab × Mem) :=
  match T t with
  | some { k := .slice e, .. } => match T e with
    | none => none
    | some j => match x with
      | .slice b o l ex c => match dl low 0, dl high l with
        | some lo, some hi => if lo ≤ hi ∧ hi ≤ l ∧ ex = true ∧ hi ≤ c then (if lo = 0 then some (.slice b o hi ex c, σ) else if lo < c then some (.slice b (o + lo * j.size) (hi - lo) ex (c - lo), σ) else none)
          else if ex = false ∧ o = 0 ∧ c = 0 ∧ lo = 0 ∧ hi ≤ l then (match σ.get b with
            | some (.cells bs true (some g)) => if g = j.size ∧ 0 < g ∧ l * g ≤ bs.length then some (.slice σ.next 0 hi false 0, (σ.set b .dead).push (.cells (bs.take (hi * g)) true (some g))) else none
            | _ => none)
          else none
        | _, _ => none
      | .vec b => match σ.get b, dl low 0 with
        | some (.vec cs n sz true), some 0 => match dl high n with
          | some hi => if hi ≤ n ∧ hi ≠ 0 ∧ sz = j.size ∧ hi * sz ≤ cs.length ∧ 0 < sz then some (.vec σ.next, (σ.set b .dead).push (.vec (cs.take (hi * sz)) hi sz true))
            else if hi = 0 ∧ cs.isEmpty = false ∧ sz = j.size then some (.slice σ.next 0 0 false 0, (σ.set b .dead).push (.cells [] true (some sz))) else none
          | none => none
        | _, _ => none
      | _ => none
  | some { k := .arr n e, .. } => match T e, x, low, high with
    | some _, .ptr b o, none, none => some (.slice b o n true n, σ)
    | _, _, _, _ => none
  | some { k := .str, .. } => match x with
    | .str s => match dl low 0, dl high s.size with
      | some lo, some hi => if lo ≤ hi ∧ hi ≤ s.size then some (.str (JS s lo hi), σ) else none
      | _, _ => none
    | _ => none
  | _ => none
def aM (T : ar) (H : bT) (op : Op) (tm : LA_) (σ : Mem) : Option (cF × Mem) :=
 let pure1 (r : Option ab) : Option (cF × Mem) := r.map fun v => (.val v, σ)
 match op with
 | .move x | .assign x => pure1 (ev tm x)
 | .pick c a b => match ev tm c with
  | some (.bool true) => pure1 (ev tm a)
  | some (.bool false) => pure1 (ev tm b)
  | _ => none
 | .alloc t => match T t with
  | none => none
  | some i => some (.val (.ptr σ.next 0), σ.push (uj (yw T t) i.zero))
 | .box t x => match ev tm x with
  | some v => if v.p9 then none else some (.val (.ptr σ.next 0), σ.push (uj (yw T t) v.cellsOf))
  | none => none
 | .build t ps => match evP tm ps.toList with
  | some vs => pure1 (JN T t vs)
  | none => none
 | .buildSlice t n ps => match evP tm ps.toList with
  | some vs => (iK T σ t n vs).map fun (v, σ') => (.val v, σ')
  | none => none
 | .makeSlice t l c => match Jn l c, ev tm l with
  | true, some (.int _ n) => (CM T σ t n).map fun (v, σ') => (.val v, σ')
  | _, _ => none
 | .load t x => match ev tm x with
  | some a => pure1 (p8 T σ t a)
  | none => none
 | .store t x y => match ev tm x, ev tm y with
  | some a, some v => (qa T σ t a v).map fun σ' => (.skip, σ')
  | _, _ => none
 | .binOp op t x y _ => match ev tm x, ev tm y with
  | some a, some b => pure1 (Ca T σ (ml x || ml y) (nu x || nu y) op t a b)
  | _, _ => none
 | .unOp op _ x => match ev tm x with
  | some a => pure1 (unA op a)
  | none => none
 | .convert src dst x => match Nat.beq dst oK, Nat.beq src oK, ev tm x with
  | true, _, some a => (wC T σ src dst a).map fun (v, σ') => (.val v, σ')
  | false, true, some a => pure1 (wE T σ src dst a)
  | false, false, some a => pure1 (Mu T src dst a)
  | _, _, _ => none
 | .makeFunc (.func f) fs cs => match evL tm fs.toList, evL tm cs.toList with
  | some a, some b => some (.val (.func f a b), σ)
  | _, _ => none
 | .makeMap _ none => some (.val (.map σ.next), σ.push (.map [] 0))
 | .fieldAddr s x f => match ev tm x with
  | some a => pure1 (zQ T s a f)
  | none => none
 | .field s x f => match ev tm x with
  | some a => pure1 (JO T s a f)
  | none => none
 | .indexAddr t x i => match ev tm x, ev tm i with
  | some a, some b => pure1 (fv T σ t a b)
  | _, _ => none
 | .index t x i => match ev tm x, ev tm i with
  | some a, some b => pure1 (sA T t a b)
  | _, _ => none
 | .lookup t x k ok => match ev tm x, ev tm k with
  | some a, some b => pure1 (ur T σ t a b ok)
  | _, _ => none
 | .mapEntry t m k => match ev tm m, ev tm k with
  | some a, some b => (wD T σ t a b).map fun (v, σ') => (.val v, σ')
  | _, _ => none
 | .entryStore _ m n x => match ev tm m, ev tm n, ev tm x with
  | some a, some b, some v => (rO σ a b v).map fun σ' => (.skip, σ')
  | _, _, _ => none
 | .mapUpdate t m k x => match ev tm m, ev tm k, ev tm x with
  | some a, some b, some v => (ut T σ t a b v).map fun σ' => (.skip, σ')
  | _, _, _ => none
 | .range t x => match ev tm x with
  | some a => (JQ T σ t a).map fun (v, σ') => (.val v, σ')
  | none => none
 | .next x false => match ev tm x with
  | some a => (Qw σ a).map fun (v, σ') => (.val v, σ')
  | none => none
 | .entry x => match ev tm x with
  | some a => pure1 (JR σ a)
  | none => none
 | .slice t x l h none => match ev tm x, evO tm l, evO tm h with
  | some a, some lo, some hi => cond xA ((sB T σ t a lo hi).map fun v => (.val v, σ)) ((Gd T σ t a lo hi).map fun (v, σ') => (.val v, σ'))
  | _, _, _ => none
 | .extract x i => match ev tm x with
  | some (.tup vs) => pure1 (vs[i]?)
  | _ => none
 | .nilCheck x => match ev tm x with
  | some v => pure1 (Io v)
  | none => none
 | .makeInterface t x => match ev tm x with
  | some v => pure1 (Nx T t v)
  | none => none
 | .typeAssert x _ t ok => match ev tm x with
  | some v => pure1 (LK T t v ok)
  | none => none
 | .panic x => match ev tm x with
  | some (.iface t v) => some (.pan (.iface t v), σ)
  | _ => none
 | .defer { callee := .value f, args, .. } => match ev tm f, evL tm args.toList with
  | some (.func g fs cs), some vs => if g = wG then none else some (.dfr ⟨g, cs, fs ++ vs⟩, σ)
  | _, _ => none
 | .call { callee := .builtin b, args, argTypes } => match evL tm args.toList with
  | some vs => iL T b argTypes.toList vs σ
  | none => none
 | .call { callee := .value f, args, argTypes } => match ev tm f, evL tm args.toList with
  | some g, some vs => qd H σ (nM f argTypes.toList) g vs
  | _, _ => none
 | _ => none
theorem gY (ρ : Nat → Loc) : ∀ l, γL ρ l = l.map (γ ρ)
 | [] => rfl
 | v :: vs => by simp [γL, gY ρ vs]
@[simp] theorem aU (ρ : Nat → Loc) (l : LA_) : (γL ρ l).length = l.length := by simp [gY]
theorem cz (ρ : Nat → Loc) (a b : LA_) : γL ρ (a ++ b) = γL ρ a ++ γL ρ b := by simp [gY]
theorem zR (ρ : Nat → Loc) (n : Nat) (a : LA_) : γL ρ (a.take n) = (γL ρ a).take n := by simp [gY, List.map_take]
theorem zS (ρ : Nat → Loc) (n : Nat) (a : LA_) : γL ρ (a.drop n) = (γL ρ a).drop n := by simp [gY, List.map_drop]
theorem gZ (ρ : Nat → Loc) (a : LA_) (i : Nat) : (γL ρ a)[i]? = (a[i]?).map (γ ρ) := by simp [gY]
theorem yx (ρ : Nat → Loc) (a : LA_) (i : Nat) (v : ab) : γL ρ (a.set i v) = (γL ρ a).set i (γ ρ v) := by simp [gY, List.map_set]
theorem AJ (ρ : Nat → Loc) (n : Nat) (v : ab) : γL ρ (List.replicate n v) = List.replicate n (γ ρ v) := by simp [gY]
theorem gA (n : Nat) : ∀ l, scL n l = true ↔ ∀ v ∈ l, sc n v = true
 | [] => by simp [scL]
 | v :: vs => by simp [scL, gA n vs]
theorem fe (n : Nat) : ∀ l, scC n l = true ↔ ∀ v ∈ l, v.eV = true ∧ sc n v = true
 | [] => by simp [scC]
 | v :: vs => by simp [scC, fe n vs]
theorem d9 {n : Nat} {a b : LA_} : scC n (a ++ b) = true ↔ scC n a = true ∧ scC n b = true := by
 simp only [fe, U1]
 exact ⟨fun h => ⟨fun v hv => h v (.inl hv), fun v hv => h v (.inr hv)⟩, fun h v hv => hv.elim (h.1 v) (h.2 v)⟩
theorem jU {n : Nat} {a b : LA_} : scL n (a ++ b) = true ↔ scL n a = true ∧ scL n b = true := by
 simp only [gA, U1]
 exact ⟨fun h => ⟨fun v hv => h v (.inl hv), fun v hv => h v (.inr hv)⟩, fun h v hv => hv.elim (h.1 v) (h.2 v)⟩
theorem LM {n : Nat} {a b : LA_} (h : scC n b = true) (hs : ∀ v ∈ a, v ∈ b) : scC n a = true := by
 rw [fe] at *; exact fun v hv => h v (hs v hv)
theorem zT {n k : Nat} {a : LA_} (h : scC n a = true) : scC n (a.take k) = true := LM h fun _ => List.mem_of_mem_take
theorem rx {n k : Nat} {a : LA_} (h : scC n a = true) : scC n (a.drop k) = true := LM h fun _ => List.mem_of_mem_drop
theorem uv {n i : Nat} {a : LA_} {v : ab} (h : scL n a = true) (hv : sc n v = true) : scL n (a.set i v) = true := by
 rw [gA] at *
 intro x hx
 rcases List.mem_or_eq_of_mem_set hx with hx | rfl
 ·exact h x hx
 ·exact hv
theorem O9 {n i : Nat} {a : LA_} (h : scL n a = true) : sc n (a.getD i (.tup [])) = true := by
 rw [gA] at h
 rw [UK]
 cases hi : a[i]? with
 | none => simp [sc, scL]
 | some v => simpa using h v (List.mem_of_getElem? hi)
mutual
theorem ko {n m : Nat} (hnm : n ≤ m) : ∀ v, sc n v = true → sc m v = true
 | .ptr i o, h => by simp only [sc, UI] at *; omega
 | .slice i o l e c, h => by simp only [sc, UI] at *; omega
 | .map i, h => by simp only [sc, UI] at *; omega
 | .emp i, h => by simp only [sc, UI] at *; omega
 | .dm i, h => by simp only [sc, UI] at *; omega
 | .vec i, h => by simp only [sc, UI] at *; omega
 | .func f a b, h => by simp only [sc, UC] at *; exact ⟨cf hnm a h.1, cf hnm b h.2⟩
 | .iface t v, h => by simp only [sc] at *; exact ko hnm v h
 | .agg cs, h => by simp only [sc] at *; exact fS hnm cs h
 | .tup vs, h => by simp only [sc] at *; exact cf hnm vs h
 | .bool _, _ | .int _ _, _ | .str _, _ | .dR, _ | .aL, _ | .eR, _ | .cN, _ | .dr, _ => rfl
theorem cf {n m : Nat} (hnm : n ≤ m) : ∀ l, scL n l = true → scL m l = true
 | [], _ => rfl
 | v :: vs, h => by simp only [scL, UC] at *; exact ⟨ko hnm v h.1, cf hnm vs h.2⟩
theorem fS {n m : Nat} (hnm : n ≤ m) : ∀ l, scC n l = true → scC m l = true
 | [], _ => rfl
 | v :: vs, h => by simp only [scC, UC] at *; exact ⟨⟨h.1.1, ko hnm v h.1.2⟩, fS hnm vs h.2⟩
end
mutual
theorem fT {n : Nat} {ρ ρ' : Nat → Loc} (hρ : ∀ i, i < n → ρ' i = ρ i) : ∀ v, sc n v = true → γ ρ' v = γ ρ v
 | .ptr i o, h => by simp only [sc, UI] at h; simp only [γ, hρ i h]
 | .slice i o l e c, h => by simp only [sc, UI] at h; simp only [γ, hρ i h]
 | .map i, h => by simp only [sc, UI] at h; simp only [γ, hρ i h]
 | .emp i, h => by simp only [sc, UI] at h; simp only [γ, hρ i h]
 | .dm i, h => by simp only [sc, UI] at h; simp only [γ, hρ i h]
 | .vec i, h => by simp only [sc, UI] at h; simp only [γ, hρ i h]
 | .func f a b, h => by simp only [sc, UC] at h; simp only [γ, cI hρ a h.1, cI hρ b h.2]
 | .iface t v, h => by simp only [sc] at h; simp only [γ, fT hρ v h]
 | .agg cs, h => by simp only [sc] at h; simp only [γ, ix hρ cs h]
 | .tup vs, h => by simp only [sc] at h; simp only [γ, cI hρ vs h]
 | .bool _, _ | .int _ _, _ | .str _, _ | .dR, _ | .aL, _ | .eR, _ | .cN, _ | .dr, _ => by simp only [γ]
theorem cI {n : Nat} {ρ ρ' : Nat → Loc} (hρ : ∀ i, i < n → ρ' i = ρ i) : ∀ l, scL n l = true → γL ρ' l = γL ρ l
 | [], _ => rfl
 | v :: vs, h => by simp only [scL, UC] at h; simp only [γL, fT hρ v h.1, cI hρ vs h.2]
theorem ix {n : Nat} {ρ ρ' : Nat → Loc} (hρ : ∀ i, i < n → ρ' i = ρ i) : ∀ l, scC n l = true → γL ρ' l = γL ρ l
 | [], _ => rfl
 | v :: vs, h => by simp only [scC, UC] at h; simp only [γL, fT hρ v h.1.2, ix hρ vs h.2]
end
theorem zU {ρ : Nat → Loc} {v : ab} (h : v.eV = true) : (γ ρ v).oneCell' = true := by
 cases v <;> first | rfl | simp [ab.eV] at h
theorem vv (ρ : Nat → Loc) (v : ab) (ht : v.p9 = false) : (γ ρ v).cells = (γL ρ v.cellsOf).toArray := by
 cases v <;> first | (simp [γ, Value.cells, ab.cellsOf, γL]; done) | simp [ab.p9] at ht
theorem rP {n : Nat} {v : ab} (h : sc n v = true) (ht : v.p9 = false) : scC n v.cellsOf = true := by
 cases v <;> first | (simp [sc] at h; simpa [ab.cellsOf] using h) | (simp [ab.cellsOf, scC, ab.eV]; exact h) | simp [ab.p9] at ht
mutual
theorem vw : ∀ a b, aeq a b = true → a = b
 | .bool a, b, h => by cases b <;> simp_all [aeq]
 | .int k a, b, h => by cases b <;> simp_all [aeq]
 | .str a, b, h => by
  cases b <;> simp only [aeq, UE, beq_iff_eq] at h
  rename_i b
  obtain ⟨⟨x⟩⟩ := a
  obtain ⟨⟨y⟩⟩ := b
  simp only at h
  rw [h]
 | .ptr i o, b, h => by cases b <;> simp_all [aeq]
 | .dR, b, h => by cases b <;> simp_all [aeq]
 | .slice i o l e c, b, h => by cases b <;> simp_all [aeq]
 | .aL, b, h => by cases b <;> simp_all [aeq]
 | .map i, b, h => by cases b <;> simp_all [aeq]
 | .emp i, b, h => by cases b <;> simp_all [aeq]
 | .dm i, b, h => by cases b <;> simp_all [aeq]
 | .vec i, b, h => by cases b <;> simp_all [aeq]
 | .eR, b, h => by cases b <;> simp_all [aeq]
 | .func f x y, b, h => by
  cases b <;> simp only [aeq, UC, UE] at h
  case func g z u => rw [mm x z h.1.2, mm y u h.2, beq_iff_eq.1 h.1.1]
 | .cN, b, h => by cases b <;> simp_all [aeq]
 | .iface t v, b, h => by
  cases b <;> simp only [aeq, UC, UE] at h
  case iface u w => rw [vw v w h.2, beq_iff_eq.1 h.1]
 | .dr, b, h => by cases b <;> simp_all [aeq]
 | .agg x, b, h => by
  cases b <;> simp only [aeq, UE] at h
  case agg y => rw [mm x y h]
 | .tup x, b, h => by
  cases b <;> simp only [aeq, UE] at h
  case tup y => rw [mm x y h]
theorem mm : ∀ a b, mY a b = true → a = b
 | [], [], _ => rfl
 | [], _ :: _, h => by simp [mY] at h
 | _ :: _, [], h => by simp [mY] at h
 | x :: xs, y :: ys, h => by
  simp only [mY, UC] at h
  rw [vw x y h.1, mm xs ys h.2]
end
mutual
theorem E7 : ∀ a, aeq a a = true
 | .bool _ | .int _ _ | .str _ | .ptr _ _ | .dR | .slice _ _ _ _ _ | .aL | .emp _ | .map _ | .eR | .cN | .dr | .dm _ | .vec _ => by simp [aeq]
 | .func f x y => by simp [aeq, sC x, sC y]
 | .iface t v => by simp [aeq, E7 v]
 | .agg x => by simp [aeq, sC x]
 | .tup x => by simp [aeq, sC x]
theorem sC : ∀ a, mY a a = true
 | [] => rfl
 | x :: xs => by simp [mY, E7 x, sC xs]
end
def am.alive : am → Bool
 | .dead => false
 | .vec cs _ _ _ => !cs.isEmpty
 | _ => true
def am.owned : am → Bool
 | .cells _ own _ => own
 | .map _ _ => true
 | .vec cs _ _ own => own && !cs.isEmpty
 | .iter _ _ _ _ => true
 | .jm => true
 | .bM _ _ => true
 | .dead => false
def scB (n : Nat) : am → Bool
 | .cells cs _ _ => scC n cs
 | .vec cs _ _ _ => scC 0 cs
 | .map es _ => es.all fun e => sc 0 e.1 && sc 0 e.2.1
 | .iter m _ _ _ => decide (m < n)
 | .jm => true
 | .bM _ _ => true
 | .dead => true
theorem am.dT {b : am} (h : b.owned = true) : b.alive = true := by
 cases b <;> simp_all [am.alive, am.owned]
theorem am.Q3 {b : am} (h : ¬ b.alive = true) : b = .dead ∨ ∃ n sz own, b = .vec [] n sz own := by
 cases b <;> simp_all [am.alive]
def JT : Nat → Nat → Option Code
 | 0, _ => none
 | 1, _ => some .ret
 | 2, i => some (.exit i)
 | _, i => some (.goto i)
def jn (L : Loop) : Nat → Nat → Loop
 | 0, _ => L
 | 1, i => { L with state := .done, pending := JT 1 i }
 | 2, i => { L with state := .done, pending := JT 2 i }
 | 3, i => { L with state := .done, pending := JT 3 i }
 | _, _ => { L with state := .busy }
def Mv (fz : Nat × Nat) (n : Nat) : Prop := fz = (0, 0) ∨ n ≤ fz.1
def BOk (ρ : Nat → Loc) (L : Loc) (w : World) : am → Prop
 | .cells cs own gr => ∃ c e fz, w.heap[L.blk]? = some (.cells c e fz) ∧ (∃ pre post, c.toList = pre ++ γL ρ cs ++ post ∧ pre.length = L.base) ∧
   (own = true → Mv fz c.size) ∧ (∀ g, gr = some g → own = true ∧ L.base + L.dS * g ≤ c.size ∧ cs.length ≤ L.dS * g)
 | .vec cs n sz own => L.sl = n ∧ ((n = 0 ∧ cs = [] ∧ (own = true → L.sk = 0)) ∨ (cs ≠ [] ∧ L.sp = some ⟨L.blk, L.base, none⟩ ∧ cs.length = n * sz ∧
   ∃ c e fz, w.heap[L.blk]? = some (.cells c e fz) ∧ (∃ pre post, c.toList = pre ++ γL ρ cs ++ post ∧ pre.length = L.base) ∧ (own = true → Mv fz c.size ∧ n ≤ L.sk ∧ L.base + L.sk * sz ≤ c.size) ∧ n ≤ L.sk ∧ L.dS = L.sk))
 | .map es clock => ∃ mes : Array MapEntry, w.heap[L.blk]? = some (.map mes clock) ∧ mes.toList.map (fun e => (e.key, e.val, e.born)) = es.map fun e => (γ ρ e.1, γ ρ e.2.1, e.2.2)
 | .jm => w.heap[L.blk]? = some (.deferred (some [])) ∧ L.val = .int .i64 L.blk
 | .bM k i => w.heap[L.blk]? = some (.loop (jn L.lp k i))
 | .iter m since seen last => L.base = 0 ∧ w.heap[L.blk]? = some (.mapIter (some (ρ m).blk) since seen.toArray last)
 | .dead => True
structure W0 where
 w : World
 fG : Nat → Prop
 lt : ∀ k, fG k → k < w.heap.size
def W0.all (w : World) : W0 := ⟨w, fun k => k < w.heap.size, fun _ h => h⟩
structure Rel (w0 : W0) (ρ : Nat → Loc) (σ : Mem) (w : World) : Prop where
 lt : ∀ i b, σ.get i = some b → i < σ.next
 sco : ∀ i b, σ.get i = some b → scB σ.next b = true
 ok : ∀ i b, σ.get i = some b → BOk ρ (ρ i) w b
 inb : ∀ i b, σ.get i = some b → b.alive = true → (ρ i).blk < w.heap.size
 ap : ∀ i j bi bj, σ.get i = some bi → σ.get j = some bj → i ≠ j → bi.owned = true → bj.alive = true → (ρ i).blk ≠ (ρ j).blk
 own : ∀ i b, σ.get i = some b → b.owned = true → ¬ w0.fG (ρ i).blk
 os : w.os = w0.w.os
 tape : w.tape = w0.w.tape
 output : w.output = w0.w.output
 size : w0.w.heap.size ≤ w.heap.size
 old : ∀ k, w0.fG k → w.heap[k]? = w0.w.heap[k]?
theorem bU (σ : Mem) (b : am) (i : Nat) : (σ.push b).get i = if σ.next = i then some b else σ.get i := by
 simp [Mem.get, Mem.push, look]
theorem aT (σ : Mem) (j : Nat) (b : am) (i : Nat) : (σ.set j b).get i = if j = i then some b else σ.get i := by
 simp [Mem.get, Mem.set, look]
@[simp] theorem dJ (σ : Mem) (b : am) : (σ.push b).next = σ.next + 1 := rfl
@[simp] theorem el (σ : Mem) (j : Nat) (b : am) : (σ.set j b).next = σ.next := rfl
def upd (ρ : Nat → Loc) (n : Nat) (L : Loc) : Nat → Loc := fun i => if i = n then L else ρ i
@[simp] theorem bw (ρ : Nat → Loc) (n : Nat) (L : Loc) : upd ρ n L n = L := by simp [upd]
theorem dU {ρ : Nat → Loc} {n i : Nat} {L : Loc} (h : i < n) : upd ρ n L i = ρ i := by simp [upd, Nat.ne_of_lt h]
theorem fU {n m : Nat} (h : n ≤ m) : ∀ b, scB n b = true → scB m b = true
 | .cells cs _ _, hb => fS h cs hb
 | .vec _ _ _ _, hb => hb
 | .map es _, hb => hb
 | .iter m _ _ _, hb => by simp only [scB, UI] at *; omega
 | .jm, _ => rfl
 | .bM _ _, _ => rfl
 | .dead, _ => rfl
theorem lB {ρ ρ' : Nat → Loc} {L : Loc} {w w' : World} {b : am} (hd : ¬ b.alive = true) (h : BOk ρ L w b) : BOk ρ' L w' b := by
 rcases am.Q3 hd with rfl | ⟨n, sz, own, rfl⟩
 ·trivial
 ·exact ⟨h.1, .inl (h.2.resolve_right fun q => q.1 rfl)⟩
theorem cr {n : Nat} {ρ ρ' : Nat → Loc} {L : Loc} {w w' : World} (hρ : ∀ i, i < n → ρ' i = ρ i) (hw : w'.heap[L.blk]? = w.heap[L.blk]?) :
  ∀ b, scB n b = true → BOk ρ L w b → BOk ρ' L w' b
 | .cells cs own gr, hs, h => by
  obtain ⟨c, e, fz, h1, ⟨pre, post, h2, h3⟩, h4, h5⟩ := h
  exact ⟨c, e, fz, hw.trans h1, ⟨pre, post, by rw [ix hρ cs hs]; exact h2, h3⟩, h4, h5⟩
 | .vec cs m sz own, hs, h => by
  refine ⟨h.1, h.2.imp id ?_⟩
  rintro ⟨q1, q2, q3, c, e, fz, h1, ⟨pre, post, h2, h3⟩, h4⟩
  exact ⟨q1, q2, q3, c, e, fz, hw.trans h1, ⟨pre, post, by rw [ix hρ cs (fS (Nat.zero_le _) _ hs)]; exact h2, h3⟩, h4⟩
 | .map es clock, hs, h => by
  obtain ⟨mes, h1, h2⟩ := h
  refine ⟨mes, hw.trans h1, h2.trans ?_⟩
  simp only [scB, List.all_eq_true, UC] at hs
  exact List.map_congr_left fun e he => by rw [fT hρ _ (ko (Nat.zero_le _) _ (hs e he).1), fT hρ _ (ko (Nat.zero_le _) _ (hs e he).2)]
 | .iter m since seen last, hs, h => by
  simp only [scB, UI] at hs
  exact ⟨h.1, by rw [hρ m hs]; exact hw.trans h.2⟩
 | .jm, _, h => ⟨hw.trans h.1, h.2⟩
 | .bM _ _, _, h => hw.trans h
 | .dead, _, _ => trivial
theorem Rel.drew {w0 : W0} {ρ : Nat → Loc} {σ : Mem} {w : World} (h : Rel w0 ρ σ w) (n : Nat) : Rel w0 ρ σ { w with drawn := n } :=
 ⟨h.lt, h.sco, fun i b hb => cr (fun _ _ => rfl) rfl b (h.sco i b hb) (h.ok i b hb), h.inb, h.ap, h.own, h.os, h.tape, h.output, h.size, h.old⟩
theorem Rel.push {w0 : W0} {ρ : Nat → Loc} {σ : Mem} {w : World} (h : Rel w0 ρ σ w) {o : Obj} {L : Loc} {b : am} (hL : L.blk = w.heap.size)
  (hs : scB σ.next b = true) (hb : ∀ ρ', (∀ i, i < σ.next → ρ' i = ρ i) → BOk ρ' L { w with heap := w.heap.push o } b) :
  Rel w0 (upd ρ σ.next L) (σ.push b) { w with heap := w.heap.push o } := by
 have hρ : ∀ i, i < σ.next → upd ρ σ.next L i = ρ i := fun i hi => dU hi
 have hin : ∀ i bi, σ.get i = some bi → upd ρ σ.next L i = ρ i := fun i bi hi => hρ i (h.lt i bi hi)
 refine ⟨?_, ?_, ?_, ?_, ?_, ?_, h.os, h.tape, h.output, ?_, ?_⟩
 ·intro i bi hi
  rw [bU] at hi
  split at hi
  ·rename_i e; simp [← e]
  ·have := h.lt i bi hi; simp; omega
 ·intro i bi hi
  rw [bU] at hi
  split at hi
  ·cases hi; exact fU (by simp) _ hs
  ·exact fU (by simp) _ (h.sco i bi hi)
 ·intro i bi hi
  rw [bU] at hi
  split at hi
  ·rename_i e; cases hi; rw [← e, bw]; exact hb _ hρ
  ·rw [hin i bi hi]
   by_cases ha : bi.alive = true
   ·refine cr hρ ?_ bi (h.sco i bi hi) (h.ok i bi hi)
    have := h.inb i bi hi ha
    show (w.heap.push o)[_]? = _
    rw [Array.getElem?_push, if_neg (by omega)]
   ·exact lB ha (h.ok i bi hi)
 ·intro i bi hi ha
  rw [bU] at hi
  split at hi
  ·rename_i e; rw [← e, bw, hL]; simp
  ·rw [hin i bi hi]; have := h.inb i bi hi ha; simp; omega
 ·intro i j bi bj hi hj hij hoi haj
  rw [bU] at hi hj
  split at hi <;> split at hj
  ·omega
  ·rename_i e1 e2
   rw [← e1, bw, hin j bj hj, hL]
   have := h.inb j bj hj haj; omega
  ·rename_i e1 e2
   rw [← e2, bw, hin i bi hi, hL]
   have := h.inb i bi hi (am.dT hoi); omega
  ·rw [hin i bi hi, hin j bj hj]; exact h.ap i j bi bj hi hj hij hoi haj
 ·intro i bi hi ho
  rw [bU] at hi
  split at hi
  ·rename_i e; rw [← e, bw, hL]; intro hq; have := w0.lt _ hq; have := h.size; omega
  ·rw [hin i bi hi]; exact h.own i bi hi ho
 ·have := h.size; simp; omega
 ·intro k hk
  rw [← h.old k hk]
  show (w.heap.push o)[k]? = _
  have := h.size
  have := w0.lt k hk
  rw [Array.getElem?_push, if_neg (by omega)]
theorem Rel.set {w0 : W0} {ρ : Nat → Loc} {σ : Mem} {w w' : World} (h : Rel w0 ρ σ w) {i : Nat} {b b' : am} (hi : σ.get i = some b) (ho : b.owned = true)
  (hs : scB σ.next b' = true) (hb : BOk ρ (ρ i) w' b') (hsz : w'.heap.size = w.heap.size)
  (hother : ∀ k, k ≠ (ρ i).blk → w'.heap[k]? = w.heap[k]?) (hos : w'.os = w.os) (htp : w'.tape = w.tape) (hout : w'.output = w.output) : Rel w0 ρ (σ.set i b') w' := by
 have hal : b.alive = true := am.dT ho
 refine ⟨?_, ?_, ?_, ?_, ?_, ?_, hos.trans h.os, htp.trans h.tape, hout.trans h.output, hsz ▸ h.size, ?_⟩
 ·intro j bj hj
  rw [aT] at hj
  split at hj
  ·rename_i e; rw [← e]; exact h.lt i b hi
  ·exact h.lt j bj hj
 ·intro j bj hj
  rw [aT] at hj
  split at hj
  ·cases hj; exact hs
  ·exact h.sco j bj hj
 ·intro j bj hj
  rw [aT] at hj
  split at hj
  ·rename_i e; cases hj; rw [← e]; exact hb
  ·rename_i e
   by_cases ha : bj.alive = true
   ·refine cr (fun _ _ => rfl) (hother _ ?_) bj (h.sco j bj hj) (h.ok j bj hj)
    exact (h.ap i j b bj hi hj e ho ha).symm
   ·exact lB ha (h.ok j bj hj)
 ·intro j bj hj ha
  rw [aT] at hj
  split at hj
  ·rename_i e; rw [← e, hsz]; exact h.inb i b hi hal
  ·rw [hsz]; exact h.inb j bj hj ha
 ·intro j k bj bk hj hk hjk hoj hak
  rw [aT] at hj hk
  split at hj <;> split at hk
  ·omega
  ·rename_i e1 e2; rw [← e1]; exact h.ap i k b bk hi hk e2 ho hak
  ·rename_i e1 e2; rw [← e2]; exact h.ap j i bj b hj hi (Ne.symm e1) hoj hal
  ·exact h.ap j k bj bk hj hk hjk hoj hak
 ·intro j bj hj hoj
  rw [aT] at hj
  split at hj
  ·rename_i e; rw [← e]; exact h.own i b hi ho
  ·exact h.own j bj hj hoj
 ·intro k hk
  rw [hother k ?_]
  ·exact h.old k hk
  ·intro e; exact h.own i b hi ho (e ▸ hk)
theorem Rel.kill {w0 : W0} {ρ : Nat → Loc} {σ : Mem} {w : World} (h : Rel w0 ρ σ w) {i : Nat} {b : am} (hi : σ.get i = some b) : Rel w0 ρ (σ.set i .dead) w := by
 refine ⟨?_, ?_, ?_, ?_, ?_, ?_, h.os, h.tape, h.output, h.size, h.old⟩
 ·intro j bj hj
  rw [aT] at hj
  split at hj
  ·rename_i e; rw [← e]; exact h.lt i b hi
  ·exact h.lt j bj hj
 ·intro j bj hj
  rw [aT] at hj
  split at hj
  ·cases hj; rfl
  ·exact h.sco j bj hj
 ·intro j bj hj
  rw [aT] at hj
  split at hj
  ·cases hj; trivial
  ·exact h.ok j bj hj
 ·intro j bj hj ha
  rw [aT] at hj
  split at hj
  ·cases hj; simp [am.alive] at ha
  ·exact h.inb j bj hj ha
 ·intro j k bj bk hj hk hjk hoj hak
  rw [aT] at hj hk
  split at hj
  ·cases hj; simp [am.owned] at hoj
  ·split at hk
   ·cases hk; simp [am.alive] at hak
   ·exact h.ap j k bj bk hj hk hjk hoj hak
 ·intro j bj hj hoj
  rw [aT] at hj
  split at hj
  ·cases hj; simp [am.owned] at hoj
  ·exact h.own j bj hj hoj
theorem Rel.weaken {w0 : W0} {ρ : Nat → Loc} {σ σ' : Mem} {w : World} (h : Rel w0 ρ σ' w) (hg : ∀ i b, σ.get i = some b → b ≠ .dead → σ'.get i = some b)
  (hl : ∀ i b, σ.get i = some b → i < σ.next) (hs : ∀ i b, σ.get i = some b → scB σ.next b = true) : Rel w0 ρ σ w := by
 have nd : ∀ b : am, b.alive = true → b ≠ .dead := fun b hb e => by rw [e] at hb; cases hb
 have hal : ∀ b : am, b.owned = true → b ≠ .dead := fun b hb => nd b (am.dT hb)
 refine ⟨hl, hs, ?_, ?_, ?_, ?_, h.os, h.tape, h.output, h.size, h.old⟩
 ·intro i b hi
  by_cases ha : b = .dead
  ·subst ha; trivial
  ·exact h.ok i b (hg i b hi ha)
 ·exact fun i b hi ha => h.inb i b (hg i b hi (nd _ ha)) ha
 ·exact fun i j bi bj hi hj hij hoi haj => h.ap i j bi bj (hg i bi hi (hal _ hoi)) (hg j bj hj (nd _ haj)) hij hoi haj
 ·exact fun i b hi ho => h.own i b (hg i b hi (hal _ ho)) ho
theorem LN : ∀ {x y : List (ab × ab × Nat)}, HV x y = true → x = y
 | [], [], _ => rfl
 | [], _ :: _, h => by simp [HV] at h
 | _ :: _, [], h => by simp [HV] at h
 | (a, b, n) :: x, (c, d, m) :: y, h => by
  simp only [HV, UC] at h
  rw [vw _ _ h.1.1.1, vw _ _ h.1.1.2, UR h.1.2, LN h.2]
theorem LO : ∀ {x y : List Nat}, HW x y = true → x = y
 | [], [], _ => rfl
 | [], _ :: _, h => by simp [HW] at h
 | _ :: _, [], h => by simp [HW] at h
 | a :: x, b :: y, h => by
  simp only [HW, UC] at h
  rw [UR h.1, LO h.2]
theorem Ny : ∀ {x y : Bool}, eqb x y = true → x = y
 | true, true, _ => rfl
 | false, false, _ => rfl
theorem Q4 : ∀ {x y : Option Nat}, JP x y = true → x = y
 | none, none, _ => rfl
 | some a, some b, h => by simp only [JP] at h; rw [UR h]
 | none, some _, h => by simp [JP] at h
 | some _, none, h => by simp [JP] at h
theorem Nz : ∀ {x y : am}, eqB x y = true → x = y := by
 intro x y h
 cases x <;> cases y <;> simp only [eqB, UC, UE] at h
 ·rw [mm _ _ h.1.1, Ny h.1.2, Q4 h.2]
 ·rw [mm _ _ h.1.1.1, UR h.1.1.2, UR h.1.2, Ny h.2]
 ·rw [LN h.1, UR h.2]
 ·rw [UR h.1.1.1, UR h.1.1.2, LO h.1.2, UR h.2]
 ·rfl
 ·rw [UR h.1, UR h.2]
 ·rfl
theorem LP : ∀ {x y : List (Nat × am)}, HX x y = true → x = y
 | [], [], _ => rfl
 | [], _ :: _, h => by simp [HX] at h
 | _ :: _, [], h => by simp [HX] at h
 | (a, b) :: x, (c, d) :: y, h => by
  simp only [HX, UC] at h
  rw [UR h.1.1, Nz h.1.2, LP h.2]
theorem JU {a b : Mem} (h : wH a b = true) : a = b := by
 obtain ⟨n, x⟩ := a
 obtain ⟨m, y⟩ := b
 simp only [wH, UC] at h
 rw [UR h.1, LP h.2]
theorem sE {H : bT} {σ σ' : Mem} {g : ab} {vs : LA_} {x : cF} (h : qd H σ true g vs = some (x, σ')) :
  σ' = σ ∧ ∃ v, x = .val v ∧ gi H ⟨0, []⟩ g vs = some (.val v, ⟨0, []⟩) ∧ sc 0 v = true ∧ sc 0 g = true ∧ scL 0 vs = true := by
 simp only [qd, cond_true] at h
 cases e1 : (sc 0 g && scL 0 vs) with
 | false => rw [e1] at h; cases h
 | true =>
  rw [e1] at h
  simp only [cond_true] at h
  split at h
  ·rename_i v σ1 hc
   cases e : (wH σ1 ⟨0, []⟩ && sc 0 v) with
   | false => rw [e] at h; cases h
   | true =>
    rw [e] at h
    cases h
    simp only [UC] at e e1
    rw [JU e.1] at hc
    exact ⟨rfl, v, rfl, hc, e.2, e1.1, e1.2⟩
  ·cases h
theorem HY {H : bT} {σ : Mem} {g : ab} {vs : LA_} {v : ab} (h : gi H ⟨0, []⟩ g vs = some (.val v, ⟨0, []⟩)) (hv : sc 0 v = true) (hg : sc 0 g = true) (hs : scL 0 vs = true) :
  qd H σ true g vs = some (.val v, σ) := by
 simp only [qd, cond_true, hg, hs, h, hv, Bool.and_true]
 rfl
theorem NA {H H' : bT} {σ : Mem} {b : Bool} {g : ab} {vs : LA_} (hr : ∀ σ x, gi H σ g vs = some x → gi H' σ g vs = some x) {x : cF × Mem} (h : qd H σ b g vs = some x) : qd H' σ b g vs = some x := by
 cases b with
 | false => exact hr _ _ h
 | true =>
  obtain ⟨x, σ'⟩ := x
  obtain ⟨rfl, v, rfl, h1, h2, h3, h4⟩ := sE h
  exact HY (hr _ _ h1) h2 h3 h4
def KOk (P : Program) (t : TypeId) : TK → Prop
 | .int k => P.underlying t = some (.int k)
 | .bool => P.underlying t = some .bool
 | .str => P.underlying t = some .string
 | .ptr e => P.underlying t = some (.pointer e)
 | .slice e => P.underlying t = some (.slice e)
 | .arr n e => P.underlying t = some (.array n e)
 | .struct fs => ∃ fields : Array Field, P.underlying t = some (.struct fields) ∧ fields.toList.map (fun f => (f.offset, f.type)) = fs
 | .map k e => P.underlying t = some (.map k e)
 | .func => ∃ a b c, P.underlying t = some (.func a b c)
 | .iface => ∃ ms, P.underlying t = some (.interface ms)
 | .other => False
def TK.isAgg : TK → Bool
 | .struct _ | .arr _ _ => true
 | _ => false
def NB (P : Program) (t : TypeId) (ks : List TK) : Prop :=
 P.eqGuardType P.depth t = false ∧ ∀ (ρ : Nat → Loc) (w : World) (xs ys : LA_) (r : Bool), cD ks xs ys = some r →
  (Op.equal t (.agg (γL ρ xs).toArray) (.agg (γL ρ ys).toArray)).run P w = .ok r w ∧
  ∀ b, (Instr.checkKey b 10000 t (.agg (γL ρ xs).toArray)).run P w = .ok () w
structure bH (P : Program) (t : TypeId) (i : TyI) : Prop where
 info : ∃ inf, P.info? t = some inf ∧ inf.size = i.size ∧ inf.bytes = i.bytes ∧ ∃ z, inf.zero = some z ∧ ∀ ρ, z = if i.agg then .agg (γL ρ i.zero).toArray else γ ρ (i.zero.headD .dr)
 Mw : i.zero.length = i.size
 Sv : i.agg = false → i.size = 1
 zsc : scC 0 i.zero = true
 k : KOk P t i.k
 agg : i.agg = i.k.isAgg
 flat : ∀ ks, i.flat = some ks → NB P t ks
def aZ (P : Program) (T : ar) : Prop := ∀ t i, T t = some i → bH P t i
section
variable {P : Program} {t : TypeId} {i : TyI}
theorem bH.JV (h : bH P t i) (w : World) : ∃ inf, (typeInfo t).run P w = .ok inf w ∧ inf.size = i.size ∧ inf.bytes = i.bytes := by
 obtain ⟨inf, h1, h2, h3, _⟩ := h.info
 exact ⟨inf, by simp [typeInfo, h1], h2, h3⟩
theorem bH.dt (h : bH P t i) (w : World) : (sizeOf t).run P w = .ok i.size w := by
 obtain ⟨inf, h1, h2, h3, _⟩ := h.info
 simp [sizeOf, typeInfo, h1, h2]
theorem bH.zV (h : bH P t i) (ρ : Nat → Loc) (w : World) : (zeroValue t).run P w = .ok (if i.agg then .agg (γL ρ i.zero).toArray else γ ρ (i.zero.headD .dr)) w := by
 obtain ⟨inf, h1, h2, h3, z, h4, h5⟩ := h.info
 simp [zeroValue, typeInfo, h1, h4, h5 ρ]
theorem bH.qe (h : bH P t i) (ρ : Nat → Loc) : (if i.agg then Value.agg (γL ρ i.zero).toArray else γ ρ (i.zero.headD .dr)).cells = (γL ρ i.zero).toArray := by
 cases ha : i.agg with
 | true => simp [Value.cells]
 | false =>
  have h1 := h.Sv ha
  have h2 := h.Mw
  match hz : i.zero with
  | [] => simp [hz] at h2; omega
  | [v] =>
   simp only [UE, if_false, List.headD_cons]
   have hv := h.zsc
   rw [hz] at hv
   rw [vv _ _ (by cases v <;> simp_all [scC, ab.eV, ab.p9])]
   cases v <;> simp_all [ab.cellsOf, scC, ab.eV]
  | _ :: _ :: _ => simp [hz] at h2; omega
theorem bH.wI (h : bH P t i) (w : World) : (isAgg t).run P w = .ok i.agg w := by
 have hk := h.k
 rw [h.agg]
 cases hi : i.k <;> rw [hi] at hk <;> simp only [KOk] at hk
 case struct fs => obtain ⟨f, hf, _⟩ := hk; simp [isAgg, underlying, hf, TK.isAgg]
 case func => obtain ⟨a, b, c, hf⟩ := hk; simp [isAgg, underlying, hf, TK.isAgg]
 case iface => obtain ⟨a, hf⟩ := hk; simp [isAgg, underlying, hf, TK.isAgg]
 all_goals simp [isAgg, underlying, hk, TK.isAgg]
end
theorem bH.isSome {P : Program} {t : TypeId} {i : TyI} (h : bH P t i) : (P.underlying t).isSome = true := by
 have hk := h.k
 cases hi : i.k <;> rw [hi] at hk <;> simp only [KOk] at hk
 case struct fs => obtain ⟨f, hf, _⟩ := hk; simp [hf]
 case func => obtain ⟨a, b, c, hf⟩ := hk; simp [hf]
 case iface => obtain ⟨a, hf⟩ := hk; simp [hf]
 all_goals simp [hk]
def am.content : am → Option (LA_)
 | .cells cs _ _ => some cs
 | .vec cs _ _ _ => some cs
 | _ => none
theorem Rel.row {w0 : W0} {ρ : Nat → Loc} {σ : Mem} {w : World} (h : Rel w0 ρ σ w) {b : Nat} {bk : am} {cs : LA_}
  (hb : σ.get b = some bk) (hc : bk.content = some cs) (hn : cs ≠ []) : ∃ c e fz, w.heap[(ρ b).blk]? = some (.cells c e fz) ∧ ∃ pre post, c.toList = pre ++ γL ρ cs ++ post ∧ pre.length = (ρ b).base := by
 have := h.ok b _ hb
 cases bk <;> simp only [am.content, reduceCtorEq, UB] at hc
 case cells cs' own gr =>
  subst hc
  obtain ⟨c, e, fz, h1, h2, _⟩ := this
  exact ⟨c, e, fz, h1, h2⟩
 case vec cs' n sz own =>
  subst hc
  rcases this.2 with q | ⟨_, _, _, c, e, fz, h1, h2, _⟩
  ·exact absurd q.2.1 hn
  ·exact ⟨c, e, fz, h1, h2⟩
theorem Rel.Ge {w0 : W0} {ρ : Nat → Loc} {σ : Mem} {w : World} (h : Rel w0 ρ σ w) {b : Nat} {bk : am} {cs : LA_}
  (hb : σ.get b = some bk) (hc : bk.content = some cs) : scC σ.next cs = true := by
 have := h.sco b _ hb
 cases bk <;> simp only [am.content, reduceCtorEq, UB] at hc
 case cells cs' own gr => subst hc; exact this
 case vec cs' n sz own => subst hc; exact fS (Nat.zero_le _) _ this
theorem Rel.cell {w0 : W0} {ρ : Nat → Loc} {σ : Mem} {w : World} (h : Rel w0 ρ σ w) {b : Nat} {bk : am} {cs : LA_}
  (hb : σ.get b = some bk) (hc : bk.content = some cs) {j : Nat} {v : ab} (hj : cs[j]? = some v) : w.cell? ⟨(ρ b).blk, (ρ b).base + j, none⟩ = some (γ ρ v) := by
 obtain ⟨c, e, fz, h1, pre, post, h2, h3⟩ := h.row hb hc (by rintro rfl; cases hj)
 simp only [World.cell?, h1, Option.isSome_none, UE, if_false]
 rw [← UX, h2, UV, List.getElem?_append_right (by omega), List.getElem?_append_left]
 ·rw [show (ρ b).base + j - pre.length = j by omega, gZ, hj]; rfl
 ·rw [aU]; have := (UL.1 hj).1; omega
theorem lC (g o n : Nat) : (⟨g, o, none⟩ : Addr).add n = ⟨g, o + n, none⟩ := by unfold Addr.add; split <;> simp_all
theorem fH {σ : Mem} {b o n : Nat} {vs : LA_} (h : cC σ b o n = some vs) :
  ∃ cs bk, σ.get b = some bk ∧ bk.content = some cs ∧ o + n ≤ cs.length ∧ vs = (cs.drop o).take n := by
 unfold cC at h
 split at h
 ·rename_i cs own gr hg
  split at h
  ·cases h; exact ⟨cs, _, hg, rfl, by assumption, rfl⟩
  ·cases h
 ·rename_i cs n sz own hg
  split at h
  ·cases h; exact ⟨cs, _, hg, rfl, by assumption, rfl⟩
  ·cases h
 ·cases h
theorem Rel.run_loadCells {w0 : W0} {ρ : Nat → Loc} {σ : Mem} {w : World} (h : Rel w0 ρ σ w) {P : Program} {b o n : Nat} {vs : LA_} (hc : cC σ b o n = some vs) :
  (loadCells ⟨(ρ b).blk, (ρ b).base + o, none⟩ n).run P w = .ok (γL ρ vs).toArray w ∧ vs.length = n ∧ scC σ.next vs = true := by
 obtain ⟨cs, bk, hg, hbk, hl, rfl⟩ := fH hc
 have hlen : ((cs.drop o).take n).length = n := by simp; omega
 refine ⟨?_, hlen, zT (rx (h.Ge hg hbk))⟩
 have := run_loadCells_list (P := P) w ⟨(ρ b).blk, (ρ b).base + o, none⟩ (γL ρ ((cs.drop o).take n)) (fun j v hj => ?_)
 ·rwa [aU, hlen] at this
 ·rw [lC, Nat.add_assoc]
  rw [gZ] at hj
  cases hv : ((cs.drop o).take n)[j]? with
  | none => rw [hv] at hj; cases hj
  | some u =>
   rw [hv] at hj; cases hj
   refine h.cell hg hbk ?_
   rw [List.getElem?_take] at hv
   split at hv
   ·rwa [List.getElem?_drop] at hv
   ·cases hv
theorem Rel.DT {w0 : W0} {ρ : Nat → Loc} {σ : Mem} {w : World} (h : Rel w0 ρ σ w) {P : Program} {T : ar} (hT : aZ P T) {t : TypeId} {x v : ab}
  (hl : p8 T σ t x = some v) : ∃ b o, x = .ptr b o ∧ (loadVar t ⟨(ρ b).blk, (ρ b).base + o, none⟩).run P w = .ok (γ ρ v) w ∧ sc σ.next v = true := by
 unfold p8 at hl
 split at hl
 ·rename_i i b o ht
  split at hl
  ·cases hl
  ·rename_i cs hcs
   have hti := hT t i ht
   obtain ⟨h1, h2, h3⟩ := h.run_loadCells (P := P) hcs
   refine ⟨b, o, rfl, ?_⟩
   split at hl
   ·rename_i ha
    cases hl
    exact ⟨by simp [loadVar, hti.wI, ha, hti.dt, h1, γ], by simpa [sc] using h3⟩
   ·rename_i ha
    have ha' : i.agg = false := by simpa using ha
    have hone := hti.Sv ha'
    obtain ⟨bs, bk, hg, hbk, hle, rfl⟩ := fH hcs
    have h0 : bs[o]? = some v := by
     rw [hone] at hl
     rw [List.head?_take, if_neg (by omega), List.head?_drop] at hl
     exact hl
    refine ⟨?_, ?_⟩
    ·simp [loadVar, hti.wI, ha', run_load, h.cell hg hbk h0]
    ·have := h.Ge hg hbk
     simp only [fe] at this
     exact (this v (List.mem_of_getElem? h0)).2
 ·cases hl
theorem iy {P : Program} (g o : Nat) (t : TypeId) (fz : Nat × Nat) : ∀ (vs : List Value) (i : Nat) (cur : Array Value) (w : World), w.heap[g]? = some (.cells cur t fz) → Mv fz cur.size → o + i + vs.length ≤ cur.size → (∀ v ∈ vs, v.oneCell' = true) →
  (storeCells ⟨g, o, none⟩ vs i).run P w = .ok () (w.setRow g (cur.toList.take (o + i) ++ vs ++ cur.toList.drop (o + i + vs.length)).toArray)
 | [], i, cur, w, hg, _, _, _ => by
  simp only [storeCells, List.append_nil, List.length_nil, Nat.add_zero, List.take_append_drop, Array.toArray_toList]
  rw [setRow_self w g cur t fz hg]
  rfl
 | v :: rest, i, cur, w, hg, hz, hl, h1 => by
  have hi : o + i < cur.size := by simp at hl; omega
  have hadd : (⟨g, o, none⟩ : Addr).add i = ⟨g, o + i, none⟩ := by unfold Addr.add; split <;> simp_all
  have hcell : w.cell? ⟨g, o + i, none⟩ = some cur[o + i] := by simp [World.cell?, hg, hi]
  have hfro : w.frozen? ⟨g, o + i, none⟩ = false := by
   obtain ⟨lo, up⟩ := fz
   simp only [World.frozen?, hg, Bool.and_eq_false_iff, decide_eq_false_iff_not]
   rcases hz with hz | hz
   ·cases hz; right; omega
   ·left; simp only at hz; omega
  have hst : (store ((⟨g, o, none⟩ : Addr).add i) v).run P w = .ok () (w.setRow g (cur.setIfInBounds (o + i) v)) := by
   rw [hadd, run_store P w _ v _ (h1 v (by simp)), hcell]
   simp [hfro, setCell_eq_setRow w g (o + i) cur t fz v hg]
  have ih := iy (P := P) g o t fz rest (i + 1) (cur.setIfInBounds (o + i) v) (w.setRow g (cur.setIfInBounds (o + i) v)) (setRow_heap w g cur _ t _ hg) (by simpa using hz) (by simp at hl ⊢; omega) (fun x hx => h1 x (by simp [hx]))
  simp only [storeCells, UO, hst, UN, ih, setRow_setRow]
  congr 3
  have e := list_seg_step cur.toList (o + i) v rest (by simp at hl ⊢; omega)
  simpa [Array.toList_setIfInBounds, Nat.add_assoc] using e
theorem LQ {ρ : Nat → Loc} {w : World} {P : Program} {blk base o : Nat} {c : Array Value} {e : TypeId} {cs vs : LA_} {pre post : List Value} {n : Nat} {fz : Nat × Nat}
  (hz : Mv fz c.size) (h1 : w.heap[blk]? = some (.cells c e fz)) (h2 : c.toList = pre ++ γL ρ cs ++ post) (h3 : pre.length = base) (hle : o + vs.length ≤ cs.length) (hs : scC n vs = true) :
  ∃ w' c', (storeCells ⟨blk, base + o, none⟩ (γL ρ vs)).run P w = .ok () w' ∧ w'.heap[blk]? = some (.cells c' e fz) ∧ c'.toList = pre ++ γL ρ (spliced cs o vs) ++ post ∧ c'.size = c.size ∧
   w'.heap.size = w.heap.size ∧ (∀ k, k ≠ blk → w'.heap[k]? = w.heap[k]?) ∧ w'.os = w.os ∧ w'.tape = w.tape ∧ w'.output = w.output := by
 have hcl : c.size = pre.length + cs.length + post.length := by
  have := congrArg List.length h2
  simp at this; omega
 have hst := iy (P := P) blk (base + o) e fz (γL ρ vs) 0 c w h1 hz (by rw [aU]; omega)
  (fun v hv => by
   rw [gY] at hv
   obtain ⟨u, hu, rfl⟩ := List.mem_map.1 hv
   exact zU ((fe _ _).1 hs u hu).1)
 refine ⟨_, _, hst, setRow_heap w _ c _ e _ h1, ?_, ?_, by simp [World.setRow], fun k hk => setRow_other w _ k _ hk, rfl, rfl, rfl⟩
 ·simp only [spliced, cz, zR, zS, Nat.add_zero]
  rw [h2, aU, ← h3]
  have e1 : (pre ++ γL ρ cs ++ post).take (pre.length + o) = pre ++ (γL ρ cs).take o := by
   rw [UV, List.take_append, List.take_of_length_le (by omega), show pre.length + o - pre.length = o by omega, List.take_append,
    show o - (γL ρ cs).length = 0 by rw [aU]; omega, List.take_zero, List.append_nil]
  have e2 : (pre ++ γL ρ cs ++ post).drop (pre.length + o + vs.length) = (γL ρ cs).drop (o + vs.length) ++ post := by
   rw [UV, List.drop_append, List.drop_of_length_le (by omega), List.nil_append, show pre.length + o + vs.length - pre.length = o + vs.length by omega,
    List.drop_append, show o + vs.length - (γL ρ cs).length = 0 by rw [aU]; omega, List.drop_zero]
  rw [e1, e2]
  simp only [UV]
 ·simp only [List.size_toArray, UQ, List.length_take, List.length_drop, Array.length_toList, aU, Nat.add_zero]; omega
theorem ry {cs vs : LA_} {o : Nat} (h : o + vs.length ≤ cs.length) : (spliced cs o vs).length = cs.length := by
 simp only [spliced, UQ, List.length_take, List.length_drop]; omega
theorem DU {n o : Nat} {cs vs : LA_} (hc : scC n cs = true) (hv : scC n vs = true) : scC n (spliced cs o vs) = true :=
 d9.2 ⟨d9.2 ⟨zT hc, hv⟩, rx hc⟩
theorem Rel.JW {w0 : W0} {ρ : Nat → Loc} {σ σ' : Mem} {w : World} (h : Rel w0 ρ σ w) {P : Program} {b o : Nat} {vs : LA_} (hp : xz σ b o vs = some σ')
  (hs : scC σ.next vs = true) : ∃ w', (storeCells ⟨(ρ b).blk, (ρ b).base + o, none⟩ (γL ρ vs)).run P w = .ok () w' ∧ Rel w0 ρ σ' w' ∧ σ'.next = σ.next := by
 unfold xz at hp
 split at hp
 ·rename_i cs gr hg
  split at hp
  ·rename_i hle
   cases hp
   obtain ⟨c, e, fz, h1, ⟨pre, post, h2, h3⟩, h4, h5⟩ := h.ok b _ hg
   obtain ⟨w', c', r0, r1, r2, r3, r4, r5, r6, r7, r8⟩ := LQ (P := P) (h4 rfl) h1 h2 h3 hle hs
   refine ⟨w', r0, ?_, rfl⟩
   refine h.set hg rfl (DU (h.sco b _ hg) hs) ?_ r4 r5 r6 r7 r8
   exact ⟨c', e, fz, r1, ⟨pre, post, r2, h3⟩, fun _ => by rw [r3]; exact h4 rfl, fun g hgr => by rw [ry hle, r3]; exact h5 g hgr⟩
  ·cases hp
 ·rename_i cs n sz hg
  split at hp
  ·rename_i hle
   obtain ⟨hle, hfl⟩ := hle
   cases hp
   obtain ⟨g0, g1⟩ := h.ok b _ hg
   rcases g1 with ⟨rfl, rfl, _⟩ | ⟨q1, q2, q3, c, e, fz, h1, ⟨pre, post, h2, h3⟩, h4⟩
   ·have hv : vs = [] := by
     have : vs.length = 0 := by simp only [List.length_nil] at hle; omega
     exact List.length_eq_zero_iff.1 this
    subst hv
    refine ⟨w, by simp [γL, storeCells], ?_, rfl⟩
    refine ⟨?_, ?_, ?_, ?_, ?_, ?_, h.os, h.tape, h.output, h.size, h.old⟩
    ·intro j bj hj
     rw [aT] at hj
     split at hj
     ·rename_i e; rw [← e]; exact h.lt b _ hg
     ·exact h.lt j bj hj
    ·intro j bj hj
     rw [aT] at hj
     split at hj
     ·cases hj; simp [spliced, scB, scC]
     ·exact h.sco j bj hj
    ·intro j bj hj
     rw [aT] at hj
     split at hj
     ·rename_i e; rw [← e]; cases hj; simpa [spliced] using h.ok b _ hg
     ·exact h.ok j bj hj
    ·intro j bj hj ha
     rw [aT] at hj
     split at hj
     ·cases hj; simp [spliced, am.alive] at ha
     ·exact h.inb j bj hj ha
    ·intro j k bj bk hj hk hjk hoj hak
     rw [aT] at hj hk
     split at hj
     ·cases hj; simp [spliced, am.owned] at hoj
     ·split at hk
      ·cases hk; simp [spliced, am.alive] at hak
      ·exact h.ap j k bj bk hj hk hjk hoj hak
    ·intro j bj hj hoj
     rw [aT] at hj
     split at hj
     ·cases hj; simp [spliced, am.owned] at hoj
     ·exact h.own j bj hj hoj
   ·obtain ⟨hz, q4, h5⟩ := h4.1 rfl
    obtain ⟨w', c', r0, r1, r2, r3, r4, r5, r6, r7, r8⟩ := LQ (P := P) hz h1 h2 h3 hle hs
    refine ⟨w', r0, ?_, rfl⟩
    refine h.set hg (by cases cs <;> simp_all [am.owned]) (DU (h.sco b _ hg) hfl) ?_ r4 r5 r6 r7 r8
    refine ⟨g0, .inr ⟨?_, q2, by rw [ry hle]; exact q3, c', e, fz, r1, ⟨pre, post, r2, h3⟩, fun _ => ⟨by rw [r3]; exact hz, q4, by rw [r3]; exact h5⟩, h4.2⟩⟩
    intro e0
    have := ry hle
    rw [e0] at this
    exact q1 (List.length_eq_zero_iff.1 this.symm)
  ·cases hp
 ·cases hp
theorem Rel.JX {w0 : W0} {ρ : Nat → Loc} {σ σ' : Mem} {w : World} (h : Rel w0 ρ σ w) {P : Program} {T : ar} (hT : aZ P T) {t : TypeId} {x v : ab}
  (hp : qa T σ t x v = some σ') (hs : sc σ.next v = true) :
  ∃ b o w', x = .ptr b o ∧ (storeVar t ⟨(ρ b).blk, (ρ b).base + o, none⟩ (γ ρ v)).run P w = .ok () w' ∧ Rel w0 ρ σ' w' ∧ σ'.next = σ.next := by
 unfold qa at hp
 split at hp
 ·rename_i i b o ht
  split at hp
  ·rename_i hlen
   obtain ⟨hlen, hv⟩ := hlen
   obtain ⟨w', h1, h2, h3⟩ := h.JW (P := P) hp (rP hs hv)
   refine ⟨b, o, w', rfl, ?_, h2, h3⟩
   have hsz : (γL ρ v.cellsOf).length = i.size := by rw [aU, hlen]
   simp only [storeVar, UO, (hT t i ht).dt, UN, vv _ _ hv, List.size_toArray, hsz, ne_eq, not_true_eq_false, if_false]
   simpa using h1
  ·cases hp
 ·cases hp
end Go.Ev
namespace Go.Ev
theorem NC {x : Value} {v : ab} (h : ofV x = some v) (ρ : Nat → Loc) (n : Nat) : γ ρ v = x ∧ sc n v = true := by
 unfold ofV at h
 split at h <;> first | (cases h; exact ⟨by simp [γ], by simp [sc]⟩) | cases h
section
variable {a : Act} {ρ : Nat → Loc} {tm : LA_} {n : Nat}
theorem qf (hf : a.tmps = (γL ρ tm).toArray) (hs : scL n tm = true) {x : Operand} {v : ab} (h : ev tm x = some v) : a.eval x = γ ρ v ∧ sc n v = true := by
 cases x with
 | tmp t =>
  simp only [ev, UB] at h
  subst h
  refine ⟨?_, O9 hs⟩
  simp only [Act.eval, hf]
  rw [Array.getD_eq_getD_getElem?, List.getElem?_toArray, gZ, UK]
  cases tm[t]? <;> simp [γ, γL, undef]
 | const x => exact ⟨(NC h ρ n).1.symm ▸ rfl, (NC h ρ n).2⟩
 | global g => simp [ev] at h
 | func f => simp only [ev, UB] at h; subst h; exact ⟨by simp [Act.eval, γ, γL], by simp [sc, scL]⟩
theorem sF (hf : a.tmps = (γL ρ tm).toArray) (hs : scL n tm = true) : ∀ {xs : List Operand} {vs : LA_}, evL tm xs = some vs → xs.map a.eval = γL ρ vs ∧ scL n vs = true
 | [], vs, h => by simp only [evL, UB] at h; subst h; exact ⟨rfl, rfl⟩
 | x :: xs, vs, h => by
  simp only [evL] at h
  split at h
  ·rename_i v us hv hu
   cases h
   obtain ⟨h1, h2⟩ := qf hf hs hv
   obtain ⟨h3, h4⟩ := sF hf hs hu
   exact ⟨by simp [h1, h3, γL], by simp [scL, h2, h4]⟩
  ·cases h
theorem JY (hf : a.tmps = (γL ρ tm).toArray) (hs : scL n tm = true) : ∀ {xs : List (Nat × Operand)} {vs : List (Nat × ab)}, evP tm xs = some vs →
  (xs.map fun x => (x.1, a.eval x.2)) = (vs.map fun x => (x.1, γ ρ x.2)) ∧ ∀ x ∈ vs, sc n x.2 = true
 | [], vs, h => by simp only [evP, UB] at h; subst h; exact ⟨rfl, by simp⟩
 | (i, x) :: xs, vs, h => by
  simp only [evP] at h
  split at h
  ·rename_i v us hv hu
   cases h
   obtain ⟨h1, h2⟩ := qf hf hs hv
   obtain ⟨h3, h4⟩ := JY hf hs hu
   exact ⟨by simp [h1, h3], by simpa [h2] using h4⟩
  ·cases h
end
section
variable {P : Program} {T : ar} {ρ : Nat → Loc} {n : Nat} (w : World)
theorem ND {op : BinOp} {k : IntKind} {x y : Int} {v : ab} {t : TypeId} (h : zP op k x y = some v) :
    (binOp op t (.int k x) (.int k y)).run P w = .ok (γ ρ v) w ∧ sc n v = true := by
  cases op <;> simp only [zP] at h <;> first
    | (cases h; exact ⟨by simp [binOp, Op.intArith, Op.intBits, Op.intCmp, γ], by simp [sc]⟩)
    | (split at h
       · cases h
       · rename_i hy
         cases h
         exact ⟨by simp [binOp, Op.intDiv, hy, γ], by simp [sc]⟩)
    | cases h
theorem DV {op : BinOp} {k l : IntKind} {x y : Int} {v : ab} {t : TypeId} (h : yt op k x y = some v) :
  (binOp op t (.int k x) (.int l y)).run P w = .ok (γ ρ v) w ∧ sc n v = true := by
 unfold yt at h
 split at h
 ·cases h
 ·rename_i hy
  split at h
  ·cases h; exact ⟨by simp [binOp, Op.shift, hy, γ], by simp [sc]⟩
  ·cases h; exact ⟨by simp [binOp, Op.shift, hy, γ], by simp [sc]⟩
  ·cases h
theorem ep {t : TypeId} {x y : Value} {r : Bool} (xo yo : Operand) (hb : binOp .eql t x y = (do pure (.bool (← Op.equal t x y))))
  (hn : binOp .neq t x y = (do pure (.bool (!(← Op.equal t x y))))) (hg : ∀ op, (eqGuard op t xo yo x y).run P w = .ok () w)
  (he : (Op.equal t x y).run P w = .ok r w) :
  (do eqGuard .eql t xo yo x y; binOp .eql t x y).run P w = .ok (.bool r) w ∧
  (do eqGuard .neq t xo yo x y; binOp .neq t x y).run P w = .ok (.bool !r) w := by
 rw [hb, hn]
 simp only [UO, hg, UN, he, UP, and_self]
theorem bW {op : BinOp} {t : TypeId} {xo yo : Operand} {x y : Value} (h1 : ∀ cs, x ≠ .agg cs) (h2 : x ≠ .nilIface) : (eqGuard op t xo yo x y).run P w = .ok () w := by
  unfold eqGuard
  cases op <;> first
    | rfl
    | (rw [if_neg (by simp)]
       split
       · exact absurd rfl h2
       · exact absurd rfl (h1 _)
       · rfl)
theorem fw (t : TypeId) (x y : Value) : ∃ d, Op.equal t x y = Op.equalIn (d + 1) t x y := ⟨9999, rfl⟩
theorem Mx {t : TypeId} (hk : P.underlying t = some .bool) (a b : Bool) : (Op.equal t (.bool a) (.bool b)).run P w = .ok (a == b) w := by
 obtain ⟨d, h⟩ := fw t (.bool a) (.bool b)
 rw [h, Op.equalIn]; simp only [UO, run_underlying hk, UN, UP]
theorem kq {t e : TypeId} (hk : P.underlying t = some (.slice e)) (a b : Option Addr) (l c l' c' : Nat) (h0 : a = none ∨ b = none) :
  (Op.equal t (.slice a l c) (.slice b l' c')).run P w = .ok (a.isNone && b.isNone) w := by
 obtain ⟨d, h⟩ := fw t (.slice a l c) (.slice b l' c')
 rw [h, Op.equalIn]
 cases a with
 | none => simp only [UO, run_underlying hk, UN, UP, Option.isNone_none, Bool.true_and]
 | some a =>
  cases b with
  | none => simp only [UO, run_underlying hk, UN, UP, Option.isNone_none, Option.isNone_some, Bool.false_and]
  | some b => simp at h0
theorem Cb {t e : TypeId} (hk : P.underlying t = some (.pointer e)) (a b : Option Addr) (h0 : a = none ∨ b = none) :
  (Op.equal t (.pointer a) (.pointer b)).run P w = .ok (a.isNone && b.isNone) w := by
 obtain ⟨d, h⟩ := fw t (.pointer a) (.pointer b)
 rw [h, Op.equalIn]
 cases a with
 | none => simp only [UO, run_underlying hk, UN, UP, Option.isNone_none, Bool.true_and]
 | some a =>
  cases b with
  | none => simp only [UO, run_underlying hk, UN, UP, Option.isNone_none, Option.isNone_some, Bool.false_and]
  | some b => simp at h0
theorem Cc {t k e : TypeId} (hk : P.underlying t = some (.map k e)) (a b : Option Nat) (h0 : a = none ∨ b = none) :
  (Op.equal t (.map a) (.map b)).run P w = .ok (a.isNone && b.isNone) w := by
 obtain ⟨d, h⟩ := fw t (.map a) (.map b)
 rw [h, Op.equalIn]
 cases a with
 | none => simp only [UO, run_underlying hk, UN, UP, Option.isNone_none, Bool.true_and]
 | some a =>
  cases b with
  | none => simp only [UO, run_underlying hk, UN, UP, Option.isNone_none, Option.isNone_some, Bool.false_and]
  | some b => simp at h0
theorem zW {t : TypeId} {p q : Array TypeId} {va : Bool} (hk : P.underlying t = some (.func p q va)) (fn : Fn) (fs cs : Array Value) :
  (Op.equal t .nilFunc .nilFunc).run P w = .ok true w ∧ (Op.equal t .nilFunc (.func fn fs cs)).run P w = .ok false w ∧ (Op.equal t (.func fn fs cs) .nilFunc).run P w = .ok false w := by
 refine ⟨?_, ?_, ?_⟩
 ·obtain ⟨d, h⟩ := fw t .nilFunc .nilFunc
  rw [h, Op.equalIn]; simp only [UO, run_underlying hk, UN, UP]
 ·obtain ⟨d, h⟩ := fw t .nilFunc (.func fn fs cs)
  rw [h, Op.equalIn]; simp only [UO, run_underlying hk, UN, UP]
 ·obtain ⟨d, h⟩ := fw t (.func fn fs cs) .nilFunc
  rw [h, Op.equalIn]; simp only [UO, run_underlying hk, UN, UP]
theorem xB {t : TypeId} {ms : _} (hk : P.underlying t = some (.interface ms)) (u : TypeId) (v : Value) :
  (Op.equal t .nilIface .nilIface).run P w = .ok true w ∧ (Op.equal t .nilIface (.iface u v)).run P w = .ok false w ∧ (Op.equal t (.iface u v) .nilIface).run P w = .ok false w := by
 refine ⟨?_, ?_, ?_⟩
 ·obtain ⟨d, h⟩ := fw t .nilIface .nilIface
  rw [h, Op.equalIn]; simp only [UO, run_underlying hk, UN, UP]
 ·obtain ⟨d, h⟩ := fw t .nilIface (.iface u v)
  rw [h, Op.equalIn]; simp only [UO, run_underlying hk, UN, UP]
 ·obtain ⟨d, h⟩ := fw t (.iface u v) .nilIface
  rw [h, Op.equalIn]; simp only [UO, run_underlying hk, UN, UP]
theorem NE {op : BinOp} {t : TypeId} {xo yo : Operand} (h : (ml xo || ml yo) = true) : (eqGuard op t xo yo .nilIface .nilIface).run P w = .ok () w := by
  unfold eqGuard
  cases op <;> first
    | rfl
    | (rw [if_neg (by simp)]
       simp only
       rw [if_pos ?_]
       · rfl
       · cases xo <;> cases yo <;> simp_all [ml])
theorem My {op : BinOp} {t : TypeId} {xo yo : Operand} (u : TypeId) (v : Value) : (eqGuard op t xo yo .nilIface (.iface u v)).run P w = .ok () w := by
 unfold eqGuard
 cases op <;> rfl
theorem JZ (hT : aZ P T) {c : Bool} {t : TypeId} {x y : ab} {r : Bool} (h : HT T c t x y = some r) (xo yo : Operand) (hc : c = true → (ml xo || ml yo) = true) :
  (do eqGuard .eql t xo yo (γ ρ x) (γ ρ y); binOp .eql t (γ ρ x) (γ ρ y)).run P w = .ok (.bool r) w ∧
  (do eqGuard .neq t xo yo (γ ρ x) (γ ρ y); binOp .neq t (γ ρ x) (γ ρ y)).run P w = .ok (.bool !r) w := by
 unfold HT at h
 split at h
 ·cases h
 ·rename_i i ht
  have hti := hT t i ht
  have hk := hti.k
  have fl : ∀ (xs ys : LA_), (i.flat.bind fun ks => cD ks xs ys) = some r →
    (do eqGuard .eql t xo yo (γ ρ (.agg xs)) (γ ρ (.agg ys)); binOp .eql t (γ ρ (.agg xs)) (γ ρ (.agg ys))).run P w = .ok (.bool r) w ∧
    (do eqGuard .neq t xo yo (γ ρ (.agg xs)) (γ ρ (.agg ys)); binOp .neq t (γ ρ (.agg xs)) (γ ρ (.agg ys))).run P w = .ok (.bool !r) w := by
   intro xs ys h
   cases hfl : i.flat with
   | none => rw [hfl] at h; cases h
   | some ks =>
    rw [hfl] at h
    obtain ⟨h1, h2⟩ := hti.flat ks hfl
    obtain ⟨h3, _⟩ := h2 ρ w _ _ _ h
    refine ep w xo yo rfl rfl (fun op => ?_) (by simpa only [γ] using h3)
    simp only [γ]
    unfold eqGuard
    cases op <;> first
     | rfl
     | (rw [if_neg (by simp)]; simp only [UO, UN, run_program, h1, Bool.not_false, if_true, UP])
  split at h <;> first
   | exact fl _ _ h
   | cases h
   | skip
  all_goals (rename_i hik; rw [hik] at hk; simp only [KOk] at hk; simp only [γ])
  ·exact ep w xo yo rfl rfl (fun _ => bW w (by simp) (by simp)) (Mx w hk _ _)
  ·exact ep w xo yo rfl rfl (fun _ => bW w (by simp) (by simp)) (kq w hk _ _ _ _ _ _ (.inl rfl))
  ·exact ep w xo yo rfl rfl (fun _ => bW w (by simp) (by simp)) (kq w hk _ _ _ _ _ _ (.inl rfl))
  ·exact ep w xo yo rfl rfl (fun _ => bW w (by simp) (by simp)) (kq w hk _ _ _ _ _ _ (.inr rfl))
  ·exact ep w xo yo rfl rfl (fun _ => bW w (by simp) (by simp)) (kq w hk _ _ _ _ _ _ (.inl rfl))
  ·exact ep w xo yo rfl rfl (fun _ => bW w (by simp) (by simp)) (kq w hk _ _ _ _ _ _ (.inr rfl))
  ·exact ep w xo yo rfl rfl (fun _ => bW w (by simp) (by simp)) (Cb w hk _ _ (.inl rfl))
  ·exact ep w xo yo rfl rfl (fun _ => bW w (by simp) (by simp)) (Cb w hk _ _ (.inl rfl))
  ·exact ep w xo yo rfl rfl (fun _ => bW w (by simp) (by simp)) (Cb w hk _ _ (.inr rfl))
  ·exact ep w xo yo rfl rfl (fun _ => bW w (by simp) (by simp)) (Cc w hk _ _ (.inl rfl))
  ·exact ep w xo yo rfl rfl (fun _ => bW w (by simp) (by simp)) (Cc w hk _ _ (.inl rfl))
  ·exact ep w xo yo rfl rfl (fun _ => bW w (by simp) (by simp)) (Cc w hk _ _ (.inr rfl))
  ·obtain ⟨a, b, c, hk⟩ := hk
   exact ep w xo yo rfl rfl (fun _ => bW w (by simp) (by simp)) (zW w hk (.func 0) #[] #[]).1
  ·obtain ⟨a, b, c, hk⟩ := hk
   exact ep w xo yo rfl rfl (fun _ => bW w (by simp) (by simp)) (zW w hk _ _ _).2.1
  ·obtain ⟨a, b, c, hk⟩ := hk
   exact ep w xo yo rfl rfl (fun _ => bW w (by simp) (by simp)) (zW w hk _ _ _).2.2
  ·split at h
   ·rename_i hcc
    cases h
    obtain ⟨ms, hk⟩ := hk
    exact ep w xo yo rfl rfl (fun _ => NE w (hc hcc)) (xB w hk 0 .nilIface).1
   ·cases h
  ·obtain ⟨ms, hk⟩ := hk
   exact ep w xo yo rfl rfl (fun _ => My w _ _) (xB w hk _ _).2.1
  ·obtain ⟨ms, hk⟩ := hk
   exact ep w xo yo rfl rfl (fun _ => bW w (by simp) (by simp)) (xB w hk _ _).2.2
theorem J0 (hT : aZ P T) {c : Bool} {op : BinOp} {t : TypeId} {x y v : ab} (h : xy T c op t x y = some v) (xo yo : Operand) (hc : c = true → (ml xo || ml yo) = true) :
  (do eqGuard op t xo yo (γ ρ x) (γ ρ y); binOp op t (γ ρ x) (γ ρ y)).run P w = .ok (γ ρ v) w ∧ sc n v = true := by
 unfold xy at h
 split at h
 ·rename_i k a l b
  have hg : (eqGuard op t xo yo (γ ρ (.int k a)) (γ ρ (.int l b))).run P w = .ok () w := bW w (by simp [γ]) (by simp [γ])
  simp only [UO, hg, UN]
  simp only [γ]
  split at h
  ·exact DV w h
  ·exact DV w h
  ·split at h
   ·rename_i hkl; subst hkl; exact ND w h
   ·cases h
 ·rename_i a b
  have hg : (eqGuard op t xo yo (γ ρ (.str a)) (γ ρ (.str b))).run P w = .ok () w := bW w (by simp [γ]) (by simp [γ])
  simp only [UO, hg, UN]
  simp only [γ]
  split at h
  ·cases h; exact ⟨by simp [binOp, Op.stringOp, γ, ByteArray.toList_eq], by simp [sc]⟩
  ·cases h; exact ⟨by simp [binOp, Op.stringOp, γ, ByteArray.toList_eq], by simp [sc]⟩
  ·cases h
 ·split at h
  ·cases he : HT T c t x y with
   | none => rw [he] at h; cases h
   | some r => rw [he] at h; cases h; exact ⟨by simpa only [γ] using (JZ w hT he xo yo hc).1, by simp [sc]⟩
  ·cases he : HT T c t x y with
   | none => rw [he] at h; cases h
   | some r => rw [he] at h; cases h; exact ⟨by simpa only [γ] using (JZ w hT he xo yo hc).2, by simp [sc]⟩
  ·cases h
theorem Q5 {op : UnOp} {x v : ab} (h : unA op x = some v) : (Op.unary op (γ ρ x)).run P w = .ok (γ ρ v) w ∧ sc n v = true := by
 unfold unA at h
 split at h
 ·cases h; exact ⟨by simp [Op.unary, Op.intArith, γ], by simp [sc]⟩
 ·simp only [zP] at h; cases h; exact ⟨by simp [Op.unary, Op.intBits, γ], by simp [sc]⟩
 ·cases h; exact ⟨by simp [Op.unary, γ], by simp [sc]⟩
 ·cases h
theorem NF (hT : aZ P T) {src dst : TypeId} {x v : ab} (h : Mu T src dst x = some v) :
  (convert src dst (γ ρ x)).run P w = .ok (γ ρ v) w ∧ sc n v = true := by
 unfold Mu at h
 split at h
 ·cases h
 rename_i hs0
 have hs : (P.underlying src).isSome = true := by
  cases hs1 : T src with
  | none => simp [hs1] at hs0
  | some i => exact (hT src i hs1).isSome
 split at h
 ·rename_i k _ _ _ _ _ m hd
  cases h
  have hk := (hT _ _ hd).k
  simp only [KOk] at hk
  obtain ⟨d, hd'⟩ := Option.isSome_iff_exists.mp hs
  refine ⟨?_, by simp [sc]⟩
  simp only [γ]
  unfold convert
  simp only [UO, run_underlying hd', run_underlying hk, UN]
  simp [Conv.intToInt]
 ·cases h
end
end Go.Ev
namespace Go.Ev
section
variable {P : Program} {T : ar} {ρ : Nat → Loc} {n : Nat} (w : World)
theorem Cd {fields : Array Field} {fs : List (Nat × TypeId)} (h : fields.toList.map (fun f => (f.offset, f.type)) = fs) {i off : Nat} {t : TypeId}
  (hi : fs[i]? = some (off, t)) : ∃ f, fields[i]? = some f ∧ f.offset = off ∧ f.type = t := by
 rw [← h, List.getElem?_map] at hi
 rw [← UX]
 cases hf : fields.toList[i]? with
 | none => rw [hf] at hi; cases hi
 | some f => rw [hf] at hi; simp at hi; exact ⟨f, rfl, hi.1, hi.2⟩
theorem Jd (hT : aZ P T) {s : TypeId} {x v : ab} {f : Nat} (hs : sc n x = true) (h : zQ T s x f = some v) :
  (Instr.fieldAt s (γ ρ x) f).run P w = .ok (γ ρ v) w ∧ sc n v = true := by
 unfold zQ at h
 split at h
 ·rename_i fs _ b o _ _ _ _ _ hTs
  split at h
  ·cases h
  ·rename_i off t hft
   split at h
   ·cases h
   ·rename_i i hTt
    split at h
    ·cases h
    ·rename_i hz
     cases h
     obtain ⟨fields, hu, hm⟩ := (hT _ _ hTs).k
     obtain ⟨fd, h1, h2, h3⟩ := Cd hm hft
     refine ⟨?_, by simpa [sc] using hs⟩
     simp only [γ, Instr.fieldAt, UO, run_underlying hu, UN, h1, Instr.sureAddr, UP, fieldPlace, h3, (hT _ _ hTt).dt, if_neg hz, lC, h2, Nat.add_assoc]
 ·cases h
theorem Ip (hT : aZ P T) {t : TypeId} {cs : LA_} {off : Nat} {v : ab} (hs : scC n cs = true) (h : Ga T t cs off = some v) :
  (part t (γL ρ cs).toArray off).run P w = .ok (γ ρ v) w ∧ sc n v = true := by
 unfold Ga at h
 split at h
 ·cases h
 ·rename_i i ht
  have hti := hT t i ht
  split at h
  ·rename_i ha
   cases h
   refine ⟨?_, by simp only [sc]; exact zT (rx hs)⟩
   simp only [part, UO, hti.wI, ha, UN, if_true, hti.dt, UP, γ]
   congr 2
   apply Array.ext'
   simp only [Array.toList_extract, List.extract_eq_take_drop, zR, zS, Nat.add_sub_cancel_left]
  ·rename_i ha
   have ha' : i.agg = false := by simpa using ha
   refine ⟨?_, ?_⟩
   ·simp [part, UO, hti.wI, ha', UN, gZ, h]
   ·exact ((fe _ _).1 hs v (List.mem_of_getElem? h)).2
theorem NH (hT : aZ P T) {s : TypeId} {x v : ab} {f : Nat} (hs : sc n x = true) (h : JO T s x f = some v) :
  (Instr.field s (γ ρ x) f).run P w = .ok (γ ρ v) w ∧ sc n v = true := by
 unfold JO at h
 split at h
 ·rename_i fs _ cs _ _ _ _ _ hTs
  split at h
  ·cases h
  ·rename_i off t hft
   obtain ⟨fields, hu, hm⟩ := (hT _ _ hTs).k
   obtain ⟨fd, h1, h2, h3⟩ := Cd hm hft
   simp only [sc] at hs
   obtain ⟨h4, h5⟩ := Ip (ρ := ρ) w hT hs h
   refine ⟨?_, h5⟩
   simp only [γ, Instr.field, UO, run_underlying hu, UN, h1, asAgg, UP, h2, h3, h4]
 ·cases h
theorem Je (hT : aZ P T) {w0 : W0} {σ : Mem} (hr : Rel w0 ρ σ w) {t : TypeId} {x i v : ab} (hs : sc n x = true) (h : fv T σ t x i = some v) :
  (Instr.indexAt t (γ ρ x) (γ ρ i)).run P w = .ok (γ ρ v) w ∧ sc n v = true := by
 unfold fv at h
 split at h
 ·rename_i e _ b k m _ _ _ _ _ hTt
  split at h
  ·rename_i j cs l sz own hTe hg
   split at h
   ·rename_i hb
    cases h
    have hu := (hT _ _ hTt).k
    simp only [KOk] at hu
    refine ⟨?_, by simpa [sc] using hs⟩
    obtain ⟨g0, g1⟩ := hr.ok _ _ hg
    rcases g1 with ⟨rfl, _⟩ | ⟨_, g2, _⟩
    ·omega
    ·simp only [γ, g0, g2, Instr.indexAt, asIntOf, UO, UP, UN, run_underlying hu, hb, and_self, if_true, (hT _ _ hTe).dt, lC]
   ·cases h
  ·cases h
 ·rename_i e _ b o l ex c k m _ _ _ _ _ hTt
  split at h
  ·cases h
  ·rename_i j hTe
   split at h
   ·rename_i hb
    cases h
    have hu := (hT _ _ hTt).k
    simp only [KOk] at hu
    refine ⟨?_, by simpa [sc] using hs⟩
    simp only [γ, Instr.indexAt, asIntOf, UO, UP, UN, run_underlying hu, hb, and_self, if_true, (hT _ _ hTe).dt, lC, Nat.add_assoc]
   ·cases h
 ·rename_i l e _ b o k m _ _ _ _ _ hTt
  split at h
  ·cases h
  ·rename_i j hTe
   split at h
   ·rename_i hb
    cases h
    have hu := (hT _ _ hTt).k
    simp only [KOk] at hu
    refine ⟨?_, by simpa [sc] using hs⟩
    simp only [γ, Instr.indexAt, asIntOf, UO, UP, UN, run_underlying hu, Instr.sureAddr, hb, and_self, if_true, (hT _ _ hTe).dt, lC, Nat.add_assoc]
   ·cases h
 ·cases h
theorem NI (hT : aZ P T) {t : TypeId} {x i v : ab} (hs : sc n x = true) (h : sA T t x i = some v) :
  (Instr.index t (γ ρ x) (γ ρ i)).run P w = .ok (γ ρ v) w ∧ sc n v = true := by
 unfold sA at h
 split at h
 ·rename_i l e _ cs k m _ _ _ _ _ hTt
  split at h
  ·cases h
  ·rename_i j hTe
   split at h
   ·rename_i hb
    have hu := (hT _ _ hTt).k
    simp only [KOk] at hu
    simp only [sc] at hs
    obtain ⟨h4, h5⟩ := Ip (ρ := ρ) w hT hs h
    refine ⟨?_, h5⟩
    simp only [γ, Instr.index, asIntOf, UO, UP, UN, run_underlying hu, hb, and_self, if_true, (hT _ _ hTe).dt, h4]
   ·cases h
 ·rename_i s k m hTt
  have hu := (hT _ _ hTt).k
  simp only [KOk] at hu
  split at h
  ·rename_i hb
   cases hg : s[m.toNat]? with
   | none => rw [hg] at h; cases h
   | some b =>
    rw [hg] at h; cases h
    refine ⟨?_, by simp [sc]⟩
    simp only [γ, Instr.index, asIntOf, UO, UP, UN, run_underlying hu, hb, if_true, hg]
  ·cases h
 ·cases h
theorem NJ (cells : List Value) : ∀ (k : Nat) (off : Nat) (cs : Array Value), off + k + cells.length ≤ cs.size →
  (cells.zipIdx k).foldl (fun cs (x : Value × Nat) => cs.setIfInBounds (off + x.2) x.1) cs =
   (cs.toList.take (off + k) ++ cells ++ cs.toList.drop (off + k + cells.length)).toArray := by
 induction cells with
 | nil => intro k off cs h; simp
 | cons v rest ih =>
  intro k off cs h
  simp only [UW] at h
  simp only [List.zipIdx_cons, List.foldl_cons]
  rw [ih (k + 1) off (cs.setIfInBounds (off + k) v) (by simp; omega)]
  congr 1
  have hlt : off + k < cs.toList.length := by simp; omega
  simp only [Array.toList_setIfInBounds, UW]
  rw [← Nat.add_assoc, List.take_succ_eq_append_getElem (by simpa using hlt), List.take_set, List.drop_set, if_pos (by omega)]
  simp only [List.getElem_set_self, UV, List.singleton_append]
  rw [List.set_eq_of_length_le (by simp; omega)]
  rw [show off + k + 1 + rest.length = off + k + (rest.length + 1) by omega]
theorem z5 {size : Nat → Option (Nat × Nat)} : ∀ {parts : List (Nat × ab)} {cs r : LA_}, scC n cs = true → (∀ x ∈ parts, sc n x.2 = true) → qb size cs parts = some r →
  Instr.fill size (γL ρ cs).toArray (parts.map fun x => (x.1, γ ρ x.2)) = some (γL ρ r).toArray ∧ scC n r = true
 | [], cs, r, hcs, _, h => by simp only [qb, UB] at h; subst h; exact ⟨rfl, hcs⟩
 | (i, v) :: rest, cs, r, hcs, hp, h => by
  simp only [qb] at h
  split at h
  ·cases h
  ·rename_i off k hk
   split at h
   ·rename_i hb
    obtain ⟨h1, h2, h3⟩ := hb
    have hv := hp (i, v) (by simp)
    have hvc := rP hv h3
    have hcs' : scC n (spliced cs off v.cellsOf) = true := d9.2 ⟨d9.2 ⟨zT hcs, hvc⟩, rx hcs⟩
    obtain ⟨h4, h5⟩ := z5 hcs' (fun x hx => hp x (by simp [hx])) h
    refine ⟨?_, h5⟩
    simp only [List.map_cons, Instr.fill, hk]
    rw [if_neg (by rw [vv _ _ h3]; simp; omega)]
    rw [← h4]
    congr 1
    rw [vv _ _ h3]
    have := NJ (γL ρ v.cellsOf) 0 off (γL ρ cs).toArray (by simp; omega)
    simp only [Nat.add_zero] at this
    rw [← Array.foldl_toList, Array.toList_zipIdx, this]
    simp only [spliced, cz, zR, zS, aU]
   ·cases h
theorem vx (hT : aZ P T) : ∀ {fields : List Field} {ps : List (Nat × Nat)}, lA T (fields.map fun f => (f.offset, f.type)) = some ps →
  (fields.mapM fun f => do pure (f.offset, ← sizeOf f.type) : Sem (List (Nat × Nat))).run P w = .ok ps w
 | [], ps, h => by simp only [List.map_nil, lA, UB] at h; subst h; rfl
 | f :: fs, ps, h => by
  simp only [List.map_cons, lA] at h
  split at h
  ·rename_i i qs h1 h2
   cases h
   have ih := vx hT h2
   simp only [List.mapM_cons, UO, (hT _ _ h1).dt, UN, UP, ih]
  ·cases h
theorem NK (hT : aZ P T) {t : TypeId} {parts : List (Nat × ab)} {v : ab} (hp : ∀ x ∈ parts, sc n x.2 = true) (h : JN T t parts = some v) :
  (Instr.build t (parts.map fun x => (x.1, γ ρ x.2)).toArray).run P w = .ok (γ ρ v) w ∧ sc n v = true := by
 unfold JN at h
 split at h
 ·cases h
 ·rename_i i ht
  have hti := hT t i ht
  have hz0 := fS (Nat.zero_le n) _ hti.zsc
  have hzr := hti.zV ρ w
  have hzc := hti.qe ρ
  split at h
  ·rename_i fs hk
   split at h
   ·cases h
   ·rename_i ps hps
    have hu := hti.k
    rw [hk] at hu
    obtain ⟨fields, hu, hm⟩ := hu
    rw [← hm] at hps
    have hpl := vx (P := P) w hT hps
    cases hf : qb (ps[·]?) i.zero parts with
    | none => rw [hf] at h; cases h
    | some r =>
     rw [hf] at h; cases h
     obtain ⟨h1, h2⟩ := z5 (ρ := ρ) hz0 hp hf
     refine ⟨?_, by simpa [sc] using h2⟩
     have hpl' : (fields.mapM fun f => do pure (f.offset, ← sizeOf f.type) : Sem (Array (Nat × Nat))).run P w = .ok ps.toArray w := by
      rw [Array.mapM_eq_mapM_toList]
      simp only [Sem.run_map, hpl, UN]
     simp only [Instr.build, UO, hzr, UN, hzc, run_underlying hu, hpl', List.getElem?_toArray, h1, UP, γ]
  ·rename_i m e hk
   split at h
   ·cases h
   ·rename_i j hTe
    have hu := hti.k
    rw [hk] at hu
    simp only [KOk] at hu
    cases hf : qb (fun n => some (n * j.size, j.size)) i.zero parts with
    | none => rw [hf] at h; cases h
    | some r =>
     rw [hf] at h; cases h
     obtain ⟨h1, h2⟩ := z5 (ρ := ρ) hz0 hp hf
     refine ⟨?_, by simpa [sc] using h2⟩
     simp only [Instr.build, UO, hzr, UN, hzc, run_underlying hu, (hT _ _ hTe).dt, h1, UP, γ]
  ·cases h
end
end Go.Ev
namespace Go.Ev
structure bO (w0 : W0) (ρ : Nat → Loc) (n : Nat) (ρ' : Nat → Loc) (σ' : Mem) (w' : World) : Prop where
 rel : Rel w0 ρ' σ' w'
 ext : ∀ i, i < n → ρ' i = ρ i
 le : n ≤ σ'.next
theorem bO.refl {w0 : W0} {ρ : Nat → Loc} {σ : Mem} {w : World} (h : Rel w0 ρ σ w) : bO w0 ρ σ.next ρ σ w := ⟨h, fun _ _ => rfl, Nat.le_refl _⟩
theorem bO.trans {w0 : W0} {ρ ρ' ρ'' : Nat → Loc} {n : Nat} {σ' σ'' : Mem} {w' w'' : World} (h : bO w0 ρ n ρ' σ' w') (k : bO w0 ρ' σ'.next ρ'' σ'' w'') : bO w0 ρ n ρ'' σ'' w'' :=
 ⟨k.rel, fun i hi => (k.ext i (Nat.lt_of_lt_of_le hi h.le)).trans (h.ext i hi), Nat.le_trans h.le k.le⟩
section
variable {P : Program} {T : ar} {ρ : Nat → Loc} {w0 : W0} {w : World} {σ : Mem}
theorem Rel.newRow (h : Rel w0 ρ σ w) {cs : LA_} (hs : scC σ.next cs = true) (e : TypeId) (gr : Option Nat) (cap : Nat) (post : List Value)
  (hg : ∀ g, gr = some g → cap * g = cs.length + post.length) :
  (newRow e (γL ρ cs ++ post).toArray).run P w = .ok ⟨w.heap.size, 0, none⟩ { w with heap := w.heap.push (.cells (γL ρ cs ++ post).toArray e) } ∧
  bO w0 ρ σ.next (upd ρ σ.next (Loc.mk3 (w.heap.size) (0) (cap))) (σ.push (.cells cs true gr)) { w with heap := w.heap.push (.cells (γL ρ cs ++ post).toArray e) } := by
 refine ⟨rfl, ?_, fun i hi => dU hi, by simp⟩
 refine h.push rfl hs fun ρ' hρ => ?_
 refine ⟨(γL ρ cs ++ post).toArray, e, (0, 0), by simp, ⟨[], post, ?_, rfl⟩, fun _ => .inl rfl, fun g hgr => ⟨rfl, ?_, ?_⟩⟩
 ·simp [ix hρ cs hs]
 ·have := hg g hgr; simp; omega
 ·have := hg g hgr; show cs.length ≤ cap * g; omega
theorem Rel.NQ (h : Rel w0 ρ σ w) {cs : LA_} (hs : scC σ.next cs = true) (e : TypeId) (q : Bool) :
  ∃ L : Loc, L.blk = w.heap.size ∧ L.base = 0 ∧ bO w0 ρ σ.next (upd ρ σ.next L) (σ.push (uj q cs)) { w with heap := w.heap.push (.cells (γL ρ cs).toArray e) } := by
 unfold uj
 split
 ·rename_i hq
  simp only [UC, Bool.not_eq_true', List.isEmpty_eq_false_iff] at hq
  refine ⟨⟨w.heap.size, 0, 1, ⟨0, 0, none⟩, .nilIface, some ⟨w.heap.size, 0, none⟩, 1, 1, default⟩, rfl, rfl, ?_, fun i hi => dU hi, by simp⟩
  refine h.push rfl hq.1.2 fun ρ' hρ => ?_
  refine ⟨rfl, .inr ⟨hq.2, rfl, by simp, (γL ρ cs).toArray, e, (0, 0), by simp, ⟨[], [], ?_, rfl⟩, fun _ => ⟨.inl rfl, Nat.le_refl _, by simp⟩, Nat.le_refl _, rfl⟩⟩
  simp [ix hρ cs hs]
 ·obtain ⟨_, h2⟩ := h.newRow (P := default) hs e none 0 [] (by simp)
  rw [List.append_nil] at h2
  exact ⟨_, rfl, rfl, h2⟩
theorem NR (h : Rel w0 ρ σ w) (hT : aZ P T) {t : TypeId} {i : TyI} (ht : T t = some i) (q : Bool) :
  ∃ w' L, (Instr.alloc t true (.tuple #[])).run P w = .ok (.pointer (some ⟨w.heap.size, 0, none⟩)) w' ∧ L.blk = w.heap.size ∧ L.base = 0 ∧
   bO w0 ρ σ.next (upd ρ σ.next L) (σ.push (uj q i.zero)) w' := by
 have hti := hT t i ht
 have hz := fS (Nat.zero_le σ.next) _ hti.zsc
 obtain ⟨h1, _⟩ := h.newRow (P := P) hz t none 0 [] (by simp)
 obtain ⟨L, l1, l2, h2⟩ := h.NQ hz t q
 rw [List.append_nil] at h1
 refine ⟨_, L, ?_, l1, l2, h2⟩
 simp only [Instr.alloc, UO, hti.zV ρ, UN, newVar, hti.qe, h1, UP]
theorem Ra (h : Rel w0 ρ σ w) {v : ab} (hs : sc σ.next v = true) (hv : v.p9 = false) (t : TypeId) (q : Bool) :
  ∃ w' L, (Instr.box t (γ ρ v)).run P w = .ok (.pointer (some ⟨w.heap.size, 0, none⟩)) w' ∧ L.blk = w.heap.size ∧ L.base = 0 ∧
   bO w0 ρ σ.next (upd ρ σ.next L) (σ.push (uj q v.cellsOf)) w' := by
 obtain ⟨h1, _⟩ := h.newRow (P := P) (rP hs hv) t none 0 [] (by simp)
 obtain ⟨L, l1, l2, h2⟩ := h.NQ (rP hs hv) t q
 rw [List.append_nil] at h1
 refine ⟨_, L, ?_, l1, l2, h2⟩
 simp only [Instr.box, newVar, vv _ _ hv, UO, h1, UN, UP]
theorem vC (z : LA_) : ∀ n, (times z n).length = n * z.length
 | 0 => by simp [times]
 | n + 1 => by simp [times, vC z n, Nat.succ_mul]; omega
theorem Ch {n : Nat} {z : LA_} (h : scC n z = true) : ∀ k, scC n (times z k) = true
 | 0 => rfl
 | k + 1 => d9.2 ⟨h, Ch h k⟩
theorem xD (z : LA_) (ρ : Nat → Loc) (hz : z ≠ []) : ∀ n, (List.range (n * z.length)).map (fun i => (γL ρ z).toArray[i % z.length]!) = γL ρ (times z n)
 | 0 => by simp [times, γL]
 | n + 1 => by
  have hl : 0 < z.length := List.length_pos_iff.2 hz
  rw [Nat.succ_mul, Nat.add_comm, List.range_add, List.map_append, List.map_map, times, cz]
  congr 1
  ·apply List.ext_getElem
   ·simp
   ·intro i h1 h2
    simp only [List.length_map, List.length_range] at h1
    simp [Nat.mod_eq_of_lt h1, h1]
  ·rw [← xD z ρ hz n]
   apply List.map_congr_left
   intro i _
   simp
theorem HZ (h : Rel w0 ρ σ w) (hT : aZ P T) {t : TypeId} {len : Nat} {parts : List (Nat × ab)} {v : ab} {σ' : Mem} (hp : ∀ x ∈ parts, sc σ.next x.2 = true)
  (hb : iK T σ t len parts = some (v, σ')) :
  ∃ ρ' w', (Instr.buildSlice t len (parts.map fun x => (x.1, γ ρ x.2)).toArray).run P w = .ok (γ ρ' v) w' ∧ bO w0 ρ σ.next ρ' σ' w' ∧ sc σ'.next v = true := by
 unfold iK at hb
 split at hb
 ·rename_i e hTt
  split at hb
  ·cases hb
  ·rename_i j hTe
   split at hb
   ·cases hb
   ·rename_i hle
    have hu := (hT _ _ hTt).k
    simp only [KOk] at hu
    have hti := hT _ _ hTe
    have hzl := hti.Mw
    split at hb
    ·cases hb
    ·rename_i cs hf
     cases hb
     have hzne : j.zero ≠ [] := by
      intro e; rw [e] at hzl; simp at hzl; omega
     have hzs : scC σ.next (times j.zero len) = true := Ch (fS (Nat.zero_le _) _ hti.zsc) len
     obtain ⟨h1, h2⟩ := z5 (ρ := ρ) hzs hp hf
     obtain ⟨h3, h4⟩ := h.newRow (P := P) h2 e (some j.size) len [] (by
      intro g hg; cases hg
      have : cs.length = (times j.zero len).length := by
       clear h1 h2 hzs
       revert hf
       generalize times j.zero len = z
       clear hp
       intro hf
       induction parts generalizing z with
       | nil => simp only [qb, UB] at hf; rw [hf]
       | cons p ps ih =>
        obtain ⟨a, b⟩ := p
        simp only [qb] at hf
        split at hf
        ·rename_i hq
         rw [ih _ hf]
         obtain ⟨q1, q2, q3⟩ := hq
         simp only [spliced, UQ, List.length_take, List.length_drop]; omega
        ·cases hf
      simp [this, vC, hzl])
     rw [List.append_nil] at h3 h4
     refine ⟨_, _, ?_, h4, by simp [sc]⟩
     by_cases hz : len * j.size = 0
     ·have hl0 : len = 0 := by
       rcases Nat.mul_eq_zero.1 hz with h | h
       ·exact h
       ·exact absurd h (by omega)
      subst hl0
      have e0 : (γL ρ (times j.zero 0)).toArray = #[] := rfl
      rw [e0] at h1
      have e1 : ((Array.range (0 * j.size)).map fun i => (#[] : Array Value)[i % (#[] : Array Value).size]!) = #[] := by
       apply Array.ext'; simp
      simp only [Instr.buildSlice, UO, run_underlying hu, UN, hti.dt, if_neg (show ¬ 0 * j.size > 2 ^ 24 by omega), if_pos (Nat.zero_mul j.size), UP,
       e1, h1, h3, γ, bw, Nat.add_zero, if_true, Sem.run_ite]
     ·have hz2 : ((Array.range (len * j.size)).map fun i => (γL ρ j.zero).toArray[i % (γL ρ j.zero).toArray.size]!) = (γL ρ (times j.zero len)).toArray := by
       apply Array.ext'
       rw [← xD j.zero ρ hzne len]
       simp [hzl]
      simp only [Instr.buildSlice, UO, run_underlying hu, UN, hti.dt, if_neg (show ¬ len * j.size > 2 ^ 24 by omega), if_neg hz, UP,
       hti.zV ρ, hti.qe, hz2, h1, h3, γ, bw, Nat.add_zero, if_true, Sem.run_ite]
 ·cases hb
theorem Pf (h : Rel w0 ρ σ w) (hT : aZ P T) {t : TypeId} {k : IntKind} {n : Int} {v : ab} {σ' : Mem} (hb : CM T σ t n = some (v, σ')) :
  ∃ ρ' w', (Instr.makeSlice t (.int k n) (.int k n)).run P w = .ok (γ ρ' v) w' ∧ bO w0 ρ σ.next ρ' σ' w' ∧ sc σ'.next v = true := by
 unfold CM at hb
 split at hb
 rotate_left
 ·cases hb
 rename_i e hTt
 split at hb
 ·cases hb
 rename_i j hTe
 cases hc : Jm j n with
 | false => rw [hc] at hb; cases hb
 | true =>
  rw [hc] at hb
  cases hb
  simp only [Jm, UC, UI, Nat.ble_eq, Bool.not_eq_true'] at hc
  obtain ⟨⟨⟨c1, c2⟩, c3⟩, c4⟩ := hc
  have c5 : j.size ≠ 0 := by intro e; rw [e] at c4; cases c4
  have hu := (hT _ _ hTt).k
  simp only [KOk] at hu
  have hti := hT _ _ hTe
  have hzl := hti.Mw
  have hzne : j.zero ≠ [] := by
   intro e; rw [e] at hzl; simp at hzl; omega
  have hzs : scC σ.next (times j.zero n.toNat) = true := Ch (fS (Nat.zero_le _) _ hti.zsc) _
  obtain ⟨h3, h4⟩ := h.newRow (P := P) hzs e (some j.size) n.toNat [] (by
   intro g hg; cases hg
   simp [vC, hzl])
  rw [List.append_nil] at h3 h4
  obtain ⟨inf, q1, q2, q3, z, q4, q5⟩ := hti.info
  have hbb : (inf.bytes : Int) * n ≤ 281474976710656 := by
   rw [q3]
   have : (j.bytes : Int) ≤ 16777216 := by omega
   calc (j.bytes : Int) * n ≤ 16777216 * n := UT this c1
    _ ≤ 16777216 * 16777216 := UU c2 (by decide)
    _ = 281474976710656 := by decide
  have hr := run_make (P := P) w t e inf z hu q1 q4 k k n n c1 (Int.le_refl _) hbb (by omega)
  have hz2 : madeCells z.cells (n.toNat * inf.size) = (γL ρ (times j.zero n.toNat)).toArray := by
   rw [q5 ρ, hti.qe, q2]
   unfold madeCells
   apply Array.ext'
   rw [← xD j.zero ρ hzne n.toNat]
   simp [hzl]
  rw [hz2] at hr
  refine ⟨_, _, ?_, h4, by simp [sc]⟩
  rw [hr]
  simp only [γ, bw, Nat.add_zero, if_true]
  rfl
theorem fx (h : Rel w0 ρ σ w) {size : Nat} {x : ab} {cs : LA_} {l : Nat} (he : bN σ size x = some (cs, l)) :
  (Builtin.lenOf (γ ρ x)).run P w = .ok l w ∧ (Builtin.firstCells size l (γ ρ x)).run P w = .ok (γL ρ cs).toArray w ∧ cs.length = l * size ∧ scC σ.next cs = true := by
 unfold bN at he
 split at he
 ·cases he; exact ⟨rfl, rfl, by simp, rfl⟩
 ·cases he
  exact ⟨rfl, by simp [Builtin.firstCells, γ, loadCells, loadCellsFrom, γL], by simp, rfl⟩
 ·rename_i b o k ex c
  cases hc : cC σ b o (k * size) with
  | none => rw [hc] at he; cases he
  | some ds =>
   rw [hc] at he; cases he
   obtain ⟨h1, h2, h3⟩ := h.run_loadCells (P := P) hc
   exact ⟨rfl, h1, h2, h3⟩
 ·rename_i b
  split at he
  ·rename_i cs' n' sz own hg
   split at he
   ·rename_i hsz
    cases he
    subst hsz
    have hfl := h.sco b _ hg
    obtain ⟨g0, g1⟩ := h.ok b _ hg
    rcases g1 with ⟨rfl, rfl, g2⟩ | ⟨g1, g2, g3, _⟩
    ·refine ⟨by simp [γ, g0, Builtin.lenOf], ?_, by simp, rfl⟩
     cases hsp : (ρ b).sp with
     | none => simp [γ, hsp, Builtin.firstCells, γL]
     | some a => simp [γ, hsp, Builtin.firstCells, loadCells, loadCellsFrom, γL]
    ·have hc : cC σ b 0 (l * sz) = some cs := by
      simp only [cC, hg]
      rw [if_pos (by omega), List.drop_zero, List.take_of_length_le (by omega)]
     obtain ⟨h1, h2, h3⟩ := h.run_loadCells (P := P) hc
     refine ⟨by simp [γ, g0, Builtin.lenOf], ?_, g3, h3⟩
     simpa only [γ, g0, g2, Builtin.firstCells, Nat.add_zero] using h1
   ·cases he
  ·cases he
 ·cases he
theorem ot {size : Nat} {x : ab} {cs : LA_} {l : Nat} (h : Rel w0 ρ σ w) (he : bN σ size x = some (cs, l)) (hf : ui σ size x = true) : scC 0 cs = true := by
 unfold bN at he
 unfold ui at hf
 split at he
 ·cases he; rfl
 ·cases he; rfl
 ·rename_i b o k ex c
  cases hc : cC σ b o (k * size) with
  | none => rw [hc] at he; cases he
  | some ds =>
   rw [hc] at he; cases he
   cases hg : σ.get b with
   | none => simp only [hg, hc] at hf; exact hf
   | some B =>
    cases B with
    | vec cs' n' sz' own' =>
     have hfl : scC 0 cs' = true := h.sco _ _ hg
     simp only [cC, hg] at hc
     split at hc
     ·cases hc
      rw [fe] at hfl ⊢
      exact fun v hv => hfl v (List.mem_of_mem_drop (List.mem_of_mem_take hv))
     ·cases hc
    | _ => simp only [hg, hc] at hf; exact hf
 ·split at he
  ·rename_i hg
   split at he
   ·cases he; exact h.sco _ _ hg
   ·cases he
  ·cases he
 ·cases he
theorem Is (n : Nat) : ∀ r c, 256 ≤ c → Builtin.growBy n r c ≤ max c (2 * n)
 | 0, c, _ => by simp only [Builtin.growBy]; omega
 | r + 1, c, hc => by
  simp only [Builtin.growBy]
  split
  ·omega
  ·have := Is n r (c + (c + 768) / 4) (by omega)
   omega
theorem nextslicecap_le {n c : Nat} (h : c < n) : Builtin.nextslicecap n c ≤ 2 * n := by
 unfold Builtin.nextslicecap
 split
 ·omega
 ·split
  ·omega
  ·have := Is n 4 c (by omega); omega
theorem Fb (z : Array Value) (n : Nat) : (Builtin.zeroCells z n).size = n * z.size := by simp [Builtin.zeroCells]
theorem ov (h : Rel w0 ρ σ w) (hT : aZ P T) {t u e : TypeId} {i j k : TyI} (ht : T t = some i) (hik : i.k = .slice e) (he : T e = some j) (hu : T u = some k)
  {e' : TypeId} (hkk : k.k = .slice e') {s x : ab} {cs ds : LA_} {l m : Nat} {base : Option Addr} {cap : Nat} (hs : γ ρ s = .slice base l cap)
  (hcs : bN σ j.size s = some (cs, l)) (hds : bN σ j.size x = some (ds, m)) (hcap : cap < l + m) (h1 : j.bytes ≠ 0) (h2 : 2 * (l + m) * j.bytes ≤ 2 ^ 48) (ty : TypeId) :
  ∃ ρ' w', (Builtin.append_ #[t, u] ty #[γ ρ s, γ ρ x]).run P w = .ok (γ ρ' (.slice σ.next 0 (l + m) false 0)) w' ∧
   bO w0 ρ σ.next ρ' (σ.push (.cells (cs ++ ds) true (some j.size))) w' := by
 have hti := hT _ _ ht
 have hui := hT _ _ hu
 have hei := hT _ _ he
 have kt := hti.k; rw [hik] at kt; simp only [KOk] at kt
 have ku := hui.k; rw [hkk] at ku; simp only [KOk] at ku
 obtain ⟨a1, a2, a3, a4⟩ := fx (P := P) h hcs
 obtain ⟨b1, b2, b3, b4⟩ := fx (P := P) h hds
 obtain ⟨inf, i1, i2, i3⟩ := hei.JV w
 have hbnd : l + m ≤ 2 ^ 47 := by
  have : 2 * (l + m) * 1 ≤ 2 * (l + m) * j.bytes := Nat.mul_le_mul_left _ (by omega)
  omega
 have hnc : ¬ Builtin.nextslicecap (l + m) cap * inf.bytes > 2 ^ 48 := by
  rw [i3]
  have := Nat.mul_le_mul_right j.bytes (nextslicecap_le hcap)
  omega
 generalize hnew : Question.cut (.appendCap (l + m) cap e) (w.tape w.drawn (.appendCap (l + m) cap e)) = nc
 have hnc2 : l + m ≤ nc := by rw [← hnew]; simp only [Question.cut]; omega
 have hR1 : Rel w0 ρ σ { w with drawn := w.drawn + 1 } := h.drew _
 obtain ⟨inf2, j1, j2, j3⟩ := hei.JV { w with drawn := w.drawn + 1 }
 have a2' := (fx (P := P) hR1 hcs).2.1
 have b2' := (fx (P := P) hR1 hds).2.1
 have hz := hei.qe ρ
 obtain ⟨n1, n2⟩ := hR1.newRow (P := P) (cs := cs ++ ds) (d9.2 ⟨a4, b4⟩) e (some j.size) nc (Builtin.zeroCells (γL ρ j.zero).toArray (nc - (l + m))).toList (by
  intro g hg; cases hg
  have := Fb (γL ρ j.zero).toArray (nc - (l + m))
  simp only [List.size_toArray, aU, hei.Mw] at this
  simp only [Array.length_toList, this, UQ, a3, b3]
  rw [← Nat.add_mul, ← Nat.add_mul]
  congr 1; omega)
 refine ⟨_, _, ?_, n2⟩
 have hrow : (γL ρ cs).toArray ++ (γL ρ ds).toArray ++ Builtin.zeroCells (γL ρ j.zero).toArray (nc - (l + m)) =
   (γL ρ (cs ++ ds) ++ (Builtin.zeroCells (γL ρ j.zero).toArray (nc - (l + m))).toList).toArray := by
  apply Array.ext'; simp [cz]
 rw [hs] at a2' ⊢
 have a1' := a1
 simp only [Builtin.append_, List.getElem?_toArray, List.getElem?_cons_zero, List.getElem?_cons_succ, UO, run_underlying kt, run_underlying ku, UN, hei.dt,
  UP, Sem.run_ite, UE, if_false, b1, if_neg (show ¬ l + m ≤ cap by omega), i1,
  if_neg (show ¬ (((l + m : Nat) : Int) > IntKind.i64.max ∧ (False ∨ inf.bytes = 0)) by rw [i3]; simp [h1]), hnc]
 simp only [run_choose, Question.forced, UE, if_false, UN, hnew, run_askRoom, Bool.not_false, if_true]
 rw [j1]
 simp only [UN, a2', b2', hei.zV ρ, hz, hrow, n1, γ, bw, Nat.add_zero, Nat.sub_zero, UE, if_false]
end
end Go.Ev
