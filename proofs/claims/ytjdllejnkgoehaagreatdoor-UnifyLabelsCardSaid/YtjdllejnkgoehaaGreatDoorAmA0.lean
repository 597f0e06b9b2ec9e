/- The abstract machine: an interpreter of the model's code over abstract values and an abstract store. Definitions alone. -/
import Derived.Orders
namespace Go.AM
open Go

/- ===== numbers worked out before they are handed on ===== -/
def forceN {β : Type} (n : Nat) (k : Nat → β) : β := match n with | 0 => k 0 | m + 1 => k (m + 1)
theorem forceN_eq {β : Type} (n : Nat) (k : Nat → β) : forceN n k = k n := by cases n <;> rfl

/- ===== tries keyed by numbers ===== -/
inductive Tr (α : Type) where
  | e
  | n (v : Option α) (l r : Tr α)

def Tr.get {α : Type} : Tr α → Nat → Option α
  | .e, _ => none
  | .n v l r, k => match k with
    | 0 => v
    | k + 1 => cond (Nat.beq (k % 2) 0) (l.get (k / 2)) (r.get (k / 2))

def Tr.mkL {α : Type} (v : Option α) (l r : Tr α) : Tr α := match l with
  | .e => .n v .e r
  | .n a b c => .n v (.n a b c) r
def Tr.mkR {α : Type} (v : Option α) (l r : Tr α) : Tr α := match r with
  | .e => .n v l .e
  | .n a b c => .n v l (.n a b c)

def Tr.put {α : Type} : Nat → Tr α → Nat → Option α → Tr α
  | 0, t, _, _ => t
  | f + 1, .e, k, x => match k with
    | 0 => .n x .e .e
    | k + 1 => cond (Nat.beq (k % 2) 0) (Tr.mkL none (Tr.put f .e (k / 2) x) .e) (Tr.mkR none .e (Tr.put f .e (k / 2) x))
  | f + 1, .n v l r, k, x => match k with
    | 0 => .n x l r
    | k + 1 => cond (Nat.beq (k % 2) 0) (Tr.mkL v (Tr.put f l (k / 2) x) r) (Tr.mkR v l (Tr.put f r (k / 2) x))

/- ===== abstract values ===== -/
inductive AV where
  | any
  | bool (b : Bool)
  | int (k : IntKind) (n : Int)
  | str (l : List Nat)
  | nil (v : Value)
  | pr (a off : Nat)
  | pv (cs : List AV)
  | sr (a off sz len : Nat) (cap : Option Nat)
  | sv (cs : List AV) (sz len : Nat) (cap : Option Nat)
  | mp (r : Nat)
  | it (r : Nat)
  | stp (a : Nat)
  | yl (a : Nat)
  | fn (f : Fn) (first cap : List AV)
  | ifc (t : Nat) (v : AV)
  | agg (cs : List AV)
  | tup (vs : List AV)
  deriving Inhabited

/- the nil values -/
def isNil : Value → Bool
  | .pointer none | .slice none 0 0 | .map none | .nilFunc | .nilIface => true
  | _ => false

def bytesOf (s : ByteArray) : List Nat := s.data.toList.map UInt8.toNat
def strOf (l : List Nat) : Value := .string ⟨(l.map UInt8.ofNat).toArray⟩

def forceL {β : Type} : List Nat → (List Nat → β) → β
  | [], k => k []
  | x :: r, k => forceN x fun x => forceL r fun r => k (x :: r)

def ofV0 (v : Value) : AV :=
  match v with
  | .bool true => .bool true
  | .bool false => .bool false
  | .int k (.ofNat n) => forceN n fun n => .int k (.ofNat n)
  | .int k n => .int k n
  | .string s => forceL (bytesOf s) .str
  | v => cond (isNil v) (.nil v) .any
def ofVs : List Value → List AV
  | [] => []
  | v :: r => ofV0 v :: ofVs r
/- bools, integers, strings and nils -/
def plainV : Value → Bool
  | .bool _ | .int _ _ | .string _ => true
  | v => isNil v
def plainVs : List Value → Bool
  | [] => true
  | v :: r => plainV v && plainVs r
def ofV (v : Value) : AV :=
  match v with
  | .agg cs => cond (plainVs cs.toList) (.agg (ofVs cs.toList)) .any
  | .tuple vs => .tup (ofVs vs.toList)
  | .iface t x => .ifc t (ofV0 x)
  | .func f a b => cond (a.isEmpty && b.isEmpty) (.fn f [] []) .any
  | v => ofV0 v

/- a value of n cells -/
def AV.cellsN (v : AV) (n : Nat) : Option (List AV) :=
  match v with
  | .any => none
  | .tup _ => none
  | .agg cs => cond (Nat.beq cs.length n) (some cs) none
  | v => cond (Nat.beq n 1) (some [v]) none

/- ===== keys of maps: ints, bools, strings, and structs of them ===== -/
inductive Key where
  | bool (b : Bool)
  | int (k : IntKind) (n : Int)
  | str (l : List Nat)
  | agg (cs : List Key)

/- ===== the store ===== -/
inductive AO where
  | cells (vs : List AV)
  | map (kt : Nat) (es : List (Key × AV)) (ver : Nat)
  | iter (m : Option Nat) (ver : Nat) (left : List (Key × AV)) (cur : Option (Key × AV))
  | stamp (m ver : Nat) (k : Key)
  deriving Inhabited

structure Sto where
  objs : Tr AO
  next : Nat

def nx (σ : Sto) : Nat := match σ with | ⟨_, n⟩ => n
def Sto.get (σ : Sto) (a : Nat) : Option AO := match σ with | ⟨o, _⟩ => o.get a
def forceTr {α β : Type} (t : Tr α) (k : Tr α → β) : β := match t with | .e => k .e | .n a b c => k (.n a b c)
def Sto.set (σ : Sto) (a : Nat) (o : AO) : Sto := match σ with | ⟨t, n⟩ => forceTr (t.put (a + 1) a (some o)) fun t => ⟨t, n⟩
def Sto.kill (σ : Sto) (a : Nat) : Sto := match σ with | ⟨t, n⟩ => forceTr (t.put (a + 1) a none) fun t => ⟨t, n⟩
/- a new object, under the number (nx σ) -/
def Sto.new (σ : Sto) (o : AO) : Sto := match σ with | ⟨t, n⟩ => forceTr (t.put (n + 1) n (some o)) fun t => forceN (n + 1) fun n => ⟨t, n⟩
def Sto.cells (σ : Sto) (a : Nat) : Option (List AV) := match σ.get a with | some (.cells vs) => some vs | _ => none

/- ===== the program's tables ===== -/
structure TI where
  desc : TypeDesc
  size : Nat
  bytes : Nat
  zero : Option (List AV)
  isAgg : Bool

def isAggD : TypeDesc → Bool
  | .struct _ | .array _ _ => true
  | _ => false

/- a type's zero value, as cells; 'agg': the type has parts -/
def zeroA (agg : Bool) (z : Option Value) : Option (List AV) :=
  match z with
  | some z => match z with
    | .agg cs => match agg && plainVs cs.toList with | true => some (ofVs cs.toList) | false => none
    | v => match !agg && plainV v with | true => some [ofV0 v] | false => none
  | none => none

def tiOf (P : Program) (t : Nat) : Option TI :=
  match P.info? t, P.underlying t with
  | some i, some d => some { desc := d, size := i.size, bytes := i.bytes, zero := zeroA (isAggD d) i.zero, isAgg := isAggD d }
  | _, _ => none

abbrev Res := Option (AV × Sto)

structure Env where
  P : Program
  gl : Nat → Option (List AV)
  sum : Nat → Option (List AV → Sto → Res)
  dsum : Nat → Option (List AV → Sto → Option Sto)
  byref : Nat → Bool

/- ===== lists of cells ===== -/
def setAt : List AV → Nat → List AV → Option (List AV)
  | l, 0, [] => some l
  | _ :: r, 0, x :: xs => match setAt r 0 xs with | some l => some (x :: l) | none => none
  | y :: r, k + 1, xs => match setAt r k xs with | some l => some (y :: l) | none => none
  | _, _, _ => none

def takeN : Nat → List AV → Option (List AV)
  | 0, _ => some []
  | n + 1, x :: r => match takeN n r with | some l => some (x :: l) | none => none
  | _ + 1, [] => none

def rep (z : List AV) : Nat → List AV
  | 0 => []
  | n + 1 => z ++ rep z n

def loadFrom (ti : TI) (l : List AV) : Option AV :=
  match ti.isAgg with
  | true => match takeN ti.size l with | some cs => some (.agg cs) | none => none
  | false => match l with | v :: _ => some v | [] => none

def fillA : List AV → List (Nat × Nat × AV) → Option (List AV)
  | cs, [] => some cs
  | cs, (off, size, v) :: r => match v.cellsN size with
    | some l => match setAt cs off l with
      | some cs' => fillA cs' r
      | none => none
    | none => none

def natOf? : AV → Option Nat
  | .int _ (.ofNat n) => some n
  | _ => none

def zeroOf (ti : TI) : Option AV :=
  match ti.zero with
  | some z => match ti.isAgg with | true => some (.agg z) | false => match z with | [v] => some v | _ => none
  | none => none

/- the value has the cells of its type -/
def fits (ti : TI) (v : AV) : Bool := match v with
  | .any => false
  | .tup _ => false
  | .agg cs => ti.isAgg && Nat.beq cs.length ti.size
  | _ => !ti.isAgg

/- ===== maps ===== -/
def eqNats : List Nat → List Nat → Bool
  | [], [] => true
  | x :: r, y :: s => cond (Nat.beq x y) (eqNats r s) false
  | _, _ => false
def ltNats : List Nat → List Nat → Bool
  | _, [] => false
  | [], _ :: _ => true
  | a :: x, b :: y => cond (Nat.blt a b) true (cond (Nat.beq a b) (ltNats x y) false)
def eqInt : Int → Int → Bool
  | .ofNat a, .ofNat b => Nat.beq a b
  | .negSucc a, .negSucc b => Nat.beq a b
  | _, _ => false
def leInt : Int → Int → Bool
  | .ofNat a, .ofNat b => Nat.ble a b
  | .negSucc a, .negSucc b => Nat.ble b a
  | .negSucc _, .ofNat _ => true
  | .ofNat _, .negSucc _ => false
def eqKind (a b : IntKind) : Bool := match a, b with
  | .i64, .i64 => true
  | .u8, .u8 => true
  | a, b => decide (a = b)

mutual
def Key.eq : Key → Key → Bool
  | .bool a, .bool b => cond a b (!b)
  | .int k a, .int k' b => eqKind k k' && eqInt a b
  | .str a, .str b => eqNats a b
  | .agg a, .agg b => Key.eqs a b
  | _, _ => false
def Key.eqs : List Key → List Key → Bool
  | [], [] => true
  | x :: r, y :: s => cond (Key.eq x y) (Key.eqs r s) false
  | _, _ => false
end
mutual
def Key.lt : Key → Key → Bool
  | .bool a, .bool b => !a && b
  | .int _ a, .int _ b => !leInt b a
  | .str a, .str b => ltNats a b
  | .agg a, .agg b => Key.lts a b
  | _, _ => false
def Key.lts : List Key → List Key → Bool
  | x :: r, y :: s => cond (Key.lt x y) true (cond (Key.eq x y) (Key.lts r s) false)
  | _, _ => false
end

def key0 (d : TypeDesc) (v : AV) : Option Key :=
  match d, v with
  | .int j, .int k n => cond (eqKind j k) (some (.int k n)) none
  | .string, .str l => some (.str l)
  | .bool, .bool b => some (.bool b)
  | _, _ => none
def keyFs (P : Program) : List Field → List AV → Option (List Key)
  | [], [] => some []
  | f :: fs, v :: vs => match tiOf P f.type with
    | some ti => match key0 ti.desc v, keyFs P fs vs with
      | some k, some ks => cond (f.name != "_" && Nat.beq ti.size 1) (some (k :: ks)) none
      | _, _ => none
    | none => none
  | _, _ => none
def fieldsAt : List Field → Nat → Bool
  | [], _ => true
  | f :: fs, i => Nat.beq f.offset i && fieldsAt fs (i + 1)
def keyAgg (P : Program) (fs : List Field) (v : AV) : Option Key :=
  match v with
  | .agg cs => match keyFs P fs cs with | some l => some (.agg l) | none => none
  | _ => none
/- the key of a value, by the key's type -/
def keyOf (P : Program) (t : Nat) (v : AV) : Option Key :=
  match tiOf P t with
  | some ti => match ti.desc with
    | .struct fs => match fieldsAt fs.toList 0 && !P.stoodInHeld t with
      | true => keyAgg P fs.toList v
      | false => none
    | d => key0 d v
  | none => none

def keyAV : Key → AV
  | .bool b => .bool b
  | .int k n => .int k n
  | .str l => .str l
  | .agg cs => .agg (cs.map fun | .bool b => .bool b | .int k n => .int k n | .str l => .str l | .agg _ => .any)

def mfind (k : Key) : List (Key × AV) → Option AV
  | [] => none
  | (k', v) :: r => cond (Key.eq k k') (some v) (mfind k r)
def mset (k : Key) (v : AV) : List (Key × AV) → List (Key × AV)
  | [] => []
  | (k', v') :: r => cond (Key.eq k k') ((k', v) :: r) ((k', v') :: mset k v r)
def mins (k : Key) (v : AV) : List (Key × AV) → List (Key × AV)
  | [] => [(k, v)]
  | (k', v') :: r => cond (Key.lt k k') ((k, v) :: (k', v') :: r) ((k', v') :: mins k v r)
def mdel (k : Key) : List (Key × AV) → List (Key × AV)
  | [] => []
  | (k', v') :: r => cond (Key.eq k k') r ((k', v') :: mdel k r)
/- every element, and the others -/
def picks {α : Type} : List α → List (α × List α)
  | [] => []
  | x :: r => (x, r) :: (picks r).map fun (y, s) => (y, x :: s)

/- ===== slices ===== -/
def capOk (len : Nat) (cap : Option Nat) (n : Nat) : Bool := cond (Nat.ble n len) true (match cap with | some q => Nat.ble n q | none => false)
def capSub (cap : Option Nat) (l : Nat) : Option Nat := match cap with | some q => some (q - l) | none => none

/- bounds of x[lo:hi:max] at a slice of this length and capacity: low, high, the new capacity -/
def boundsA (len : Nat) (cap : Option Nat) (lo hi mx : Option AV) : Option (Nat × Nat × Option Nat) :=
  match (match lo with | none => some 0 | some v => natOf? v), (match hi with | none => some len | some v => natOf? v) with
  | some l, some h =>
    match mx with
    | none => cond (Nat.ble l h && capOk len cap h) (some (l, h, capSub cap l)) none
    | some mv => match natOf? mv, hi with
      | some m, some _ => cond (Nat.ble l h && Nat.ble h m && capOk len cap m) (some (l, h, some (m - l))) none
      | _, _ => none
  | _, _ => none

def byteAVs : List Nat → List AV
  | [] => []
  | b :: r => .int .u8 (.ofNat b) :: byteAVs r
def avBytes : List AV → Option (List Nat)
  | [] => some []
  | .int .u8 (.ofNat n) :: r => match avBytes r with | some l => cond (Nat.blt n 256) (some (n :: l)) none | none => none
  | _ => none

/- the first n elements of a slice, or a string, as cells -/
def srcCells (σ : Sto) (sz : Nat) (v : AV) (n : Nat) : Option (List AV) :=
  match v with
  | .sr a off _ _ _ => match σ.cells a with | some vs => takeN (n * sz) (vs.drop off) | none => none
  | .sv cs _ _ _ => takeN (n * sz) cs
  | .nil (.slice none 0 0) => match n with | 0 => some [] | _ => none
  | .str l => match sz with | 1 => takeN n (byteAVs l) | _ => none
  | _ => none
def lenA : AV → Option Nat
  | .sr _ _ _ len _ => some len
  | .sv _ _ len _ => some len
  | .nil (.slice none 0 0) => some 0
  | .str l => some l.length
  | _ => none

def sizeLim : Nat := 1099511627776

def growA (sz bytes n : Nat) (new old : List AV) (len : Nat) (σ : Sto) : Res :=
  cond (Nat.ble ((len + n) * (bytes + 1)) sizeLim) (forceN (len + n) fun m => some (.sr (nx σ) 0 sz m none, σ.new (.cells (old ++ new)))) none

/- n elements, the cells 'new', behind the slice d -/
def appendA (σ : Sto) (sz bytes : Nat) (d : AV) (n : Nat) (new : List AV) : Res :=
  match n with
  | 0 => match d with
    | .nil (.slice none 0 0) => some (d, σ)
    | .sv _ _ _ _ => some (d, σ)
    | .sr _ _ _ _ _ => some (d, σ)
    | _ => none
  | n' + 1 => match d with
    | .nil (.slice none 0 0) => growA sz bytes (n' + 1) new [] 0 σ
    | .sv cs sz' len (some q) => cond (Nat.beq sz' sz && !Nat.ble (len + (n' + 1)) q) (growA sz bytes (n' + 1) new cs len σ) none
    | .sr a off sz' len cap => cond (Nat.beq sz' sz)
        (match σ.cells a with
        | none => none
        | some vs => match takeN (len * sz) (vs.drop off) with
          | none => none
          | some old => match cap with
            | some q => match Nat.ble (len + (n' + 1)) q with
              | true => match setAt vs (off + len * sz) new with
                | some vs' => forceN (len + (n' + 1)) fun m => some (.sr a off sz m (some q), σ.set a (.cells vs'))
                | none => none
              | false => growA sz bytes (n' + 1) new old len σ
            | none => growA sz bytes (n' + 1) new old len (σ.kill a)) none
    | _ => none

/- ===== integers ===== -/
def inKind (k : IntKind) : Int → Bool
  | .ofNat n => match k with
    | .i64 => Nat.ble n 9223372036854775807
    | .u64 => Nat.ble n 18446744073709551615
    | .u8 => Nat.ble n 255
    | .i32 => Nat.ble n 2147483647
    | .u32 => Nat.ble n 4294967295
    | .i8 => Nat.ble n 127
    | .i16 => Nat.ble n 32767
    | .u16 => Nat.ble n 65535
  | .negSucc n => match k with
    | .i64 => Nat.ble n 9223372036854775807
    | .i32 => Nat.ble n 2147483647
    | .i8 => Nat.ble n 127
    | .i16 => Nat.ble n 32767
    | _ => false
def mkInt (k : IntKind) (n : Int) : AV :=
  match n with
  | .ofNat m => forceN m fun m => cond (inKind k (.ofNat m)) (.int k (.ofNat m)) (.int k (k.wrap (.ofNat m)))
  | .negSucc m => forceN m fun m => cond (inKind k (.negSucc m)) (.int k (.negSucc m)) (.int k (k.wrap (.negSucc m)))

def addInt : Int → Int → Int
  | .ofNat a, .ofNat b => .ofNat (a + b)
  | a, b => a + b
def subInt : Int → Int → Int
  | .ofNat a, .ofNat b => cond (Nat.ble b a) (.ofNat (a - b)) (.ofNat a - .ofNat b)
  | a, b => a - b

/- two integers of one kind -/
def intOp (op : BinOp) (k : IntKind) (a b : Int) : Option AV :=
  match op with
  | .add => some (mkInt k (addInt a b))
  | .sub => some (mkInt k (subInt a b))
  | .mul => some (mkInt k (a * b))
  | .eql => some (.bool (eqInt a b))
  | .neq => some (.bool (!eqInt a b))
  | .leq => some (.bool (leInt a b))
  | .lss => some (.bool (!leInt b a))
  | .gtr => some (.bool (!leInt a b))
  | .geq => some (.bool (leInt b a))
  | .quo => match a, b with
    | .ofNat a, .ofNat (b + 1) => some (mkInt k (.ofNat (a / (b + 1))))
    | _, _ => none
  | .rem => match a, b with
    | .ofNat a, .ofNat (b + 1) => forceN (a % (b + 1)) fun m => some (.int k (.ofNat m))
    | _, _ => none
  | _ => none

def strOp (op : BinOp) (a b : List Nat) : Option AV :=
  match op with
  | .eql => some (.bool (eqNats a b))
  | .neq => some (.bool (!eqNats a b))
  | .lss => some (.bool (ltNats a b))
  | .leq => some (.bool (ltNats a b || eqNats a b))
  | .gtr => some (.bool (!(ltNats a b || eqNats a b)))
  | .geq => some (.bool (!ltNats a b))
  | .add => cond (Nat.ble (a.length + b.length) sizeLim) (some (.str (a ++ b))) none
  | _ => none

/- 'is nil' of a value that is none of the nil values: it is not -/
def notNil (d : TypeDesc) (x y : AV) : Bool :=
  match y with
  | .nil (.slice none 0 0) => match d, x with | .slice _, .sr _ _ _ _ _ => true | .slice _, .sv _ _ _ _ => true | _, _ => false
  | .nil (.pointer none) => match d, x with | .pointer _, .pr _ _ => true | .pointer _, .pv _ => true | _, _ => false
  | .nil (.map none) => match d, x with | .map _ _, .mp _ => true | _, _ => false
  | .nil .nilFunc => match d, x with | .func _ _ _, .fn _ _ _ => true | _, _ => false
  | .nil .nilIface => match d, x with | .interface _, .ifc _ _ => true | _, _ => false
  | _ => false
/- both nil, the second one a constant -/
def bothNil (d : TypeDesc) (x y : AV) : Bool :=
  match d, x, y with
  | .slice _, .nil (.slice none 0 0), .nil (.slice none 0 0) => true
  | .pointer _, .nil (.pointer none), .nil (.pointer none) => true
  | .map _ _, .nil (.map none), .nil (.map none) => true
  | .func _ _ _, .nil .nilFunc, .nil .nilFunc => true
  | .interface _, .nil .nilIface, .nil .nilIface => true
  | _, _, _ => false
def eqNil (d : TypeDesc) (x y : AV) : Option Bool :=
  cond (bothNil d x y) (some true) (cond (notNil d x y || notNil d y x) (some false) none)

def isConstO : Operand → Bool
  | .const _ => true
  | _ => false

/- structs of ints, bools and strings are compared as keys -/
def eqStruct (P : Program) (t : Nat) (x y : AV) : Option Bool :=
  match x, y with
  | .agg l, .agg m => match keyOf P t (.agg l), keyOf P t (.agg m) with
    | some a, some b => some (Key.eq a b)
    | _, _ => none
  | _, _ => none

/- '==' of two values that are no numbers and no strings -/
def eqOther (P : Program) (ti : TI) (t : Nat) (cst : Bool) (x y : AV) : Option Bool :=
  match cond cst (eqNil ti.desc x y) none with
  | some b => some b
  | none => eqStruct P t x y

def binA (P : Program) (op : BinOp) (t : Nat) (cst : Bool) (x y : AV) : Option AV :=
  match tiOf P t with
  | some ti => match x, y with
    | .int k a, .int k' b => cond (eqKind k k') (intOp op k a b) none
    | .str a, .str b => strOp op a b
    | .bool a, .bool b => match op, ti.desc with
      | .eql, .bool => some (.bool (cond a b (!b)))
      | .neq, .bool => some (.bool (!cond a b (!b)))
      | _, _ => none
    | x, y => match op with
      | .eql => match eqOther P ti t cst x y with
        | some b => some (.bool b)
        | none => none
      | .neq => match eqOther P ti t cst x y with
        | some b => some (.bool (!b))
        | none => none
      | _ => none
  | none => none

def unA (op : UnOp) (x : AV) : Option AV :=
  match op, x with
  | .not, .bool b => some (.bool (!b))
  | .neg, .int k n => some (mkInt k (subInt 0 n))
  | _, _ => none

def ptrAdd (x : AV) (n : Nat) : Option AV :=
  match x with
  | .pr a off => forceN (off + n) fun o => some (.pr a o)
  | .pv cs => some (.pv (cs.drop n))
  | _ => none

/- ===== operands, of a frame's slots ===== -/
def opd (E : Env) (tm : Tr AV) : Operand → AV
  | .tmp t => match tm.get t with | some v => v | none => .any
  | .const v => ofV v
  | .global g => match E.gl g with | some cs => .pv cs | none => .any
  | .func f => .fn (.func f) [] []

def opds (E : Env) (tm : Tr AV) : List Operand → List AV
  | [] => []
  | x :: r => opd E tm x :: opds E tm r

def opdO (E : Env) (tm : Tr AV) : Option Operand → Option AV
  | none => none
  | some x => some (opd E tm x)

/- ===== the operations ===== -/

def sPick (c a b : AV) (σ : Sto) : Res := match c with
  | .bool true => some (a, σ)
  | .bool false => some (b, σ)
  | _ => none
def sNilCheck (x : AV) (σ : Sto) : Res := match x with
  | .pr a off => some (.pr a off, σ)
  | .pv cs => some (.pv cs, σ)
  | .fn (.func f) p q => some (.fn (.func f) p q, σ)
  | _ => none
def sAlloc (z : List AV) (σ : Sto) : Res := some (.pr (nx σ) 0, σ.new (.cells z))
def sBox (size : Nat) (x : AV) (σ : Sto) : Res := match x.cellsN size with
  | some cs => some (.pr (nx σ) 0, σ.new (.cells cs))
  | none => none
def placesF (P : Program) (E : Env) (tm : Tr AV) (fs : List Field) : List (Nat × Operand) → Option (List (Nat × Nat × AV))
  | [] => some []
  | (i, x) :: r => match fs[i]?, placesF P E tm fs r with
    | some f, some l => match tiOf P f.type with
      | some ti => some ((f.offset, ti.size, opd E tm x) :: l)
      | none => none
    | _, _ => none
def infosOk (P : Program) : List Field → Bool
  | [] => true
  | f :: r => match P.info? f.type with | some _ => infosOk P r | none => false
def placesE (E : Env) (tm : Tr AV) (size : Nat) : List (Nat × Operand) → List (Nat × Nat × AV)
  | [] => []
  | (i, x) :: r => (i * size, size, opd E tm x) :: placesE E tm size r

def sBuild (z : List AV) (ps : List (Nat × Nat × AV)) (σ : Sto) : Res := match fillA z ps with
  | some cs => some (.agg cs, σ)
  | none => none
def sBuildSlice (z : List AV) (size len : Nat) (byref : Bool) (ps : List (Nat × Nat × AV)) (σ : Sto) : Res := match fillA (rep z len) ps with
  | some cs => match byref with
    | true => some (.sr (nx σ) 0 size len (some len), σ.new (.cells cs))
    | false => some (.sv cs size len (some len), σ)
  | none => none
def sLoad (ti : TI) (x : AV) (σ : Sto) : Res := match x with
  | .pr a off => match σ.cells a with
    | some vs => match loadFrom ti (vs.drop off) with | some v => some (v, σ) | none => none
    | none => none
  | .pv cs => match loadFrom ti cs with | some v => some (v, σ) | none => none
  | _ => none
def undefA : AV := .tup []
def sStore (size : Nat) (x v : AV) (σ : Sto) : Res := match x, v.cellsN size with
  | .pr a off, some l => match σ.cells a with
    | some vs => match setAt vs off l with
      | some vs' => some (undefA, σ.set a (.cells vs'))
      | none => none
    | none => none
  | _, _ => none
def sBin (r : Option AV) (σ : Sto) : Res := match r with | some v => some (v, σ) | none => none

def sConvInt (k : IntKind) (x : AV) (σ : Sto) : Res := match x with
  | .int _ n => some (mkInt k n, σ)
  | _ => none
def sConvStr (x : AV) (σ : Sto) : Res := match x with
  | .str l => some (.str l, σ)
  | _ => none
def sConvToBytes (x : AV) (σ : Sto) : Res := match x with
  | .str l => match l with
    | [] => some (.sv [] 1 0 none, σ)
    | l => some (.sv (byteAVs l) 1 l.length none, σ)
  | _ => none
def noStr : AV → Bool
  | .str _ => false
  | _ => true
def sConvOfBytes (x : AV) (σ : Sto) : Res := match noStr x, lenA x with
  | true, some n => match srcCells σ 1 x n with
    | some cs => match avBytes cs with
      | some l => some (.str l, σ)
      | none => none
    | none => none
  | _, _ => none
def sMove (x : AV) (σ : Sto) : Res := some (x, σ)
def sIfc (t : Nat) (x : AV) (σ : Sto) : Res := some (.ifc t x, σ)
def sFunc (f : Fn) (a b : List AV) (σ : Sto) : Res := some (.fn f a b, σ)
def sMakeMap (kt : Nat) (σ : Sto) : Res := some (.mp (nx σ), σ.new (.map kt [] 0))
def sMakeMapN (kt : Nat) (x : AV) (σ : Sto) : Res := match x with
  | .int _ _ => some (.mp (nx σ), σ.new (.map kt [] 0))
  | _ => none
def sMakeSlice (z : List AV) (size bytes : Nat) (l c : AV) (σ : Sto) : Res := match l, c with
  | .int .i64 (.ofNat l), .int .i64 (.ofNat c) => cond (Nat.ble l c && Nat.ble (c * (bytes + 1)) sizeLim)
      (some (.sr (nx σ) 0 size l (some c), σ.new (.cells (rep z c)))) none
  | _, _ => none
def sSliceStr (x : AV) (lo hi : Option AV) (σ : Sto) : Res := match x with
  | .str l => match boundsA l.length (some l.length) lo hi none with
    | some (a, b, _) => some (.str ((l.take b).drop a), σ)
    | none => none
  | _ => none
def sSlice (size : Nat) (x : AV) (lo hi mx : Option AV) (σ : Sto) : Res := match x with
  | .sr a off sz len cap => match Nat.beq sz size with
    | true => match boundsA len cap lo hi mx with
      | some (l, h, c) => forceN (off + l * sz) fun o => forceN (h - l) fun m => some (.sr a o sz m c, σ)
      | none => none
    | false => none
  | .sv cs sz len cap => match Nat.beq sz size with
    | true => match boundsA len cap lo hi mx with
      | some (l, h, c) => match takeN ((h - l) * sz) (cs.drop (l * sz)) with
        | some cs' => forceN (h - l) fun m => some (.sv cs' sz m c, σ)
        | none => none
      | none => none
    | false => none
  | .nil (.slice none 0 0) => match boundsA 0 (some 0) lo hi mx with
    | some _ => some (.nil (.slice none 0 0), σ)
    | none => none
  | _ => none
/- an array behind a pointer, cut -/
def sSliceArr (n size : Nat) (x : AV) (lo hi mx : Option AV) (σ : Sto) : Res := match x with
  | .pr a off => match σ.cells a with
    | some vs => match Nat.ble 1 vs.length && Nat.ble (off + n * size) vs.length with
      | true => match boundsA n (some n) lo hi mx with
        | some (l, h, c) => forceN (off + l * size) fun o => forceN (h - l) fun m => some (.sr a o size m c, σ)
        | none => none
      | false => none
    | none => none
  | _ => none
def sPtr (n : Nat) (x : AV) (σ : Sto) : Res := match ptrAdd x n with | some v => some (v, σ) | none => none
def sField (ti : TI) (off : Nat) (x : AV) (σ : Sto) : Res := match x with
  | .agg cs => match loadFrom ti (cs.drop off) with | some v => some (v, σ) | none => none
  | _ => none
def sIndexAddr (size : Nat) (x i : AV) (σ : Sto) : Res := match i with
  | .int _ (.ofNat n) => match x with
    | .sr a off _ len _ => cond (Nat.blt n len) (forceN (off + n * size) fun o => some (.pr a o, σ)) none
    | .sv cs _ len _ => cond (Nat.blt n len) (some (.pv (cs.drop (n * size)), σ)) none
    | _ => none
  | _ => none
def sIndexAddrArr (len size : Nat) (x i : AV) (σ : Sto) : Res := match i with
  | .int _ (.ofNat n) => cond (Nat.blt n len) (match ptrAdd x (n * size) with | some v => some (v, σ) | none => none) none
  | _ => none
def sIndexStr (x i : AV) (σ : Sto) : Res := match x, i with
  | .str l, .int _ (.ofNat n) => match l[n]? with
    | some b => some (.int .u8 (.ofNat b), σ)
    | none => none
  | _, _ => none
def sIndexArr (te : TI) (len : Nat) (x i : AV) (σ : Sto) : Res := match x, i with
  | .agg cs, .int _ (.ofNat n) => cond (Nat.blt n len) (match loadFrom te (cs.drop (n * te.size)) with | some v => some (v, σ) | none => none) none
  | _, _ => none
def okOut (ok : Bool) (v : AV) (b : Bool) : AV := match ok with | true => .tup [v, .bool b] | false => v
def sLookup (kt : Nat) (key : Option Key) (z : AV) (ok : Bool) (m : AV) (σ : Sto) : Res := match key with
  | some kv => match m with
    | .mp r => match σ.get r with
      | some (.map kt' es _) => match Nat.beq kt' kt with
        | true => match mfind kv es with
          | some v => some (okOut ok v true, σ)
          | none => some (okOut ok z false, σ)
        | false => none
      | _ => none
    | .nil (.map none) => some (okOut ok z false, σ)
    | _ => none
  | none => none
def sMapUpdate (kt : Nat) (key : Option Key) (te : TI) (m v : AV) (σ : Sto) : Res := match key, m with
  | some kv, .mp r => match σ.get r with
    | some (.map kt' es ver) => match Nat.beq kt' kt && fits te v with
      | true => match mfind kv es with
        | some _ => forceN (ver + 1) fun w => some (undefA, σ.set r (.map kt (mset kv v es) w))
        | none => forceN (ver + 1) fun w => some (undefA, σ.set r (.map kt (mins kv v es) w))
      | false => none
    | _ => none
  | _, _ => none
def sMapEntry (kt : Nat) (key : Option Key) (z : AV) (m : AV) (σ : Sto) : Res := match key, m with
  | some kv, .mp r => match σ.get r with
    | some (.map kt' es ver) => match Nat.beq kt' kt with
      | true => forceN (ver + 1) fun w => match mfind kv es with
        | some v => some (.tup [v, .stp (nx σ)], (σ.set r (.map kt es w)).new (.stamp r w kv))
        | none => some (.tup [z, .stp (nx σ)], (σ.set r (.map kt (mins kv z es) w)).new (.stamp r w kv))
      | false => none
    | _ => none
  | _, _ => none
def sEntryStore (te : TI) (m st v : AV) (σ : Sto) : Res := match m, st with
  | .mp r, .stp a => match σ.get a, σ.get r with
    | some (.stamp r' w kv), some (.map kt es w') => match Nat.beq r r' && Nat.beq w w' && fits te v with
      | true => match mfind kv es with
        | some _ => forceN (w + 1) fun w => some (undefA, σ.set r (.map kt (mset kv v es) w))
        | none => none
      | false => none
    | _, _ => none
  | _, _ => none
def sRange (x : AV) (σ : Sto) : Res := match x with
  | .nil (.map none) => some (.it (nx σ), σ.new (.iter none 0 [] none))
  | .mp r => match σ.get r with
    | some (.map _ es ver) => some (.it (nx σ), σ.new (.iter (some r) ver es none))
    | _ => none
  | _ => none
def sEntry (x : AV) (σ : Sto) : Res := match x with
  | .it a => match σ.get a with
    | some (.iter (some r) ver _ (some (k, v))) => match σ.get r with
      | some (.map _ _ ver') => cond (Nat.beq ver ver') (some (.tup [keyAV k, v], σ)) none
      | _ => none
    | _ => none
  | _ => none
def sExtract (i : Nat) (x : AV) (σ : Sto) : Res := match x with
  | .tup vs => match vs[i]? with
    | some v => some (v, σ)
    | none => none
  | _ => none
def sAssert (t : Nat) (z : Option AV) (ok : Bool) (x : AV) (σ : Sto) : Res := match x with
  | .ifc t' v => match Nat.beq t' t with
    | true => some (okOut ok v true, σ)
    | false => match ok, z with | true, some z => some (.tup [z, .bool false], σ) | _, _ => none
  | .nil .nilIface => match ok, z with | true, some z => some (.tup [z, .bool false], σ) | _, _ => none
  | _ => none
def sLen (x : AV) (σ : Sto) : Res := match x with
  | .sr _ _ _ len _ => some (.int .i64 (.ofNat len), σ)
  | .sv _ _ len _ => some (.int .i64 (.ofNat len), σ)
  | .nil (.slice none 0 0) => some (.int .i64 0, σ)
  | _ => none
def sLenStr (x : AV) (σ : Sto) : Res := match x with
  | .str l => forceN l.length fun n => some (.int .i64 (.ofNat n), σ)
  | _ => none
def sLenMap (x : AV) (σ : Sto) : Res := match x with
  | .mp r => match σ.get r with
    | some (.map _ es _) => forceN es.length fun n => some (.int .i64 (.ofNat n), σ)
    | _ => none
  | .nil (.map none) => some (.int .i64 0, σ)
  | _ => none
def sConst (v : AV) (σ : Sto) : Res := some (v, σ)
def sCap (x : AV) (σ : Sto) : Res := match x with
  | .sr _ _ _ _ (some q) => some (.int .i64 (.ofNat q), σ)
  | .sv _ _ _ (some q) => some (.int .i64 (.ofNat q), σ)
  | .nil (.slice none 0 0) => some (.int .i64 0, σ)
  | _ => none
def sAppend (size bytes : Nat) (d s : AV) (σ : Sto) : Res := match lenA s with
  | some n => match srcCells σ size s n with
    | some new => appendA σ size bytes d n new
    | none => none
  | none => none
def sAppendZ (z : List AV) (size bytes : Nat) (d s : AV) (σ : Sto) : Res := match s with
  | .int .i64 (.ofNat n) => cond (Nat.ble (n * (bytes + 1)) sizeLim) (appendA σ size bytes d n (rep z n)) none
  | _ => none
def sClearMap (x : AV) (σ : Sto) : Res := match x with
  | .mp r => match σ.get r with
    | some (.map kt _ ver) => forceN (ver + 1) fun w => some (undefA, σ.set r (.map kt [] w))
    | _ => none
  | .nil (.map none) => some (undefA, σ)
  | _ => none
def sClear (z : List AV) (size : Nat) (x : AV) (σ : Sto) : Res := match x with
  | .sr a off sz len _ => match Nat.beq sz size, σ.cells a with
    | true, some vs => match setAt vs off (rep z len) with
      | some vs' => some (undefA, σ.set a (.cells vs'))
      | none => none
    | _, _ => none
  | .nil (.slice none 0 0) => some (undefA, σ)
  | .sv _ _ 0 _ => some (undefA, σ)
  | _ => none
def sCopy (size : Nat) (d s : AV) (σ : Sto) : Res := match lenA d, lenA s with
  | some dl, some sl => match srcCells σ size s (Nat.min sl dl) with
    | some cs => match d with
      | .sr a off sz _ _ => match Nat.beq sz size, σ.cells a with
        | true, some vs => match setAt vs off cs with
          | some vs' => forceN (Nat.min sl dl) fun n => some (.int .i64 (.ofNat n), σ.set a (.cells vs'))
          | none => none
        | _, _ => none
      | .nil (.slice none 0 0) => some (.int .i64 0, σ)
      | _ => none
    | none => none
  | _, _ => none
def sDelete (kt : Nat) (key : Option Key) (m : AV) (σ : Sto) : Res := match key, m with
  | some kv, .mp r => match σ.get r with
    | some (.map kt' es ver) => match Nat.beq kt' kt with
      | true => forceN (ver + 1) fun w => some (undefA, σ.set r (.map kt (mdel kv es) w))
      | false => none
    | _ => none
  | some _, .nil (.map none) => some (undefA, σ)
  | _, _ => none
def minInt (a b : Int) : Int := cond (leInt a b) a b
def maxInt (a b : Int) : Int := cond (leInt b a) a b
def sMin2 (f : Int → Int → Int) (x y : AV) (σ : Sto) : Res := match x, y with
  | .int k a, .int k' b => cond (eqKind k k') (some (.int k (f a b), σ)) none
  | _, _ => none
def builtinA (E : Env) (b : Builtin) (ti : TI) (ts : List Nat) (x : AV) (xs : List AV) (σ : Sto) : Res :=
  match b with
  | .len => match ti.desc with
    | .slice _ => sLen x σ
    | .string => sLenStr x σ
    | .map _ _ => sLenMap x σ
    | .array n _ => some (.int .i64 (.ofNat n), σ)
    | _ => none
  | .cap => match ti.desc with
    | .slice _ => sCap x σ
    | _ => none
  | .clear => match ti.desc with
    | .map _ _ => sClearMap x σ
    | .slice e => match tiOf E.P e with
      | some te => match te.zero with
        | some z => match Nat.beq z.length te.size with
          | true => sClear z te.size x σ
          | false => none
        | none => none
      | none => none
    | _ => none
  | .append => match ti.desc, ts, xs with
    | .slice e, t2 :: _, y :: _ => match tiOf E.P e, tiOf E.P t2 with
      | some te, some tx => match te.zero with
        | some z => match Nat.beq z.length te.size with
          | true => match tx.desc with
            | .slice _ => sAppend te.size te.bytes x y σ
            | .string => sAppend te.size te.bytes x y σ
            | .int _ => sAppendZ z te.size te.bytes x y σ
            | _ => none
          | false => none
        | none => none
      | _, _ => none
    | _, _, _ => none
  | .copy => match ti.desc, xs with
    | .slice e, y :: _ => match tiOf E.P e with
      | some te => sCopy te.size x y σ
      | none => none
    | _, _ => none
  | .delete => match ti.desc, xs with
    | .map kt _, y :: _ => sDelete kt (keyOf E.P kt y) x σ
    | _, _ => none
  | .min => match xs with
    | [y] => sMin2 minInt x y σ
    | _ => none
  | .max => match xs with
    | [y] => sMin2 maxInt x y σ
    | _ => none
  | _ => none

def stepA (E : Env) (op : Op) (tm : Tr AV) (σ : Sto) : Res :=
  match op with
  | .move x => sMove (opd E tm x) σ
  | .assign x => sMove (opd E tm x) σ
  | .pick c a b => sPick (opd E tm c) (opd E tm a) (opd E tm b) σ
  | .nilCheck x => sNilCheck (opd E tm x) σ
  | .alloc t => match tiOf E.P t with
    | some ti => match ti.zero with | some z => sAlloc z σ | none => none
    | none => none
  | .box t x => match tiOf E.P t with
    | some ti => sBox ti.size (opd E tm x) σ
    | none => none
  | .build t parts => match tiOf E.P t with
    | some ti => match ti.zero, ti.desc with
      | some z, .struct fs => match infosOk E.P fs.toList, placesF E.P E tm fs.toList parts.toList with
        | true, some ps => sBuild z ps σ
        | _, _ => none
      | some z, .array _ e => match tiOf E.P e with
        | some te => sBuild z (placesE E tm te.size parts.toList) σ
        | none => none
      | _, _ => none
    | none => none
  | .buildSlice t len parts => match tiOf E.P t with
    | some ti => match ti.desc with
      | .slice e => match tiOf E.P e with
        | some te => match te.zero with
          | some z => match Nat.ble (len * te.size) 16777216 && Nat.beq z.length te.size with
            | true => sBuildSlice z te.size len (E.byref e) (placesE E tm te.size parts.toList) σ
            | false => none
          | none => none
        | none => none
      | _ => none
    | none => none
  | .load t x => match tiOf E.P t with
    | some ti => sLoad ti (opd E tm x) σ
    | none => none
  | .store t x v => match tiOf E.P t with
    | some ti => sStore ti.size (opd E tm x) (opd E tm v) σ
    | none => none
  | .binOp op t x y _ => sBin (binA E.P op t (isConstO x || isConstO y) (opd E tm x) (opd E tm y)) σ
  | .unOp op _ x => sBin (unA op (opd E tm x)) σ
  | .convert s d x => match tiOf E.P s, tiOf E.P d with
    | some ts, some td => match td.desc with
      | .int k => sConvInt k (opd E tm x) σ
      | .string => match ts.desc with
        | .string => sConvStr (opd E tm x) σ
        | .slice e => match tiOf E.P e with
          | some te => match te.desc with
            | .int .u8 => sConvOfBytes (opd E tm x) σ
            | _ => none
          | none => none
        | _ => none
      | .slice e => match ts.desc, tiOf E.P e with
        | .string, some te => match te.desc with
          | .int .u8 => sConvToBytes (opd E tm x) σ
          | _ => none
        | _, _ => none
      | _ => none
    | _, _ => none
  | .makeInterface t x => match tiOf E.P t with
    | some ti => match ti.desc with
      | .interface _ => none
      | _ => sIfc t (opd E tm x) σ
    | none => none
  | .makeFunc f first captured => sFunc f (opds E tm first.toList) (opds E tm captured.toList) σ
  | .makeMap t r => match tiOf E.P t with
    | some ti => match ti.desc, r with
      | .map kt _, none => sMakeMap kt σ
      | .map kt _, some h => sMakeMapN kt (opd E tm h) σ
      | _, _ => none
    | none => none
  | .makeSlice t l c => match tiOf E.P t with
    | some ti => match ti.desc with
      | .slice e => match tiOf E.P e with
        | some te => match te.zero with
          | some z => match Nat.beq z.length te.size with
            | true => sMakeSlice z te.size te.bytes (opd E tm l) (opd E tm c) σ
            | false => none
          | none => none
        | none => none
      | _ => none
    | none => none
  | .slice t x lo hi mx => match tiOf E.P t with
    | some ti => match ti.desc with
      | .string => match mx with | none => sSliceStr (opd E tm x) (opdO E tm lo) (opdO E tm hi) σ | some _ => none
      | .slice e => match tiOf E.P e with
        | some te => sSlice te.size (opd E tm x) (opdO E tm lo) (opdO E tm hi) (opdO E tm mx) σ
        | none => none
      | .array n ee => match tiOf E.P ee with
        | some te => sSliceArr n te.size (opd E tm x) (opdO E tm lo) (opdO E tm hi) (opdO E tm mx) σ
        | none => none
      | _ => none
    | none => none
  | .fieldAddr t x i => match tiOf E.P t with
    | some ti => match ti.desc with
      | .struct fs => match fs.toList[i]? with
        | some f => match tiOf E.P f.type with
          | some tf => match tf.size with
            | 0 => none
            | _ + 1 => sPtr f.offset (opd E tm x) σ
          | none => none
        | none => none
      | _ => none
    | none => none
  | .field t x i => match tiOf E.P t with
    | some ti => match ti.desc with
      | .struct fs => match fs.toList[i]? with
        | some f => match tiOf E.P f.type with
          | some tf => sField tf f.offset (opd E tm x) σ
          | none => none
        | none => none
      | _ => none
    | none => none
  | .indexAddr t x i => match tiOf E.P t with
    | some ti => match ti.desc with
      | .slice e => match tiOf E.P e with
        | some te => sIndexAddr te.size (opd E tm x) (opd E tm i) σ
        | none => none
      | .array len e => match tiOf E.P e with
        | some te => sIndexAddrArr len te.size (opd E tm x) (opd E tm i) σ
        | none => none
      | _ => none
    | none => none
  | .index t x i => match tiOf E.P t with
    | some ti => match ti.desc with
      | .string => sIndexStr (opd E tm x) (opd E tm i) σ
      | .array len e => match tiOf E.P e with
        | some te => sIndexArr te len (opd E tm x) (opd E tm i) σ
        | none => none
      | _ => none
    | none => none
  | .lookup t m k ok => match tiOf E.P t with
    | some ti => match ti.desc with
      | .map kt et => match tiOf E.P et with
        | some te => match zeroOf te with
          | some z => sLookup kt (keyOf E.P kt (opd E tm k)) z ok (opd E tm m) σ
          | none => none
        | none => none
      | _ => none
    | none => none
  | .mapUpdate t m k v => match tiOf E.P t with
    | some ti => match ti.desc with
      | .map kt et => match tiOf E.P et with
        | some te => sMapUpdate kt (keyOf E.P kt (opd E tm k)) te (opd E tm m) (opd E tm v) σ
        | none => none
      | _ => none
    | none => none
  | .mapEntry t m k => match tiOf E.P t with
    | some ti => match ti.desc with
      | .map kt et => match tiOf E.P et with
        | some te => match zeroOf te with
          | some z => sMapEntry kt (keyOf E.P kt (opd E tm k)) z (opd E tm m) σ
          | none => none
        | none => none
      | _ => none
    | none => none
  | .entryStore t m st v => match tiOf E.P t with
    | some ti => match ti.desc with
      | .map _ et => match tiOf E.P et with
        | some te => sEntryStore te (opd E tm m) (opd E tm st) (opd E tm v) σ
        | none => none
      | _ => none
    | none => none
  | .range t x => match tiOf E.P t with
    | some ti => match ti.desc with
      | .map _ _ => sRange (opd E tm x) σ
      | _ => none
    | none => none
  | .entry x => sEntry (opd E tm x) σ
  | .extract x i => sExtract i (opd E tm x) σ
  | .typeAssert x _ t ok => match tiOf E.P t with
    | some ti => match ti.desc with
      | .interface _ => none
      | _ => sAssert t (zeroOf ti) ok (opd E tm x) σ
    | none => none
  | .call c => match c.callee with
    | .builtin b => match c.argTypes.toList, c.args.toList with
      | t :: ts, x :: xs => match tiOf E.P t with
        | some ti => builtinA E b ti ts (opd E tm x) (opds E tm xs) σ
        | none => none
      | _, _ => none
    | _ => none
  | _ => none

/- ===== what may be reordered ===== -/
inductive Cls where
  | pure | read | eff
  deriving DecidableEq

def clsOf (E : Env) : Op → Cls
  | .move _ | .assign _ | .pick .. | .nilCheck _ | .build .. | .fieldAddr .. | .field .. | .indexAddr .. | .index .. | .binOp .. | .unOp .. | .makeInterface .. | .makeFunc .. | .extract .. | .typeAssert .. => .pure
  | .slice t _ _ _ _ => match tiOf E.P t with
    | some ti => match ti.desc with
      | .array _ _ => .read
      | _ => .pure
    | none => .read
  | .load .. | .lookup .. | .entry _ | .convert .. => .read
  | .buildSlice t _ _ => match tiOf E.P t with
    | some ti => match ti.desc with
      | .slice e => match E.byref e with | true => .eff | false => .pure
      | _ => .eff
    | none => .eff
  | .call c => match c.callee with
    | .builtin .len => .read
    | .builtin .cap => .pure
    | .builtin .min => .pure
    | .builtin .max => .pure
    | _ => .eff
  | _ => .eff

/- the number under which a range over a function leaves its mark among the deferred calls -/
def markN : Nat := 4294967295

/- ===== states ===== -/
structure St where
  tm : Tr AV
  nt : Nat
  df : List (Nat × List AV)
  sto : Sto

inductive XE where
  | normal
  | exit (id : Nat)
  | ret

def putA (d : Option Nat) (tm : Tr AV) (nt : Nat) (v : AV) : Option (Tr AV) :=
  match d with
  | none => some tm
  | some d => cond (Nat.blt d nt) (forceTr (tm.put (d + 1) d (some v)) some) none

/- ===== equality and join ===== -/
def beqNil (a b : Value) : Bool :=
  match a, b with
  | .pointer none, .pointer none => true
  | .slice none 0 0, .slice none 0 0 => true
  | .map none, .map none => true
  | .nilFunc, .nilFunc => true
  | .nilIface, .nilIface => true
  | _, _ => false
def beqFn : Fn → Fn → Bool
  | .func a, .func b => Nat.beq a b
  | _, _ => false
def beqO (a b : Option Nat) : Bool := match a, b with | none, none => true | some x, some y => Nat.beq x y | _, _ => false

mutual
def AV.beq : AV → AV → Bool
  | .any, .any => true
  | .bool a, .bool b => cond a b (!b)
  | .int k a, .int k' b => eqKind k k' && eqInt a b
  | .str a, .str b => eqNats a b
  | .nil a, .nil b => beqNil a b
  | .pr a o, .pr b p => Nat.beq a b && Nat.beq o p
  | .pv l, .pv m => AV.beqs l m
  | .sr a o s n c, .sr b p t m d => Nat.beq a b && Nat.beq o p && Nat.beq s t && Nat.beq n m && beqO c d
  | .sv l s n c, .sv m t k d => AV.beqs l m && Nat.beq s t && Nat.beq n k && beqO c d
  | .mp a, .mp b => Nat.beq a b
  | .it a, .it b => Nat.beq a b
  | .stp a, .stp b => Nat.beq a b
  | .fn f a b, .fn h c d => beqFn f h && AV.beqs a c && AV.beqs b d
  | .ifc t a, .ifc u b => Nat.beq t u && AV.beq a b
  | .agg l, .agg m => AV.beqs l m
  | .tup l, .tup m => AV.beqs l m
  | _, _ => false
def AV.beqs : List AV → List AV → Bool
  | [], [] => true
  | x :: r, y :: s => AV.beq x y && AV.beqs r s
  | _, _ => false
end

def AV.join (a b : AV) : AV := cond (AV.beq a b) a .any

def joinCells : List AV → List AV → Option (List AV)
  | [], [] => some []
  | x :: r, y :: s => match joinCells r s with | some l => some (AV.join x y :: l) | none => none
  | _, _ => none
def joinEs : List (Key × AV) → List (Key × AV) → Option (List (Key × AV))
  | [], [] => some []
  | (k, x) :: r, (l, y) :: s => cond (Key.eq k l) (match joinEs r s with | some t => some ((k, AV.join x y) :: t) | none => none) none
  | _, _ => none
def joinO : AO → AO → Option AO
  | .cells a, .cells b => match joinCells a b with | some l => some (.cells l) | none => none
  | .map k a v, .map l b w => cond (Nat.beq v w && Nat.beq k l) (match joinEs a b with | some l => some (.map k l v) | none => none) none
  | _, _ => none
def joinTm : Tr AV → Tr AV → Tr AV
  | .n (some x) l r, .n (some y) l' r' => .n (some (AV.join x y)) (joinTm l l') (joinTm r r')
  | .n _ l r, .n _ l' r' => .n none (joinTm l l') (joinTm r r')
  | _, _ => .e
/- objects that cannot be joined are dropped -/
def joinObjs : Tr AO → Tr AO → Tr AO
  | .n (some x) l r, .n (some y) l' r' => .n (joinO x y) (joinObjs l l') (joinObjs r r')
  | .n _ l r, .n _ l' r' => .n none (joinObjs l l') (joinObjs r r')
  | _, _ => .e
def joinSto (a b : Sto) : Option Sto := cond (Nat.beq a.next b.next) (some ⟨joinObjs a.objs b.objs, a.next⟩) none
def joinSt (a b : St) : Option St :=
  match a.df, b.df with
  | [], [] => cond (Nat.beq a.nt b.nt) (match joinSto a.sto b.sto with | some σ => some ⟨joinTm a.tm b.tm, a.nt, [], σ⟩ | none => none) none
  | _, _ => none
def XE.beq : XE → XE → Bool
  | .normal, .normal => true
  | .exit a, .exit b => Nat.beq a b
  | .ret, .ret => true
  | _, _ => false
def joinAll : List (XE × St) → Option (List (XE × St))
  | [] => none
  | x :: r => match r with
    | [] => some [x]
    | y :: s => match joinAll (y :: s) with
      | some [z] => cond (XE.beq x.1 z.1) (match joinSt x.2 z.2 with | some t => some [(x.1, t)] | none => none) none
      | _ => none

/- ===== running ===== -/
/- is the operation wanted? 'none': not known -/
def guardA (ops : List Oper) (o : Oper) (tm : Tr AV) : Option Bool :=
  match o.guard with
  | none => some true
  | some (j, want) => match ops[j]? with
    | some oj => match oj.dst with
      | some d => match tm.get d with
        | some (.bool b) => some (cond b want (!want))
        | some .any => none
        | some _ => some false
        | none => none
      | none => none
    | none => none

abbrev Rec := Nat → List AV → Sto → Res

/- a function value as a function's number and the arguments -/
def calleeA (v : AV) (args : List AV) : Option (Nat × List AV) :=
  match v with
  | .fn (.func k) first cap => some (k, first ++ args ++ cap)
  | _ => none

/- one operation, a call too -/
def opA (E : Env) (op : Op) (R : Rec) (tm : Tr AV) (σ : Sto) : Res :=
  match op with
  | .call c => match c.callee with
    | .value v => match calleeA (opd E tm v) (opds E tm c.args.toList) with
      | some (k, args) => R k args σ
      | none => none
    | _ => stepA E (.call c) tm σ
  | op => stepA E op tm σ

/- one operation of a region in the text's order -/
def oneA (E : Env) (ops : List Oper) (o : Oper) (R : Rec) (s : St) : Option St :=
  match guardA ops o s.tm with
  | some true => match o.op with
    | .defer c => match c.callee, o.dst with
      | .value v, none => match calleeA (opd E s.tm v) (opds E s.tm c.args.toList) with
        | some ka => cond (Nat.beq ka.1 markN) none (some ⟨s.tm, s.nt, ka :: s.df, s.sto⟩)
        | none => none
      | _, _ => none
    | op => match opA E op R s.tm s.sto with
      | some (v, σ) => match putA o.dst s.tm s.nt v with
        | some tm => some ⟨tm, s.nt, s.df, σ⟩
        | none => none
      | none => none
  | some false => match putA o.dst s.tm s.nt undefA with
    | some tm => some ⟨tm, s.nt, s.df, s.sto⟩
    | none => none
  | none => none

def regionA (E : Env) (ops : List Oper) (R : Rec) : List Oper → St → Option St
  | [], s => some s
  | o :: r, s => match oneA E ops o R s with
    | some s' => regionA E ops R r s'
    | none => none

def optAll {α : Type} : List (Option α) → Option (List α)
  | [] => some []
  | x :: r => match x with
    | some x => match optAll r with | some l => some (x :: l) | none => none
    | none => none

/- 'next' of a map: one way for each entry that is left -/
def nextGo (E : Env) (ops : List Oper) (dst : Option Nat) (r : List Oper) (s : St) (a : Nat) (m : Option Nat) (ver : Nat) (v : AV) (left : List (Key × AV)) (cur : Option (Key × AV)) : Option St :=
  match putA dst s.tm s.nt v with
  | some tm => regionA E ops (fun _ _ _ => none) r ⟨tm, s.nt, s.df, s.sto.set a (.iter m ver left cur)⟩
  | none => none
def sameVer (σ : Sto) (m : Option Nat) (ver : Nat) : Bool :=
  match m with
  | none => true
  | some r => match σ.get r with | some (.map _ _ v) => Nat.beq v ver | _ => false
def nextA (E : Env) (ops : List Oper) (s : St) : Option (List St) :=
  match ops with
  | o :: r => match o.op, o.guard with
    | .next x false, none => match opd E s.tm x with
      | .it a => match s.sto.get a with
        | some (.iter m ver left _) => match sameVer s.sto m ver with
          | true => match left with
            | [] => match nextGo E ops o.dst r s a m ver (.tup [.bool false]) [] none with | some s' => some [s'] | none => none
            | _ :: _ => optAll ((picks left).map fun x => nextGo E ops o.dst r s a m ver (.tup [.bool true, keyAV x.1.1, x.1.2]) x.2 (some x.1))
          | false => none
        | _ => none
      | _ => none
    | _, _ => none
  | [] => none

/- ===== a region that draws its order ===== -/
structure Ann where
  cls : Cls
  lo : Nat
  hi : Nat

def isEff : Cls → Bool
  | .eff => true
  | _ => false

/- the numbers of the effects, in the order of the text -/
def effIdx (E : Env) : List Oper → Nat → List Nat
  | [], _ => []
  | o :: r, i => match isEff (clsOf E o.op) with
    | true => i :: effIdx E r (i + 1)
    | false => effIdx E r (i + 1)

def chained (b : List Nat) : List Nat → Bool
  | [] => true
  | i :: r => match r with
    | [] => true
    | j :: s => (b.getD j 0).testBit i && chained b (j :: s)

def countPre (p : Nat → Bool) : List Nat → Nat
  | [] => 0
  | i :: r => match p i with | true => countPre p r + 1 | false => 0

def annsFrom (E : Env) (b effs : List Nat) : List Oper → Nat → List Ann
  | [], _ => []
  | o :: r, i => forceN (countPre (fun e => (b.getD i 0).testBit e) effs) fun lo =>
      forceN (countPre (fun e => !(b.getD e 0).testBit i) effs) fun hi =>
      match clsOf E o.op with
      | .pure => ⟨.pure, lo, hi⟩ :: annsFrom E b effs r (i + 1)
      | .read => ⟨.read, lo, hi⟩ :: annsFrom E b effs r (i + 1)
      | .eff => ⟨.eff, lo, hi⟩ :: annsFrom E b effs r (i + 1)

/- two operations that touch one slot are ordered -/
def slotsOk (ops : Array Oper) (b : List Nat) : Bool :=
  (List.range ops.size).all fun j => (List.range j).all fun i => (b.getD j 0).testBit i || match ops[i]?, ops[j]? with
    | some x, some y => Oper.apart ops x y
    | _, _ => true
def edgesOk (ops : Array Oper) : Bool :=
  (List.range ops.size).all fun j => match ops[j]? with
    | some o => o.after.all fun e => !Region.binds .any e || decide (e.on < j)
    | none => true

def annsOf (E : Env) (ops : Array Oper) : Option (List Ann) :=
  let b := (Region.before ops).toList
  let effs := effIdx E ops.toList 0
  match slotsOk ops b && edgesOk ops && chained b effs && Region.noSelect ops with
  | true => some (annsFrom E b effs ops.toList 0)
  | false => none

/- what has happened so far in a region that draws: the state, the stores between the effects (the newest first), the log (the newest first) -/
structure DS where
  s : St
  eps : List Sto
  log : List (Tr AV × AV)

def oneDraw (E : Env) (ops : List Oper) (o : Oper) (R : Rec) (d : DS) : Option DS :=
  match guardA ops o d.s.tm with
  | some true => match opA E o.op R d.s.tm d.s.sto with
    | some (v, σ) => match putA o.dst d.s.tm d.s.nt v with
      | some tm => match isEff (clsOf E o.op) with
        | true => some ⟨⟨tm, d.s.nt, d.s.df, σ⟩, σ :: d.eps, (d.s.tm, v) :: d.log⟩
        | false => some ⟨⟨tm, d.s.nt, d.s.df, d.s.sto⟩, d.eps, (d.s.tm, v) :: d.log⟩
      | none => none
    | none => none
  | some false => match putA o.dst d.s.tm d.s.nt undefA with
    | some tm => match isEff (clsOf E o.op) with
      | true => some ⟨⟨tm, d.s.nt, d.s.df, d.s.sto⟩, d.s.sto :: d.eps, (d.s.tm, undefA) :: d.log⟩
      | false => some ⟨⟨tm, d.s.nt, d.s.df, d.s.sto⟩, d.eps, (d.s.tm, undefA) :: d.log⟩
    | none => none
  | none => none

def drawA (E : Env) (ops : List Oper) (R : Rec) : List Oper → DS → Option DS
  | [], d => some d
  | o :: r, d => match oneDraw E ops o R d with
    | some d' => drawA E ops R r d'
    | none => none

/- a read gives the same in each of these stores -/
def steady (E : Env) (ops : List Oper) (o : Oper) (tm : Tr AV) (v : AV) (l : List Sto) : Bool :=
  match guardA ops o tm with
  | some true => l.all fun σ => match stepA E o.op tm σ with
    | some (u, _) => AV.beq u v
    | none => false
  | _ => true

def steadyAll (E : Env) (ops : List Oper) (eps : List Sto) : List Ann → List Oper → List (Tr AV × AV) → Bool
  | [], [], [] => true
  | a :: r, o :: os, (tm, v) :: l => (match a.cls with
    | .read => steady E ops o tm v ((eps.drop a.lo).take (a.hi + 1 - a.lo))
    | _ => true) && steadyAll E ops eps r os l
  | _, _, _ => false

def regionDrawA (E : Env) (ops : Array Oper) (R : Rec) (s : St) : Option St :=
  match annsOf E ops with
  | none => none
  | some anns => match drawA E ops.toList R ops.toList ⟨s, [s.sto], []⟩ with
    | some d => cond (steadyAll E ops.toList d.eps.reverse anns ops.toList d.log.reverse) (some d.s) none
    | none => none

def isNext (ops : Array Oper) : Bool := match ops.toList with | o :: _ => (match o.op with | .next _ false => true | _ => false) | [] => false

abbrev Out := Option (List (XE × St))

def bindL (k : St → Out) : List (XE × St) → Out
  | [] => some []
  | (.normal, s) :: r => match k s with
    | some a => match bindL k r with
      | some b => some (a ++ b)
      | none => none
    | none => none
  | (x, s) :: r => match bindL k r with | some b => some ((x, s) :: b) | none => none

def iterL (body : St → Out) : Nat → St → Out
  | 0, _ => none
  | n + 1, s => match body s with
    | some l => bindL (iterL body n) l
    | none => none

def unExit (id : Nat) : List (XE × St) → List (XE × St)
  | [] => []
  | (.exit j, s) :: r => (cond (Nat.beq j id) .normal (.exit j), s) :: unExit id r
  | x :: r => x :: unExit id r

def codeA (E : Env) (lf : Nat) (R : Rec) : Code → St → Out
  | .skip, s => some [(.normal, s)]
  | .label _, s => some [(.normal, s)]
  | .region _ ops draw, s => match draw with
    | true => match regionDrawA E ops R s with | some s' => some [(.normal, s')] | none => none
    | false => match isNext ops with
      | true => match nextA E ops.toList s with | some l => some (l.map fun s' => (.normal, s')) | none => none
      | false => match regionA E ops.toList R ops.toList s with | some s' => some [(.normal, s')] | none => none
  | .seq a b, s => match codeA E lf R a s with
    | some l => bindL (codeA E lf R b) l
    | none => none
  | .cond c a b, s => match opd E s.tm c with
    | .bool true => codeA E lf R a s
    | .bool false => codeA E lf R b s
    | _ => none
  | .block id a, s => match codeA E lf R a s with | some l => some (unExit id l) | none => none
  | .loop a, s => match iterL (codeA E lf R a) lf s with
    | some l => joinAll l
    | none => none
  | .scope a, s => codeA E lf R a s
  | .exit id, s => some [(.exit id, s)]
  | .ret, s => some [(.ret, s)]
  | _, _ => none

def resOne (P : Program) (tm : Tr AV) (σ : Sto) : ResultVar → Option AV
  | .tmp t => tm.get t
  | .cell a t => match tiOf P t with
    | some ti => match tm.get a with
      | some (.pr b off) => match σ.cells b with
        | some vs => loadFrom ti (vs.drop off)
        | none => none
      | _ => none
    | none => none
def resA (P : Program) (tm : Tr AV) (σ : Sto) : List ResultVar → Option (List AV)
  | [] => some []
  | r :: rs => match resOne P tm σ r, resA P tm σ rs with
    | some v, some l => some (v :: l)
    | _, _ => none

def deferA (E : Env) : List (Nat × List AV) → Sto → Option Sto
  | [], σ => some σ
  | (f, args) :: r, σ => match E.dsum f with
    | some d => match d args σ with
      | some σ' => deferA E r σ'
      | none => none
    | none => none

def tupA : List AV → AV
  | [v] => v
  | vs => .tup vs

def finA (E : Env) (rs : List ResultVar) (x : XE × St) : Res :=
  match x with
  | (.exit _, _) => none
  | (_, s) => match deferA E s.df s.sto with
    | some σ => match resA E.P s.tm σ rs with
      | some vs => some (tupA vs, σ)
      | none => none
    | none => none

def joinR : List (AV × Sto) → Res
  | [] => none
  | x :: r => match r with
    | [] => some x
    | _ => match joinR r with
      | some z => match joinSto x.2 z.2 with | some σ => some (AV.join x.1 z.1, σ) | none => none
      | none => none

def startTm : List AV → Nat → Tr AV → Tr AV
  | [], _, t => t
  | x :: r, i, t => startTm r (i + 1) (t.put (i + 1) i (some x))

/- a function's body -/
def bodyA (E : Env) (lf : Nat) (R : Rec) (fn : Func) (args : List AV) (σ : Sto) : Res :=
  match fn.body with
  | some c => cond (Nat.ble args.length fn.ntmps)
      (match codeA E lf R c ⟨startTm args 0 .e, fn.ntmps, [], σ⟩ with
      | some l => match optAll (l.map (finA E fn.results.toList)) with
        | some rs => joinR rs
        | none => none
      | none => none) none
  | none => none

def callA (E : Env) (lf : Nat) : Nat → Rec
  | 0 => fun _ _ _ => none
  | n + 1 => fun f args σ => match E.sum f with
    | some s => s args σ
    | none => match E.P.funcs[f]? with
      | some fn => bodyA E lf (callA E lf n) fn args σ
      | none => none

end Go.AM
