/- A part of the proof; shortened by program. -/
import Derived.Orders
import Derived.Wp
import Derived.Laws.Sem
import Derived.Laws.Strings
import Derived.IntWalk
import Derived.Laws.StructEq
set_option maxRecDepth 100000
set_option linter.unusedSimpArgs false
set_option linter.unusedVariables false
namespace Go.AM
open Go
theorem nl {n : Nat} : n <= n := Nat.le_refl n
def Ch {β : Type} (n : Nat) (k : Nat -> β) : β := match n with | 0 => k 0 | m + 1 => k (m + 1)
theorem Au {β : Type} (n : Nat) (k : Nat -> β) : Ch n k = k n := by cases n <;> rfl
inductive Tr (α : Type) where
 | e
 | n (v : Option α) (l r : Tr α)
def Tr.get {α : Type} : Tr α -> Nat -> Option α
 | .e, _ => none
 | .n v l r, k => match k with
  | 0 => v
  | k + 1 => cond (Nat.beq (k % 2) 0) (l.get (k / 2)) (r.get (k / 2))
def Tr.mkL {α : Type} (v : Option α) (l r : Tr α) : Tr α := match l with
 | .e => .n v .e r
 | .n a b c => .n v (.n a b c) r
def Tr.mkR {α : Type} (v : Option α) (l r : Tr α) : Tr α := match r with
 | .e => .n v l .e
 | .n a b c => .n v l (.n a b c)
def Tr.put {α : Type} : Nat -> Tr α -> Nat -> Option α -> Tr α
 | 0, t, _, _ => t
 | f + 1, .e, k, x => match k with
  | 0 => .n x .e .e
  | k + 1 => cond (Nat.beq (k % 2) 0) (Tr.mkL none (Tr.put f .e (k / 2) x) .e) (Tr.mkR none .e (Tr.put f .e (k / 2) x))
 | f + 1, .n v l r, k, x => match k with
  | 0 => .n x l r
  | k + 1 => cond (Nat.beq (k % 2) 0) (Tr.mkL v (Tr.put f l (k / 2) x) r) (Tr.mkR v l (Tr.put f r (k / 2) x))
inductive AV where
 | any
 | bool (b : Bool)
 | int (k : IntKind) (n : Int)
 | str (l : List Nat)
 | nil (v : Value)
 | pr (a off : Nat)
 | pv (cs : List AV)
 | sr (a off sz len : Nat) (cap : Option Nat)
 | sv (cs : List AV) (sz len : Nat) (cap : Option Nat)
 | mp (r : Nat)
 | it (r : Nat)
 | stp (a : Nat)
 | yl (a : Nat)
 | flt (k : FloatKind) (bits : Nat)
 | fn (f : Fn) (first cap : List AV)
 | ifc (t : Nat) (v : AV)
 | agg (cs : List AV)
 | tup (vs : List AV)
 deriving Inhabited
def Ux : Value -> Bool
 | .pointer none | .slice none 0 0 | .map none | .nilFunc | .nilIface => true
 | _ => false
def Ca (s : ByteArray) : List Nat := s.data.toList.map UInt8.toNat
def Abt {β : Type} : List Nat -> (List Nat -> β) -> β
 | [], k => k []
 | x :: r, k => Ch x fun x => Abt r fun r => k (x :: r)
def Ajv (v : Value) : AV :=
 match v with
 | .bool true => .bool true
 | .bool false => .bool false
 | .int k (.ofNat n) => Ch n fun n => .int k (.ofNat n)
 | .int k n => .int k n
 | .string s => Abt (Ca s) .str
 | .float k n => Ch n fun n => .flt k n
 | v => cond (Ux v) (.nil v) .any
def Af3 : List Value -> List AV
 | [] => []
 | v :: r => Ajv v :: Af3 r
def Abu : Value -> Bool
 | .bool _ | .int _ _ | .string _ | .float _ _ => true
 | v => Ux v
def Ow : List Value -> Bool
 | [] => true
 | v :: r => Abu v && Ow r
def ofV (v : Value) : AV :=
 match v with
 | .agg cs => cond (Ow cs.toList) (.agg (Af3 cs.toList)) .any
 | .tuple vs => .tup (Af3 vs.toList)
 | .iface t x => .ifc t (Ajv x)
 | .func f a b => cond (a.isEmpty && b.isEmpty) (.fn f [] []) .any
 | v => Ajv v
def AV.cellsN (v : AV) (n : Nat) : Option (List AV) :=
 match v with
 | .any => none
 | .tup _ => none
 | .agg cs => cond (Nat.beq cs.length n) (some cs) none
 | v => cond (Nat.beq n 1) (some [v]) none
inductive Key where
 | bool (b : Bool)
 | int (k : IntKind) (n : Int)
 | str (l : List Nat)
 | agg (cs : List Key)
inductive XE where
 | normal
 | exit (id : Nat)
 | ret
inductive LS where
 | ready
 | busy
 | done (x : XE)
inductive AO where
 | cells (vs : List AV)
 | map (kt : Nat) (es : List (Key × AV)) (ver : Nat)
 | iter (m : Option Nat) (ver : Nat) (left : List (Key × AV)) (cur : Option (Key × AV))
 | stamp (m ver : Nat) (k : Key)
 | loop (st : LS)
 deriving Inhabited
structure Sto where
 objs : Tr AO
 next : Nat
def nx (σ : Sto) : Nat := match σ with | ⟨_, n⟩ => n
def Sto.get (σ : Sto) (a : Nat) : Option AO := match σ with | ⟨o, _⟩ => o.get a
def R6 {α β : Type} (t : Tr α) (k : Tr α -> β) : β := match t with | .e => k .e | .n a b c => k (.n a b c)
def Sto.set (σ : Sto) (a : Nat) (o : AO) : Sto := match σ with | ⟨t, n⟩ => R6 (t.put (a + 1) a (some o)) fun t => ⟨t, n⟩
def Sto.kill (σ : Sto) (a : Nat) : Sto := match σ with | ⟨t, n⟩ => R6 (t.put (a + 1) a none) fun t => ⟨t, n⟩
def Sto.new (σ : Sto) (o : AO) : Sto := match σ with | ⟨t, n⟩ => R6 (t.put (n + 1) n (some o)) fun t => Ch (n + 1) fun n => ⟨t, n⟩
def Sto.cells (σ : Sto) (a : Nat) : Option (List AV) := match σ.get a with | some (.cells vs) => some vs | _ => none
structure TI where
 desc : TypeDesc
 size : Nat
 bytes : Nat
 zero : Option (List AV)
 isAgg : Bool
def Qt : TypeDesc -> Bool
 | .struct _ | .array _ _ => true
 | _ => false
def Ah1 (agg : Bool) (z : Option Value) : Option (List AV) :=
 match z with
 | some z => match z with
  | .agg cs => match agg && Ow cs.toList with | true => some (Af3 cs.toList) | false => none
  | v => match !agg && Abu v with | true => some [Ajv v] | false => none
 | none => none
def Bi (P : Program) (t : Nat) : Option TI :=
 match P.info? t, P.underlying t with
 | some i, some d => some { desc := d, size := i.size, bytes := i.bytes, zero := Ah1 (Qt d) i.zero, isAgg := Qt d }
 | _, _ => none
abbrev Res := Option (AV × Sto)
structure Env where
 P : Program
 gl : Nat -> Option (List AV)
 sum : Nat -> Option (List AV -> Sto -> Res)
 dsum : Nat -> Option (List AV -> Sto -> Option Sto)
 byref : Nat -> Bool
 hold : Nat -> Option (Array Value -> Prop) := fun _ => none
def setAt : List AV -> Nat -> List AV -> Option (List AV)
 | l, 0, [] => some l
 | _ :: r, 0, x :: xs => match setAt r 0 xs with | some l => some (x :: l) | none => none
 | y :: r, k + 1, xs => match setAt r k xs with | some l => some (y :: l) | none => none
 | _, _, _ => none
def D1 : Nat -> List AV -> Option (List AV)
 | 0, _ => some []
 | n + 1, x :: r => match D1 n r with | some l => some (x :: l) | none => none
 | _ + 1, [] => none
def rep (z : List AV) : Nat -> List AV
 | 0 => []
 | n + 1 => z ++ rep z n
def Et (ti : TI) (l : List AV) : Option AV :=
 match ti.isAgg with
 | true => match D1 ti.size l with | some cs => some (.agg cs) | none => none
 | false => match l with | v :: _ => some v | [] => none
def R7 : List AV -> List (Nat × Nat × AV) -> Option (List AV)
 | cs, [] => some cs
 | cs, (off, size, v) :: r => match v.cellsN size with
  | some l => match setAt cs off l with
   | some cs' => R7 cs' r
   | none => none
  | none => none
def I3 : AV -> Option Nat
 | .int _ (.ofNat n) => some n
 | _ => none
def I4 (ti : TI) : Option AV :=
 match ti.zero with
 | some z => match ti.isAgg with | true => some (.agg z) | false => match z with | [v] => some v | _ => none
 | none => none
def Pi (ti : TI) (v : AV) : Bool := match v with
 | .any => false
 | .tup _ => false
 | .agg cs => ti.isAgg && Nat.beq cs.length ti.size
 | _ => !ti.isAgg
def Ft : List Nat -> List Nat -> Bool
 | [], [] => true
 | x :: r, y :: s => cond (Nat.beq x y) (Ft r s) false
 | _, _ => false
def Di : List Nat -> List Nat -> Bool
 | _, [] => false
 | [], _ :: _ => true
 | a :: x, b :: y => cond (Nat.blt a b) true (cond (Nat.beq a b) (Di x y) false)
def Wq : Int -> Int -> Bool
 | .ofNat a, .ofNat b => Nat.beq a b
 | .negSucc a, .negSucc b => Nat.beq a b
 | _, _ => false
def R8 : Int -> Int -> Bool
 | .ofNat a, .ofNat b => Nat.ble a b
 | .negSucc a, .negSucc b => Nat.ble b a
 | .negSucc _, .ofNat _ => true
 | .ofNat _, .negSucc _ => false
def Id (a b : IntKind) : Bool := match a, b with
 | .i64, .i64 => true
 | .u8, .u8 => true
 | a, b => decide (a = b)
mutual
def Key.eq : Key -> Key -> Bool
 | .bool a, .bool b => cond a b (!b)
 | .int k a, .int k' b => Id k k' && Wq a b
 | .str a, .str b => Ft a b
 | .agg a, .agg b => Key.eqs a b
 | _, _ => false
def Key.eqs : List Key -> List Key -> Bool
 | [], [] => true
 | x :: r, y :: s => cond (Key.eq x y) (Key.eqs r s) false
 | _, _ => false
end
mutual
def Key.lt : Key -> Key -> Bool
 | .bool a, .bool b => !a && b
 | .int _ a, .int _ b => !R8 b a
 | .str a, .str b => Di a b
 | .agg a, .agg b => Key.lts a b
 | _, _ => false
def Key.lts : List Key -> List Key -> Bool
 | x :: r, y :: s => cond (Key.lt x y) true (cond (Key.eq x y) (Key.lts r s) false)
 | _, _ => false
end
def key0 (d : TypeDesc) (v : AV) : Option Key :=
 match d, v with
 | .int j, .int k n => cond (Id j k) (some (.int k n)) none
 | .string, .str l => some (.str l)
 | .bool, .bool b => some (.bool b)
 | _, _ => none
def Ws (P : Program) : List Field -> List AV -> Option (List Key)
 | [], [] => some []
 | f :: fs, v :: vs => match Bi P f.type with
  | some ti => match key0 ti.desc v, Ws P fs vs with
   | some k, some ks => cond (f.name != "_" && Nat.beq ti.size 1) (some (k :: ks)) none
   | _, _ => none
  | none => none
 | _, _ => none
def Ix : List Field -> Nat -> Bool
 | [], _ => true
 | f :: fs, i => Nat.beq f.offset i && Ix fs (i + 1)
def Alf (P : Program) (fs : List Field) (v : AV) : Option Key :=
 match v with
 | .agg cs => match Ws P fs cs with | some l => some (.agg l) | none => none
 | _ => none
def Hb (P : Program) (t : Nat) (v : AV) : Option Key :=
 match Bi P t with
 | some ti => match ti.desc with
  | .struct fs => match Ix fs.toList 0 && !P.stoodInHeld t with
   | true => Alf P fs.toList v
   | false => none
  | d => key0 d v
 | none => none
def Qf : Key -> AV
 | .bool b => .bool b
 | .int k n => .int k n
 | .str l => .str l
 | .agg cs => .agg (cs.map fun | .bool b => .bool b | .int k n => .int k n | .str l => .str l | .agg _ => .any)
def D2 (k : Key) : List (Key × AV) -> Option AV
 | [] => none
 | (k', v) :: r => cond (Key.eq k k') (some v) (D2 k r)
def Pj (k : Key) (v : AV) : List (Key × AV) -> List (Key × AV)
 | [] => []
 | (k', v') :: r => cond (Key.eq k k') ((k', v) :: r) ((k', v') :: Pj k v r)
def Nm (k : Key) (v : AV) : List (Key × AV) -> List (Key × AV)
 | [] => [(k, v)]
 | (k', v') :: r => cond (Key.lt k k') ((k, v) :: (k', v') :: r) ((k', v') :: Nm k v r)
def Ze (k : Key) : List (Key × AV) -> List (Key × AV)
 | [] => []
 | (k', v') :: r => cond (Key.eq k k') r ((k', v') :: Ze k r)
def Fu {α : Type} : List α -> List (α × List α)
 | [] => []
 | x :: r => (x, r) :: (Fu r).map fun (y, s) => (y, x :: s)
def Ls (len : Nat) (cap : Option Nat) (n : Nat) : Bool := cond (Nat.ble n len) true (match cap with | some q => Nat.ble n q | none => false)
def Lg (cap : Option Nat) (l : Nat) : Option Nat := match cap with | some q => some (q - l) | none => none
def C6 (len : Nat) (cap : Option Nat) (lo hi mx : Option AV) : Option (Nat × Nat × Option Nat) :=
 match (match lo with | none => some 0 | some v => I3 v), (match hi with | none => some len | some v => I3 v) with
 | some l, some h =>
  match mx with
  | none => cond (Nat.ble l h && Ls len cap h) (some (l, h, Lg cap l)) none
  | some mv => match I3 mv, hi with
   | some m, some _ => cond (Nat.ble l h && Nat.ble h m && Ls len cap m) (some (l, h, some (m - l))) none
   | _, _ => none
 | _, _ => none
def Hh : List Nat -> List AV
 | [] => []
 | b :: r => .int .u8 (.ofNat b) :: Hh r
def R9 : List AV -> Option (List Nat)
 | [] => some []
 | .int .u8 (.ofNat n) :: r => match R9 r with | some l => cond (Nat.blt n 256) (some (n :: l)) none | none => none
 | _ => none
def Gl (σ : Sto) (sz : Nat) (v : AV) (n : Nat) : Option (List AV) :=
 match v with
 | .sr a off _ _ _ => match σ.cells a with | some vs => D1 (n * sz) (vs.drop off) | none => none
 | .sv cs _ _ _ => D1 (n * sz) cs
 | .nil (.slice none 0 0) => match n with | 0 => some [] | _ => none
 | .str l => match sz with | 1 => D1 n (Hh l) | _ => none
 | _ => none
def lenA : AV -> Option Nat
 | .sr _ _ _ len _ => some len
 | .sv _ _ len _ => some len
 | .nil (.slice none 0 0) => some 0
 | .str l => some l.length
 | _ => none
def sizeLim : Nat := 1099511627776
def Nn : Nat := 9223372036854775807
def Jz (sz bytes n : Nat) (new old : List AV) (len : Nat) (σ : Sto) : Res :=
 cond (Nat.ble ((len + n) * (bytes + 1)) sizeLim) (Ch (len + n) fun m => some (.sr (nx σ) 0 sz m none, σ.new (.cells (old ++ new)))) none
def Cj (σ : Sto) (sz bytes : Nat) (d : AV) (n : Nat) (new : List AV) : Res :=
 match n with
 | 0 => match d with
  | .nil (.slice none 0 0) => some (d, σ)
  | .sv _ _ _ _ => some (d, σ)
  | .sr _ _ _ _ _ => some (d, σ)
  | _ => none
 | n' + 1 => match d with
  | .nil (.slice none 0 0) => Jz sz bytes (n' + 1) new [] 0 σ
  | .sv cs sz' len (some q) => cond (Nat.beq sz' sz && !Nat.ble (len + (n' + 1)) q) (Jz sz bytes (n' + 1) new cs len σ) none
  | .sr a off sz' len cap => cond (Nat.beq sz' sz)
    (match σ.cells a with
    | none => none
    | some vs => match D1 (len * sz) (vs.drop off) with
     | none => none
     | some old => match cap with
      | some q => match Nat.ble (len + (n' + 1)) q with
       | true => match setAt vs (off + len * sz) new with
        | some vs' => Ch (len + (n' + 1)) fun m => some (.sr a off sz m (some q), σ.set a (.cells vs'))
        | none => none
       | false => Jz sz bytes (n' + 1) new old len σ
      | none => Jz sz bytes (n' + 1) new old len (σ.kill a)) none
  | _ => none
def Mb (k : IntKind) : Int -> Bool
 | .ofNat n => match k with
  | .i64 => Nat.ble n 9223372036854775807
  | .u64 => Nat.ble n 18446744073709551615
  | .u8 => Nat.ble n 255
  | .i32 => Nat.ble n 2147483647
  | .u32 => Nat.ble n 4294967295
  | .i8 => Nat.ble n 127
  | .i16 => Nat.ble n 32767
  | .u16 => Nat.ble n 65535
 | .negSucc n => match k with
  | .i64 => Nat.ble n 9223372036854775807
  | .i32 => Nat.ble n 2147483647
  | .i8 => Nat.ble n 127
  | .i16 => Nat.ble n 32767
  | _ => false
def Nd (k : IntKind) (n : Int) : AV :=
 match n with
 | .ofNat m => Ch m fun m => cond (Mb k (.ofNat m)) (.int k (.ofNat m)) (.int k (k.wrap (.ofNat m)))
 | .negSucc m => Ch m fun m => cond (Mb k (.negSucc m)) (.int k (.negSucc m)) (.int k (k.wrap (.negSucc m)))
def Af4 : Int -> Int -> Int
 | .ofNat a, .ofNat b => .ofNat (a + b)
 | a, b => a + b
def Abv : Int -> Int -> Int
 | .ofNat a, .ofNat b => cond (Nat.ble b a) (.ofNat (a - b)) (.ofNat a - .ofNat b)
 | a, b => a - b
def Hi (op : BinOp) (k : IntKind) (a b : Int) : Option AV :=
 match op with
 | .add => some (Nd k (Af4 a b))
 | .sub => some (Nd k (Abv a b))
 | .mul => some (Nd k (a * b))
 | .eql => some (.bool (Wq a b))
 | .neq => some (.bool (!Wq a b))
 | .leq => some (.bool (R8 a b))
 | .lss => some (.bool (!R8 b a))
 | .gtr => some (.bool (!R8 a b))
 | .geq => some (.bool (R8 b a))
 | .quo => match a, b with
  | .ofNat a, .ofNat (b + 1) => some (Nd k (.ofNat (a / (b + 1))))
  | _, _ => none
 | .rem => match a, b with
  | .ofNat a, .ofNat (b + 1) => Ch (a % (b + 1)) fun m => some (.int k (.ofNat m))
  | _, _ => none
 | _ => none
def Sa (op : BinOp) (a b : List Nat) : Option AV :=
 match op with
 | .eql => some (.bool (Ft a b))
 | .neq => some (.bool (!Ft a b))
 | .lss => some (.bool (Di a b))
 | .leq => some (.bool (Di a b || Ft a b))
 | .gtr => some (.bool (!(Di a b || Ft a b)))
 | .geq => some (.bool (!Di a b))
 | .add => cond (Nat.ble (a.length + b.length) Nn) (some (.str (a ++ b))) none
 | _ => none
def Qu (d : TypeDesc) (x y : AV) : Bool :=
 match y with
 | .nil (.slice none 0 0) => match d, x with | .slice _, .sr _ _ _ _ _ => true | .slice _, .sv _ _ (_ + 1) _ => true | _, _ => false
 | .nil (.pointer none) => match d, x with | .pointer _, .pr _ _ => true | .pointer _, .pv _ => true | _, _ => false
 | .nil (.map none) => match d, x with | .map _ _, .mp _ => true | _, _ => false
 | .nil .nilFunc => match d, x with | .func _ _ _, .fn _ _ _ => true | _, _ => false
 | .nil .nilIface => match d, x with | .interface _, .ifc _ _ => true | _, _ => false
 | _ => false
def V6 (d : TypeDesc) (x y : AV) : Bool :=
 match d, x, y with
 | .slice _, .nil (.slice none 0 0), .nil (.slice none 0 0) => true
 | .pointer _, .nil (.pointer none), .nil (.pointer none) => true
 | .map _ _, .nil (.map none), .nil (.map none) => true
 | .func _ _ _, .nil .nilFunc, .nil .nilFunc => true
 | .interface _, .nil .nilIface, .nil .nilIface => true
 | _, _, _ => false
def Ah2 (d : TypeDesc) (x y : AV) : Option Bool :=
 cond (V6 d x y) (some true) (cond (Qu d x y || Qu d y x) (some false) none)
def Ds : Operand -> Bool
 | .const _ => true
 | _ => false
def Sc (P : Program) (t : Nat) (x y : AV) : Option Bool :=
 match x, y with
 | .agg l, .agg m => match Hb P t (.agg l), Hb P t (.agg m) with
  | some a, some b => some (Key.eq a b)
  | _, _ => none
 | _, _ => none
def Kw (P : Program) (ti : TI) (t : Nat) (cst : Bool) (x y : AV) : Option Bool :=
 match cond cst (Ah2 ti.desc x y) none with
 | some b => some b
 | none => Sc P t x y
def Sd (o : Option Ordering) (x : Ordering) : Bool := match o, x with
 | some .lt, .lt => true
 | some .eq, .eq => true
 | some .gt, .gt => true
 | _, _ => false
def Qv (k : FloatKind) (r : Option Nat) : Option AV := match r with | some n => Ch n fun n => some (.flt k n) | none => none
def Alg (op : BinOp) (k : FloatKind) (a b : Nat) : Option AV :=
 match op with
 | .add => Qv k (k.format.add a b)
 | .sub => Qv k (k.format.sub a b)
 | .mul => Qv k (k.format.mul a b)
 | .quo => Qv k (k.format.div a b)
 | .eql => some (.bool (Sd (k.format.order a b) .eq))
 | .neq => some (.bool (!Sd (k.format.order a b) .eq))
 | .lss => some (.bool (Sd (k.format.order a b) .lt))
 | .leq => some (.bool (Sd (k.format.order a b) .lt || Sd (k.format.order a b) .eq))
 | .gtr => some (.bool (Sd (k.format.order a b) .gt))
 | .geq => some (.bool (Sd (k.format.order a b) .gt || Sd (k.format.order a b) .eq))
 | _ => none
def Zf (P : Program) (op : BinOp) (t : Nat) (cst : Bool) (x y : AV) : Option AV :=
 match Bi P t with
 | some ti => match x, y with
  | .int k a, .int k' b => cond (Id k k') (Hi op k a b) none
  | .str a, .str b => Sa op a b
  | .flt k a, .flt k' b => match decide (k = k') with | true => Alg op k a b | false => none
  | .bool a, .bool b => match op, ti.desc with
   | .eql, .bool => some (.bool (cond a b (!b)))
   | .neq, .bool => some (.bool (!cond a b (!b)))
   | _, _ => none
  | x, y => match op with
   | .eql => match Kw P ti t cst x y with
    | some b => some (.bool b)
    | none => none
   | .neq => match Kw P ti t cst x y with
    | some b => some (.bool (!b))
    | none => none
   | _ => none
 | none => none
def unA (op : UnOp) (x : AV) : Option AV :=
 match op, x with
 | .not, .bool b => some (.bool (!b))
 | .neg, .int k n => some (Nd k (Abv 0 n))
 | _, _ => none
def Qw (x : AV) (n : Nat) : Option AV :=
 match x with
 | .pr a off => Ch (off + n) fun o => some (.pr a o)
 | .pv cs => some (.pv (cs.drop n))
 | _ => none
def opd (E : Env) (tm : Tr AV) : Operand -> AV
 | .tmp t => match tm.get t with | some v => v | none => .any
 | .const v => ofV v
 | .global g => match E.gl g with | some cs => .pv cs | none => .any
 | .func f => .fn (.func f) [] []
def opds (E : Env) (tm : Tr AV) : List Operand -> List AV
 | [] => []
 | x :: r => opd E tm x :: opds E tm r
def opdO (E : Env) (tm : Tr AV) : Option Operand -> Option AV
 | none => none
 | some x => some (opd E tm x)
def Z3 (c a b : AV) (σ : Sto) : Res := match c with
 | .bool true => some (a, σ)
 | .bool false => some (b, σ)
 | _ => none
def Jr (x : AV) (σ : Sto) : Res := match x with
 | .pr a off => some (.pr a off, σ)
 | .pv cs => some (.pv cs, σ)
 | .fn (.func f) p q => some (.fn (.func f) p q, σ)
 | _ => none
def Wt (z : List AV) (σ : Sto) : Res := some (.pr (nx σ) 0, σ.new (.cells z))
def sBox (size : Nat) (x : AV) (σ : Sto) : Res := match x.cellsN size with
 | some cs => some (.pr (nx σ) 0, σ.new (.cells cs))
 | none => none
def Iq (P : Program) (E : Env) (tm : Tr AV) (fs : List Field) : List (Nat × Operand) -> Option (List (Nat × Nat × AV))
 | [] => some []
 | (i, x) :: r => match fs[i]?, Iq P E tm fs r with
  | some f, some l => match Bi P f.type with
   | some ti => some ((f.offset, ti.size, opd E tm x) :: l)
   | none => none
  | _, _ => none
def Ox (P : Program) : List Field -> Bool
 | [] => true
 | f :: r => match P.info? f.type with | some _ => Ox P r | none => false
def Hj (E : Env) (tm : Tr AV) (size : Nat) : List (Nat × Operand) -> List (Nat × Nat × AV)
 | [] => []
 | (i, x) :: r => (i * size, size, opd E tm x) :: Hj E tm size r
def Lh (z : List AV) (ps : List (Nat × Nat × AV)) (σ : Sto) : Res := match R7 z ps with
 | some cs => some (.agg cs, σ)
 | none => none
def Hc (z : List AV) (size len : Nat) (byref : Bool) (ps : List (Nat × Nat × AV)) (σ : Sto) : Res := match R7 (rep z len) ps with
 | some cs => match byref with
  | true => some (.sr (nx σ) 0 size len (some len), σ.new (.cells cs))
  | false => some (.sv cs size len (some len), σ)
 | none => none
def Lt (ti : TI) (x : AV) (σ : Sto) : Res := match x with
 | .pr a off => match σ.cells a with
  | some vs => match Et ti (vs.drop off) with | some v => some (v, σ) | none => none
  | none => none
 | .pv cs => match Et ti cs with | some v => some (v, σ) | none => none
 | _ => none
def Bd : AV := .tup []
def Abw (size : Nat) (x v : AV) (σ : Sto) : Res := match x, v.cellsN size with
 | .pr a off, some l => match σ.cells a with
  | some vs => match setAt vs off l with
   | some vs' => some (Bd, σ.set a (.cells vs'))
   | none => none
  | none => none
 | _, _ => none
def Vq (r : Option AV) (σ : Sto) : Res := match r with | some v => some (v, σ) | none => none
def Se (k : IntKind) (x : AV) (σ : Sto) : Res := match x with
 | .int _ n => some (Nd k n, σ)
 | _ => none
def Sf (k : FloatKind) (x : AV) (σ : Sto) : Res := match x with
 | .int _ n => Ch (k.nearest n) fun m => some (.flt k m, σ)
 | _ => none
def Sg (x : AV) (σ : Sto) : Res := match x with
 | .str l => some (.str l, σ)
 | _ => none
def Ji (x : AV) (σ : Sto) : Res := match x with
 | .str l => match l with
  | [] => some (.sv [] 1 0 none, σ)
  | l => some (.sv (Hh l) 1 l.length none, σ)
 | _ => none
def Wu : AV -> Bool
 | .str _ => false
 | _ => true
def Jj (x : AV) (σ : Sto) : Res := match Wu x, lenA x with
 | true, some n => match Gl σ 1 x n with
  | some cs => match R9 cs with
   | some l => some (.str l, σ)
   | none => none
  | none => none
 | _, _ => none
def Wv (x : AV) (σ : Sto) : Res := some (x, σ)
def sIfc (t : Nat) (x : AV) (σ : Sto) : Res := some (.ifc t x, σ)
def Ah3 (f : Fn) (a b : List AV) (σ : Sto) : Res := some (.fn f a b, σ)
def Sh (kt : Nat) (σ : Sto) : Res := some (.mp (nx σ), σ.new (.map kt [] 0))
def T5 (kt : Nat) (x : AV) (σ : Sto) : Res := match x with
 | .int _ _ => some (.mp (nx σ), σ.new (.map kt [] 0))
 | _ => none
def Qx (z : List AV) (size bytes : Nat) (l c : AV) (σ : Sto) : Res := match l, c with
 | .int .i64 (.ofNat l), .int .i64 (.ofNat c) => cond (Nat.ble l c && Nat.ble (c * (bytes + 1)) sizeLim)
   (some (.sr (nx σ) 0 size l (some c), σ.new (.cells (rep z c)))) none
 | _, _ => none
def Js (x : AV) (lo hi : Option AV) (σ : Sto) : Res := match x with
 | .str l => match C6 l.length (some l.length) lo hi none with
  | some (a, b, _) => some (.str ((l.take b).drop a), σ)
  | none => none
 | _ => none
def Mc (size : Nat) (x : AV) (lo hi mx : Option AV) (σ : Sto) : Res := match x with
 | .sr a off sz len cap => match Nat.beq sz size with
  | true => match C6 len cap lo hi mx with
   | some (l, h, c) => Ch (off + l * sz) fun o => Ch (h - l) fun m => some (.sr a o sz m c, σ)
   | none => none
  | false => none
 | .sv cs sz len cap => match Nat.beq sz size with
  | true => match C6 len cap lo hi mx with
   | some (l, h, c) => match D1 ((h - l) * sz) (cs.drop (l * sz)) with
    | some cs' => Ch (h - l) fun m => some (.sv cs' sz m c, σ)
    | none => none
   | none => none
  | false => none
 | .nil (.slice none 0 0) => match C6 0 (some 0) lo hi mx with
  | some _ => some (.nil (.slice none 0 0), σ)
  | none => none
 | _ => none
def Oy (n size : Nat) (x : AV) (lo hi mx : Option AV) (σ : Sto) : Res := match x with
 | .pr a off => match σ.cells a with
  | some vs => match Nat.ble 1 vs.length && Nat.ble (off + n * size) vs.length with
   | true => match C6 n (some n) lo hi mx with
    | some (l, h, c) => Ch (off + l * size) fun o => Ch (h - l) fun m => some (.sr a o size m c, σ)
    | none => none
   | false => none
  | none => none
 | _ => none
def Alh (n : Nat) (x : AV) (σ : Sto) : Res := match Qw x n with | some v => some (v, σ) | none => none
def Ww (ti : TI) (off : Nat) (x : AV) (σ : Sto) : Res := match x with
 | .agg cs => match Et ti (cs.drop off) with | some v => some (v, σ) | none => none
 | _ => none
def G0 (size : Nat) (x i : AV) (σ : Sto) : Res := match i with
 | .int _ (.ofNat n) => match x with
  | .sr a off _ len _ => cond (Nat.blt n len) (Ch (off + n * size) fun o => some (.pr a o, σ)) none
  | .sv cs _ len _ => cond (Nat.blt n len) (some (.pv (cs.drop (n * size)), σ)) none
  | _ => none
 | _ => none
def Fi (len size : Nat) (x i : AV) (σ : Sto) : Res := match i with
 | .int _ (.ofNat n) => cond (Nat.blt n len) (match Qw x (n * size) with | some v => some (v, σ) | none => none) none
 | _ => none
def Jt (x i : AV) (σ : Sto) : Res := match x, i with
 | .str l, .int _ (.ofNat n) => match l[n]? with
  | some b => some (.int .u8 (.ofNat b), σ)
  | none => none
 | _, _ => none
def Ju (te : TI) (len : Nat) (x i : AV) (σ : Sto) : Res := match x, i with
 | .agg cs, .int _ (.ofNat n) => cond (Nat.blt n len) (match Et te (cs.drop (n * te.size)) with | some v => some (v, σ) | none => none) none
 | _, _ => none
def Si (ok : Bool) (v : AV) (b : Bool) : AV := match ok with | true => .tup [v, .bool b] | false => v
def Jk (kt : Nat) (key : Option Key) (z : AV) (ok : Bool) (m : AV) (σ : Sto) : Res := match key with
 | some kv => match m with
  | .mp r => match σ.get r with
   | some (.map kt' es _) => match Nat.beq kt' kt with
    | true => match D2 kv es with
     | some v => some (Si ok v true, σ)
     | none => some (Si ok z false, σ)
    | false => none
   | _ => none
  | .nil (.map none) => some (Si ok z false, σ)
  | _ => none
 | none => none
def Md (kt : Nat) (key : Option Key) (te : TI) (m v : AV) (σ : Sto) : Res := match key, m with
 | some kv, .mp r => match σ.get r with
  | some (.map kt' es ver) => match Nat.beq kt' kt && Pi te v with
   | true => match D2 kv es with
    | some _ => Ch (ver + 1) fun w => some (Bd, σ.set r (.map kt (Pj kv v es) w))
    | none => Ch (ver + 1) fun w => some (Bd, σ.set r (.map kt (Nm kv v es) w))
   | false => none
  | _ => none
 | _, _ => none
def Oz (kt : Nat) (key : Option Key) (z : AV) (m : AV) (σ : Sto) : Res := match key, m with
 | some kv, .mp r => match σ.get r with
  | some (.map kt' es ver) => match Nat.beq kt' kt with
   | true => Ch (ver + 1) fun w => match D2 kv es with
    | some v => some (.tup [v, .stp (nx σ)], (σ.set r (.map kt es w)).new (.stamp r w kv))
    | none => some (.tup [z, .stp (nx σ)], (σ.set r (.map kt (Nm kv z es) w)).new (.stamp r w kv))
   | false => none
  | _ => none
 | _, _ => none
def Kx (te : TI) (m st v : AV) (σ : Sto) : Res := match m, st with
 | .mp r, .stp a => match σ.get a, σ.get r with
  | some (.stamp r' w kv), some (.map kt es w') => match Nat.beq r r' && Nat.beq w w' && Pi te v with
   | true => match D2 kv es with
    | some _ => Ch (w + 1) fun w => some (Bd, σ.set r (.map kt (Pj kv v es) w))
    | none => none
   | false => none
  | _, _ => none
 | _, _ => none
def Abx (x : AV) (σ : Sto) : Res := match x with
 | .nil (.map none) => some (.it (nx σ), σ.new (.iter none 0 [] none))
 | .mp r => match σ.get r with
  | some (.map _ es ver) => some (.it (nx σ), σ.new (.iter (some r) ver es none))
  | _ => none
 | _ => none
def Wx (x : AV) (σ : Sto) : Res := match x with
 | .it a => match σ.get a with
  | some (.iter (some r) ver _ (some (k, v))) => match σ.get r with
   | some (.map _ _ ver') => cond (Nat.beq ver ver') (some (.tup [Qf k, v], σ)) none
   | _ => none
  | _ => none
 | _ => none
def Lu (i : Nat) (x : AV) (σ : Sto) : Res := match x with
 | .tup vs => match vs[i]? with
  | some v => some (v, σ)
  | none => none
 | _ => none
def Sj (t : Nat) (z : Option AV) (ok : Bool) (x : AV) (σ : Sto) : Res := match x with
 | .ifc t' v => match Nat.beq t' t with
  | true => some (Si ok v true, σ)
  | false => match ok, z with | true, some z => some (.tup [z, .bool false], σ) | _, _ => none
 | .nil .nilIface => match ok, z with | true, some z => some (.tup [z, .bool false], σ) | _, _ => none
 | _ => none
def sLen (x : AV) (σ : Sto) : Res := match x with
 | .sr _ _ _ len _ => some (.int .i64 (.ofNat len), σ)
 | .sv _ _ len _ => some (.int .i64 (.ofNat len), σ)
 | .nil (.slice none 0 0) => some (.int .i64 0, σ)
 | _ => none
def V7 (x : AV) (σ : Sto) : Res := match x with
 | .str l => Ch l.length fun n => some (.int .i64 (.ofNat n), σ)
 | _ => none
def Sk (x : AV) (σ : Sto) : Res := match x with
 | .mp r => match σ.get r with
  | some (.map _ es _) => Ch es.length fun n => some (.int .i64 (.ofNat n), σ)
  | _ => none
 | .nil (.map none) => some (.int .i64 0, σ)
 | _ => none
def I5 (x : AV) (σ : Sto) : Res := match x with
 | .sr _ _ _ _ (some q) => some (.int .i64 (.ofNat q), σ)
 | .sv _ _ _ (some q) => some (.int .i64 (.ofNat q), σ)
 | .nil (.slice none 0 0) => some (.int .i64 0, σ)
 | _ => none
def Sl (size bytes : Nat) (d s : AV) (σ : Sto) : Res := match lenA s with
 | some n => match Gl σ size s n with
  | some new => Cj σ size bytes d n new
  | none => none
 | none => none
def Sm (z : List AV) (size bytes : Nat) (d s : AV) (σ : Sto) : Res := match s with
 | .int .i64 (.ofNat n) => cond (Nat.ble (n * (bytes + 1)) sizeLim) (Cj σ size bytes d n (rep z n)) none
 | _ => none
def O0 (x : AV) (σ : Sto) : Res := match x with
 | .mp r => match σ.get r with
  | some (.map kt _ ver) => Ch (ver + 1) fun w => some (Bd, σ.set r (.map kt [] w))
  | _ => none
 | .nil (.map none) => some (Bd, σ)
 | _ => none
def Aby (z : List AV) (size : Nat) (x : AV) (σ : Sto) : Res := match x with
 | .sr a off sz len _ => match Nat.beq sz size, σ.cells a with
  | true, some vs => match setAt vs off (rep z len) with
   | some vs' => some (Bd, σ.set a (.cells vs'))
   | none => none
  | _, _ => none
 | .nil (.slice none 0 0) => some (Bd, σ)
 | .sv _ _ 0 _ => some (Bd, σ)
 | _ => none
def Ali (size : Nat) (d s : AV) (σ : Sto) : Res := match lenA d, lenA s with
 | some dl, some sl => match Gl σ size s (Nat.min sl dl) with
  | some cs => match d with
   | .sr a off sz _ _ => match Nat.beq sz size, σ.cells a with
    | true, some vs => match setAt vs off cs with
     | some vs' => Ch (Nat.min sl dl) fun n => some (.int .i64 (.ofNat n), σ.set a (.cells vs'))
     | none => none
    | _, _ => none
   | .nil (.slice none 0 0) => some (.int .i64 0, σ)
   | _ => none
  | none => none
 | _, _ => none
def Abz (kt : Nat) (key : Option Key) (m : AV) (σ : Sto) : Res := match key, m with
 | some kv, .mp r => match σ.get r with
  | some (.map kt' es ver) => match Nat.beq kt' kt with
   | true => Ch (ver + 1) fun w => some (Bd, σ.set r (.map kt (Ze kv es) w))
   | false => none
  | _ => none
 | some _, .nil (.map none) => some (Bd, σ)
 | _, _ => none
def Af5 (a b : Int) : Int := cond (R8 a b) a b
def Wy (a b : Int) : Int := cond (R8 b a) a b
def Wz (f : Int -> Int -> Int) (x y : AV) (σ : Sto) : Res := match x, y with
 | .int k a, .int k' b => cond (Id k k') (some (.int k (f a b), σ)) none
 | _, _ => none
def Eb (E : Env) (b : Builtin) (ti : TI) (ts : List Nat) (x : AV) (xs : List AV) (σ : Sto) : Res :=
 match b with
 | .len => match ti.desc with
  | .slice _ => sLen x σ
  | .string => V7 x σ
  | .map _ _ => Sk x σ
  | .array n _ => some (.int .i64 (.ofNat n), σ)
  | _ => none
 | .cap => match ti.desc with
  | .slice _ => I5 x σ
  | _ => none
 | .clear => match ti.desc with
  | .map _ _ => O0 x σ
  | .slice e => match Bi E.P e with
   | some te => match te.zero with
    | some z => match Nat.beq z.length te.size with
     | true => Aby z te.size x σ
     | false => none
    | none => none
   | none => none
  | _ => none
 | .append => match ti.desc, ts, xs with
  | .slice e, t2 :: _, y :: _ => match Bi E.P e, Bi E.P t2 with
   | some te, some tx => match te.zero with
    | some z => match Nat.beq z.length te.size with
     | true => match tx.desc with
      | .slice _ => Sl te.size te.bytes x y σ
      | .string => Sl te.size te.bytes x y σ
      | .int _ => Sm z te.size te.bytes x y σ
      | _ => none
     | false => none
    | none => none
   | _, _ => none
  | _, _, _ => none
 | .copy => match ti.desc, xs with
  | .slice e, y :: _ => match Bi E.P e with
   | some te => Ali te.size x y σ
   | none => none
  | _, _ => none
 | .delete => match ti.desc, xs with
  | .map kt _, y :: _ => Abz kt (Hb E.P kt y) x σ
  | _, _ => none
 | .min => match xs with
  | [y] => Wz Af5 x y σ
  | _ => none
 | .max => match xs with
  | [y] => Wz Wy x y σ
  | _ => none
 | _ => none
def Bm (E : Env) (op : Op) (tm : Tr AV) (σ : Sto) : Res :=
 match op with
 | .move x => Wv (opd E tm x) σ
 | .assign x => Wv (opd E tm x) σ
 | .pick c a b => Z3 (opd E tm c) (opd E tm a) (opd E tm b) σ
 | .nilCheck x => Jr (opd E tm x) σ
 | .alloc t => match Bi E.P t with
  | some ti => match ti.zero with | some z => Wt z σ | none => none
  | none => none
 | .box t x => match Bi E.P t with
  | some ti => sBox ti.size (opd E tm x) σ
  | none => none
 | .build t parts => match Bi E.P t with
  | some ti => match ti.zero, ti.desc with
   | some z, .struct fs => match Ox E.P fs.toList, Iq E.P E tm fs.toList parts.toList with
    | true, some ps => Lh z ps σ
    | _, _ => none
   | some z, .array _ e => match Bi E.P e with
    | some te => Lh z (Hj E tm te.size parts.toList) σ
    | none => none
   | _, _ => none
  | none => none
 | .buildSlice t len parts => match Bi E.P t with
  | some ti => match ti.desc with
   | .slice e => match Bi E.P e with
    | some te => match te.zero with
     | some z => match Nat.ble (len * te.size) 16777216 && Nat.beq z.length te.size with
      | true => Hc z te.size len (E.byref e) (Hj E tm te.size parts.toList) σ
      | false => none
     | none => none
    | none => none
   | _ => none
  | none => none
 | .load t x => match Bi E.P t with
  | some ti => Lt ti (opd E tm x) σ
  | none => none
 | .store t x v => match Bi E.P t with
  | some ti => Abw ti.size (opd E tm x) (opd E tm v) σ
  | none => none
 | .binOp op t x y _ => Vq (Zf E.P op t (Ds x || Ds y) (opd E tm x) (opd E tm y)) σ
 | .unOp op _ x => Vq (unA op (opd E tm x)) σ
 | .convert s d x => match Bi E.P s, Bi E.P d with
  | some ts, some td => match td.desc with
   | .int k => Se k (opd E tm x) σ
   | .float k => Sf k (opd E tm x) σ
   | .string => match ts.desc with
    | .string => Sg (opd E tm x) σ
    | .slice e => match Bi E.P e with
     | some te => match te.desc with
      | .int .u8 => Jj (opd E tm x) σ
      | _ => none
     | none => none
    | _ => none
   | .slice e => match ts.desc, Bi E.P e with
    | .string, some te => match te.desc with
     | .int .u8 => Ji (opd E tm x) σ
     | _ => none
    | _, _ => none
   | _ => none
  | _, _ => none
 | .makeInterface t x => match Bi E.P t with
  | some ti => match ti.desc with
   | .interface _ => none
   | _ => sIfc t (opd E tm x) σ
  | none => none
 | .makeFunc f first captured => Ah3 f (opds E tm first.toList) (opds E tm captured.toList) σ
 | .makeMap t r => match Bi E.P t with
  | some ti => match ti.desc, r with
   | .map kt _, none => Sh kt σ
   | .map kt _, some h => T5 kt (opd E tm h) σ
   | _, _ => none
  | none => none
 | .makeSlice t l c => match Bi E.P t with
  | some ti => match ti.desc with
   | .slice e => match Bi E.P e with
    | some te => match te.zero with
     | some z => match Nat.beq z.length te.size with
      | true => Qx z te.size te.bytes (opd E tm l) (opd E tm c) σ
      | false => none
     | none => none
    | none => none
   | _ => none
  | none => none
 | .slice t x lo hi mx => match Bi E.P t with
  | some ti => match ti.desc with
   | .string => match mx with | none => Js (opd E tm x) (opdO E tm lo) (opdO E tm hi) σ | some _ => none
   | .slice e => match Bi E.P e with
    | some te => Mc te.size (opd E tm x) (opdO E tm lo) (opdO E tm hi) (opdO E tm mx) σ
    | none => none
   | .array n ee => match Bi E.P ee with
    | some te => Oy n te.size (opd E tm x) (opdO E tm lo) (opdO E tm hi) (opdO E tm mx) σ
    | none => none
   | _ => none
  | none => none
 | .fieldAddr t x i => match Bi E.P t with
  | some ti => match ti.desc with
   | .struct fs => match fs.toList[i]? with
    | some f => match Bi E.P f.type with
     | some tf => match tf.size with
      | 0 => none
      | _ + 1 => Alh f.offset (opd E tm x) σ
     | none => none
    | none => none
   | _ => none
  | none => none
 | .field t x i => match Bi E.P t with
  | some ti => match ti.desc with
   | .struct fs => match fs.toList[i]? with
    | some f => match Bi E.P f.type with
     | some tf => Ww tf f.offset (opd E tm x) σ
     | none => none
    | none => none
   | _ => none
  | none => none
 | .indexAddr t x i => match Bi E.P t with
  | some ti => match ti.desc with
   | .slice e => match Bi E.P e with
    | some te => G0 te.size (opd E tm x) (opd E tm i) σ
    | none => none
   | .array len e => match Bi E.P e with
    | some te => Fi len te.size (opd E tm x) (opd E tm i) σ
    | none => none
   | _ => none
  | none => none
 | .index t x i => match Bi E.P t with
  | some ti => match ti.desc with
   | .string => Jt (opd E tm x) (opd E tm i) σ
   | .array len e => match Bi E.P e with
    | some te => Ju te len (opd E tm x) (opd E tm i) σ
    | none => none
   | _ => none
  | none => none
 | .lookup t m k ok => match Bi E.P t with
  | some ti => match ti.desc with
   | .map kt et => match Bi E.P et with
    | some te => match I4 te with
     | some z => Jk kt (Hb E.P kt (opd E tm k)) z ok (opd E tm m) σ
     | none => none
    | none => none
   | _ => none
  | none => none
 | .mapUpdate t m k v => match Bi E.P t with
  | some ti => match ti.desc with
   | .map kt et => match Bi E.P et with
    | some te => Md kt (Hb E.P kt (opd E tm k)) te (opd E tm m) (opd E tm v) σ
    | none => none
   | _ => none
  | none => none
 | .mapEntry t m k => match Bi E.P t with
  | some ti => match ti.desc with
   | .map kt et => match Bi E.P et with
    | some te => match I4 te with
     | some z => Oz kt (Hb E.P kt (opd E tm k)) z (opd E tm m) σ
     | none => none
    | none => none
   | _ => none
  | none => none
 | .entryStore t m st v => match Bi E.P t with
  | some ti => match ti.desc with
   | .map _ et => match Bi E.P et with
    | some te => Kx te (opd E tm m) (opd E tm st) (opd E tm v) σ
    | none => none
   | _ => none
  | none => none
 | .range t x => match Bi E.P t with
  | some ti => match ti.desc with
   | .map _ _ => Abx (opd E tm x) σ
   | _ => none
  | none => none
 | .entry x => Wx (opd E tm x) σ
 | .extract x i => Lu i (opd E tm x) σ
 | .typeAssert x _ t ok => match Bi E.P t with
  | some ti => match ti.desc with
   | .interface _ => none
   | _ => Sj t (I4 ti) ok (opd E tm x) σ
  | none => none
 | .call c => match c.callee with
  | .builtin b => match c.argTypes.toList, c.args.toList with
   | t :: ts, x :: xs => match Bi E.P t with
    | some ti => Eb E b ti ts (opd E tm x) (opds E tm xs) σ
    | none => none
   | _, _ => none
  | _ => none
 | _ => none
inductive Cls where
 | pure | read | eff
 deriving DecidableEq
def B9 (E : Env) : Op -> Cls
 | .move _ | .assign _ | .pick .. | .nilCheck _ | .build .. | .fieldAddr .. | .field .. | .indexAddr .. | .index .. | .binOp .. | .unOp .. | .makeInterface .. | .makeFunc .. | .extract .. | .typeAssert .. => .pure
 | .slice t _ _ _ _ => match Bi E.P t with
  | some ti => match ti.desc with
   | .array _ _ => .read
   | _ => .pure
  | none => .read
 | .load .. | .lookup .. | .entry _ | .convert .. => .read
 | .buildSlice t _ _ => match Bi E.P t with
  | some ti => match ti.desc with
   | .slice e => match E.byref e with | true => .eff | false => .pure
   | _ => .eff
  | none => .eff
 | .call c => match c.callee with
  | .builtin .len => .read
  | .builtin .cap => .pure
  | .builtin .min => .pure
  | .builtin .max => .pure
  | _ => .eff
 | _ => .eff
def D6 : Nat := 4294967295
structure St where
 tm : Tr AV
 nt : Nat
 df : List (Nat × List AV)
 sto : Sto
def Jl (d : Option Nat) (tm : Tr AV) (nt : Nat) (v : AV) : Option (Tr AV) :=
 match d with
 | none => some tm
 | some d => cond (Nat.blt d nt) (R6 (tm.put (d + 1) d (some v)) some) none
def Af6 (a b : Value) : Bool :=
 match a, b with
 | .pointer none, .pointer none => true
 | .slice none 0 0, .slice none 0 0 => true
 | .map none, .map none => true
 | .nilFunc, .nilFunc => true
 | .nilIface, .nilIface => true
 | _, _ => false
def Alj : Fn -> Fn -> Bool
 | .func a, .func b => Nat.beq a b
 | _, _ => false
def beqO (a b : Option Nat) : Bool := match a, b with | none, none => true | some x, some y => Nat.beq x y | _, _ => false
mutual
def AV.beq : AV -> AV -> Bool
 | .any, .any => true
 | .bool a, .bool b => cond a b (!b)
 | .int k a, .int k' b => Id k k' && Wq a b
 | .str a, .str b => Ft a b
 | .nil a, .nil b => Af6 a b
 | .pr a o, .pr b p => Nat.beq a b && Nat.beq o p
 | .pv l, .pv m => AV.beqs l m
 | .sr a o s n c, .sr b p t m d => Nat.beq a b && Nat.beq o p && Nat.beq s t && Nat.beq n m && beqO c d
 | .sv l s n c, .sv m t k d => AV.beqs l m && Nat.beq s t && Nat.beq n k && beqO c d
 | .mp a, .mp b => Nat.beq a b
 | .it a, .it b => Nat.beq a b
 | .stp a, .stp b => Nat.beq a b
 | .yl a, .yl b => Nat.beq a b
 | .flt k a, .flt k' b => decide (k = k') && Nat.beq a b
 | .fn f a b, .fn h c d => Alj f h && AV.beqs a c && AV.beqs b d
 | .ifc t a, .ifc u b => Nat.beq t u && AV.beq a b
 | .agg l, .agg m => AV.beqs l m
 | .tup l, .tup m => AV.beqs l m
 | _, _ => false
def AV.beqs : List AV -> List AV -> Bool
 | [], [] => true
 | x :: r, y :: s => AV.beq x y && AV.beqs r s
 | _, _ => false
end
def AV.join (a b : AV) : AV := cond (AV.beq a b) a .any
def Ie : List AV -> List AV -> Option (List AV)
 | [], [] => some []
 | x :: r, y :: s => match Ie r s with | some l => some (AV.join x y :: l) | none => none
 | _, _ => none
def Qy : List (Key × AV) -> List (Key × AV) -> Option (List (Key × AV))
 | [], [] => some []
 | (k, x) :: r, (l, y) :: s => cond (Key.eq k l) (match Qy r s with | some t => some ((k, AV.join x y) :: t) | none => none) none
 | _, _ => none
def Alk : AO -> AO -> Option AO
 | .cells a, .cells b => match Ie a b with | some l => some (.cells l) | none => none
 | .map k a v, .map l b w => cond (Nat.beq v w && Nat.beq k l) (match Qy a b with | some l => some (.map k l v) | none => none) none
 | _, _ => none
def Gg : Tr AV -> Tr AV -> Tr AV
 | .n (some x) l r, .n (some y) l' r' => .n (some (AV.join x y)) (Gg l l') (Gg r r')
 | .n _ l r, .n _ l' r' => .n none (Gg l l') (Gg r r')
 | _, _ => .e
def Dm : Tr AO -> Tr AO -> Tr AO
 | .n (some x) l r, .n (some y) l' r' => .n (Alk x y) (Dm l l') (Dm r r')
 | .n _ l r, .n _ l' r' => .n none (Dm l l') (Dm r r')
 | _, _ => .e
def Sn (a b : Sto) : Option Sto := cond (Nat.beq a.next b.next) (some ⟨Dm a.objs b.objs, a.next⟩) none
def Af7 (a b : St) : Option St :=
 match a.df, b.df with
 | [], [] => cond (Nat.beq a.nt b.nt) (match Sn a.sto b.sto with | some σ => some ⟨Gg a.tm b.tm, a.nt, [], σ⟩ | none => none) none
 | _, _ => none
def XE.beq : XE -> XE -> Bool
 | .normal, .normal => true
 | .exit a, .exit b => Nat.beq a b
 | .ret, .ret => true
 | _, _ => false
def O2 : List (XE × St) -> Option (List (XE × St))
 | [] => none
 | x :: r => match r with
  | [] => some [x]
  | y :: s => match O2 (y :: s) with
   | some [z] => cond (XE.beq x.1 z.1) (match Af7 x.2 z.2 with | some t => some [(x.1, t)] | none => none) none
   | _ => none
def C8 (ops : List Oper) (o : Oper) (tm : Tr AV) : Option Bool :=
 match o.guard with
 | none => some true
 | some (j, want) => match ops[j]? with
  | some oj => match oj.dst with
   | some d => match tm.get d with
    | some (.bool b) => some (cond b want (!want))
    | some .any => none
    | some _ => some false
    | none => none
   | none => none
  | none => none
abbrev Rec := Nat -> List AV -> Sto -> Res
def O3 (v : AV) (args : List AV) : Option (Nat × List AV) :=
 match v with
 | .fn (.func k) first cap => some (k, first ++ args ++ cap)
 | _ => none
def Ab0 (E : Env) (t : Nat) (name : String) (v : AV) (σ : Sto) : Option (Nat × AV) :=
 match E.P.info? t with
 | some i => match i.methods.find? (·.name == name) with
  | some m => match m.path.toList with
   | [] => match m.func with
    | some (f, ptr) => match E.P.underlying t with
     | some d => match d with
      | .pointer e => match ptr with
       | true => some (f, v)
       | false => match Bi E.P e with
        | some te => match Lt te v σ with
         | some (u, _) => some (f, u)
         | none => none
        | none => none
      | _ => match ptr with
       | true => none
       | false => some (f, v)
     | none => none
    | none => none
   | _ => none
  | none => none
 | none => none
def opA (E : Env) (op : Op) (R : Rec) (tm : Tr AV) (σ : Sto) : Res :=
 match op with
 | .call c => match c.callee with
  | .value v => match O3 (opd E tm v) (opds E tm c.args.toList) with
   | some (k, args) => R k args σ
   | none => none
  | .invoke x name => match opd E tm x with
   | .ifc t v => match Ab0 E t name v σ with
    | some (f, rv) => R f (rv :: opds E tm c.args.toList) σ
    | none => none
   | _ => none
  | _ => Bm E (.call c) tm σ
 | op => Bm E op tm σ
def Me (E : Env) (ops : List Oper) (o : Oper) (R : Rec) (s : St) : Option St :=
 match C8 ops o s.tm with
 | some true => match o.op with
  | .defer c => match c.callee, o.dst with
   | .value v, none => match O3 (opd E s.tm v) (opds E s.tm c.args.toList) with
    | some ka => cond (Nat.beq ka.1 D6) none (some ⟨s.tm, s.nt, ka :: s.df, s.sto⟩)
    | none => none
   | _, _ => none
  | op => match opA E op R s.tm s.sto with
   | some (v, σ) => match Jl o.dst s.tm s.nt v with
    | some tm => some ⟨tm, s.nt, s.df, σ⟩
    | none => none
   | none => none
 | some false => match Jl o.dst s.tm s.nt Bd with
  | some tm => some ⟨tm, s.nt, s.df, s.sto⟩
  | none => none
 | none => none
def Gt (E : Env) (ops : List Oper) (R : Rec) : List Oper -> St -> Option St
 | [], s => some s
 | o :: r, s => match Me E ops o R s with
  | some s' => Gt E ops R r s'
  | none => none
def Qz {α : Type} : List (Option α) -> Option (List α)
 | [] => some []
 | x :: r => match x with
  | some x => match Qz r with | some l => some (x :: l) | none => none
  | none => none
def Ab1 (E : Env) (ops : List Oper) (dst : Option Nat) (r : List Oper) (s : St) (a : Nat) (m : Option Nat) (ver : Nat) (v : AV) (left : List (Key × AV)) (cur : Option (Key × AV)) : Option St :=
 match Jl dst s.tm s.nt v with
 | some tm => Gt E ops (fun _ _ _ => none) r ⟨tm, s.nt, s.df, s.sto.set a (.iter m ver left cur)⟩
 | none => none
def V8 (σ : Sto) (m : Option Nat) (ver : Nat) : Bool :=
 match m with
 | none => true
 | some r => match σ.get r with | some (.map _ _ v) => Nat.beq v ver | _ => false
def All (E : Env) (ops : List Oper) (s : St) : Option (List St) :=
 match ops with
 | o :: r => match o.op, o.guard with
  | .next x false, none => match opd E s.tm x with
   | .it a => match s.sto.get a with
    | some (.iter m ver left _) => match V8 s.sto m ver with
     | true => match left with
      | [] => match Ab1 E ops o.dst r s a m ver (.tup [.bool false]) [] none with | some s' => some [s'] | none => none
      | _ :: _ => Qz ((Fu left).map fun x => Ab1 E ops o.dst r s a m ver (.tup [.bool true, Qf x.1.1, x.1.2]) x.2 (some x.1))
     | false => none
    | _ => none
   | _ => none
  | _, _ => none
 | [] => none
structure Ann where
 cls : Cls
 lo : Nat
 hi : Nat
def Cw : Cls -> Bool
 | .eff => true
 | _ => false
def Ej (E : Env) : List Oper -> Nat -> List Nat
 | [], _ => []
 | o :: r, i => match Cw (B9 E o.op) with
  | true => i :: Ej E r (i + 1)
  | false => Ej E r (i + 1)
def Mf (b : List Nat) : List Nat -> Bool
 | [] => true
 | i :: r => match r with
  | [] => true
  | j :: s => (b.getD j 0).testBit i && Mf b (j :: s)
def B8 (p : Nat -> Bool) : List Nat -> Nat
 | [] => 0
 | i :: r => match p i with | true => B8 p r + 1 | false => 0
def Iy (E : Env) (b effs : List Nat) : List Oper -> Nat -> List Ann
 | [], _ => []
 | o :: r, i => Ch (B8 (fun e => (b.getD i 0).testBit e) effs) fun lo =>
   Ch (B8 (fun e => !(b.getD e 0).testBit i) effs) fun hi =>
   match B9 E o.op with
   | .pure => ⟨.pure, lo, hi⟩ :: Iy E b effs r (i + 1)
   | .read => ⟨.read, lo, hi⟩ :: Iy E b effs r (i + 1)
   | .eff => ⟨.eff, lo, hi⟩ :: Iy E b effs r (i + 1)
def O4 (ops : Array Oper) (b : List Nat) : Bool :=
 (List.range ops.size).all fun j => (List.range j).all fun i => (b.getD j 0).testBit i || match ops[i]?, ops[j]? with
  | some x, some y => Oper.apart ops x y
  | _, _ => true
def O5 (ops : Array Oper) : Bool :=
 (List.range ops.size).all fun j => match ops[j]? with
  | some o => o.after.all fun e => !Region.binds .any e || decide (e.on < j)
  | none => true
def Mg (E : Env) (ops : Array Oper) : Option (List Ann) :=
 let b := (Region.before ops).toList
 let effs := Ej E ops.toList 0
 match O4 ops b && O5 ops && Mf b effs && Region.noSelect ops with
 | true => some (Iy E b effs ops.toList 0)
 | false => none
structure DS where
 s : St
 eps : List Sto
 log : List (Tr AV × AV)
def O6 (E : Env) (ops : List Oper) (o : Oper) (R : Rec) (d : DS) : Option DS :=
 match C8 ops o d.s.tm with
 | some true => match opA E o.op R d.s.tm d.s.sto with
  | some (v, σ) => match Jl o.dst d.s.tm d.s.nt v with
   | some tm => match Cw (B9 E o.op) with
    | true => some ⟨⟨tm, d.s.nt, d.s.df, σ⟩, σ :: d.eps, (d.s.tm, v) :: d.log⟩
    | false => some ⟨⟨tm, d.s.nt, d.s.df, d.s.sto⟩, d.eps, (d.s.tm, v) :: d.log⟩
   | none => none
  | none => none
 | some false => match Jl o.dst d.s.tm d.s.nt Bd with
  | some tm => match Cw (B9 E o.op) with
   | true => some ⟨⟨tm, d.s.nt, d.s.df, d.s.sto⟩, d.s.sto :: d.eps, (d.s.tm, Bd) :: d.log⟩
   | false => some ⟨⟨tm, d.s.nt, d.s.df, d.s.sto⟩, d.eps, (d.s.tm, Bd) :: d.log⟩
  | none => none
 | none => none
def So (E : Env) (ops : List Oper) (R : Rec) : List Oper -> DS -> Option DS
 | [], d => some d
 | o :: r, d => match O6 E ops o R d with
  | some d' => So E ops R r d'
  | none => none
def steady (E : Env) (ops : List Oper) (o : Oper) (tm : Tr AV) (v : AV) (l : List Sto) : Bool :=
 match C8 ops o tm with
 | some true => l.all fun σ => match Bm E o.op tm σ with
  | some (u, _) => AV.beq u v
  | none => false
 | _ => true
def F7 (E : Env) (ops : List Oper) (eps : List Sto) : List Ann -> List Oper -> List (Tr AV × AV) -> Bool
 | [], [], [] => true
 | a :: r, o :: os, (tm, v) :: l => (match a.cls with
  | .read => steady E ops o tm v ((eps.drop a.lo).take (a.hi + 1 - a.lo))
  | _ => true) && F7 E ops eps r os l
 | _, _, _ => false
def No (E : Env) (ops : Array Oper) (R : Rec) (s : St) : Option St :=
 match Mg E ops with
 | none => none
 | some anns => match So E ops.toList R ops.toList ⟨s, [s.sto], []⟩ with
  | some d => cond (F7 E ops.toList d.eps.reverse anns ops.toList d.log.reverse) (some d.s) none
  | none => none
def Aqm (ops : Array Oper) : Bool := match ops.toList with | o :: _ => (match o.op with | .next _ false => true | _ => false) | [] => false
abbrev Out := Option (List (XE × St))
def Qg (k : St -> Out) : List (XE × St) -> Out
 | [] => some []
 | (.normal, s) :: r => match k s with
  | some a => match Qg k r with
   | some b => some (a ++ b)
   | none => none
  | none => none
 | (x, s) :: r => match Qg k r with | some b => some ((x, s) :: b) | none => none
def Sp (body : St -> Out) : Nat -> St -> Out
 | 0, _ => none
 | n + 1, s => match body s with
  | some l => Qg (Sp body n) l
  | none => none
def Hk (id : Nat) : List (XE × St) -> List (XE × St)
 | [] => []
 | (.exit j, s) :: r => (cond (Nat.beq j id) .normal (.exit j), s) :: Hk id r
 | x :: r => x :: Hk id r
def Fm (E : Env) (lf : Nat) (R : Rec) : Code -> St -> Out
 | .skip, s => some [(.normal, s)]
 | .label _, s => some [(.normal, s)]
 | .region _ ops draw, s => match draw with
  | true => match No E ops R s with | some s' => some [(.normal, s')] | none => none
  | false => match Aqm ops with
   | true => match All E ops.toList s with | some l => some (l.map fun s' => (.normal, s')) | none => none
   | false => match Gt E ops.toList R ops.toList s with | some s' => some [(.normal, s')] | none => none
 | .seq a b, s => match Fm E lf R a s with
  | some l => Qg (Fm E lf R b) l
  | none => none
 | .cond c a b, s => match opd E s.tm c with
  | .bool true => Fm E lf R a s
  | .bool false => Fm E lf R b s
  | _ => none
 | .block id a, s => match Fm E lf R a s with | some l => some (Hk id l) | none => none
 | .loop a, s => match Sp (Fm E lf R a) lf s with
  | some l => O2 l
  | none => none
 | .scope a, s => Fm E lf R a s
 | .exit id, s => some [(.exit id, s)]
 | .ret, s => some [(.ret, s)]
 | _, _ => none
def W2 (P : Program) (tm : Tr AV) (σ : Sto) : ResultVar -> Option AV
 | .tmp t => tm.get t
 | .cell a t => match Bi P t with
  | some ti => match tm.get a with
   | some (.pr b off) => match σ.cells b with
    | some vs => Et ti (vs.drop off)
    | none => none
   | _ => none
  | none => none
def Sq (P : Program) (tm : Tr AV) (σ : Sto) : List ResultVar -> Option (List AV)
 | [] => some []
 | r :: rs => match W2 P tm σ r, Sq P tm σ rs with
  | some v, some l => some (v :: l)
  | _, _ => none
def Q0 (E : Env) : List (Nat × List AV) -> Sto -> Option Sto
 | [], σ => some σ
 | (f, args) :: r, σ => match E.dsum f with
  | some d => match d args σ with
   | some σ' => Q0 E r σ'
   | none => none
  | none => none
def Np : List AV -> AV
 | [v] => v
 | vs => .tup vs
def finA (E : Env) (rs : List ResultVar) (x : XE × St) : Res :=
 match x with
 | (.exit _, _) => none
 | (_, s) => match Q0 E s.df s.sto with
  | some σ => match Sq E.P s.tm σ rs with
   | some vs => some (Np vs, σ)
   | none => none
  | none => none
def W3 : List (AV × Sto) -> Res
 | [] => none
 | x :: r => match r with
  | [] => some x
  | _ => match W3 r with
   | some z => match Sn x.2 z.2 with | some σ => some (AV.join x.1 z.1, σ) | none => none
   | none => none
def F8 : List AV -> Nat -> Tr AV -> Tr AV
 | [], _, t => t
 | x :: r, i, t => F8 r (i + 1) (t.put (i + 1) i (some x))
def Aps (E : Env) (lf : Nat) (R : Rec) (fn : Func) (args : List AV) (σ : Sto) : Res :=
 match fn.body with
 | some c => cond (Nat.ble args.length fn.ntmps)
   (match Fm E lf R c ⟨F8 args 0 .e, fn.ntmps, [], σ⟩ with
   | some l => match Qz (l.map (finA E fn.results.toList)) with
    | some rs => W3 rs
    | none => none
   | none => none) none
 | none => none
def I9 (E : Env) (lf : Nat) : Nat -> Rec
 | 0 => fun _ _ _ => none
 | n + 1 => fun f args σ => match E.sum f with
  | some s => s args σ
  | none => match E.P.funcs[f]? with
   | some fn => Aps E lf (I9 E lf n) fn args σ
   | none => none
structure Ctx where
 loc : Nat -> Option (Nat × Nat)
 stm : Nat -> Int
 res : Nat -> Prop
 lr : Nat -> Option Loop
def Ctx.own (C : Ctx) (c : Nat) : Prop := C.res c ∨ ∃ a o, C.loc a = some (c, o)
def csize (w : World) (c : Nat) : Nat := match w.heap[c]? with | some (.cells cs _ _) => cs.size | _ => 0
mutual
def R (C : Ctx) (N : Nat) (w : World) : AV -> Value -> Prop
 | .any, _ => True
 | .bool b, v => v = .bool b
 | .int k n, v => v = .int k n
 | .str l, v => ∃ s, v = .string s /\ Ca s = l
 | .nil x, v => v = x /\ Ux x = true
 | .pr a off, v => ∃ ad, v = .pointer (some ad) /\ a < N /\ ∀ c o, C.loc a = some (c, o) -> ad = ⟨c, o + off, none⟩
 | .pv cs, v => ∃ c o, v = .pointer (some ⟨c, o, none⟩) /\ (cs ≠ [] -> ¬ C.own c) /\ RC C N w c cs o
 | .sr a off sz len cap, v => ∃ ad k, v = .slice (some ad) len k /\ a < N /\ len <= k /\ (∀ q, cap = some q -> k = q) /\
   ∀ c o, C.loc a = some (c, o) -> (0 < k -> ad = ⟨c, o + off, none⟩) /\ o + off + k * sz <= csize w c
 | .sv cs sz len cap, v => ∃ ado k, v = .slice ado len k /\ len <= k /\ (∀ q, cap = some q -> k = q) /\ cs.length = len * sz /\ (ado = none -> k = 0) /\
   ∀ ad, ado = some ad -> (0 < k -> ad.spot = none) /\ (cs ≠ [] -> ¬ C.own ad.block) /\ RC C N w ad.block cs ad.off
 | .mp r, v => ∃ c, v = .map (some c) /\ r < N /\ ∀ c' o, C.loc r = some (c', o) -> c = c'
 | .it r, v => ∃ c, v = .pointer (some ⟨c, 0, none⟩) /\ r < N /\ ∀ c' o, C.loc r = some (c', o) -> c = c'
 | .stp a, v => v = .int .i64 (C.stm a) /\ a < N
 | .flt k n, v => v = .float k n
 | .yl a, v => v = .func (.yield (C.stm a).toNat) #[] #[] /\ a < N
 | .fn f p q, v => ∃ a b, v = .func f a b /\ RL C N w p a.toList /\ RL C N w q b.toList
 | .ifc t x, v => ∃ y, v = .iface t y /\ R C N w x y
 | .agg cs, v => ∃ a, v = .agg a /\ RL C N w cs a.toList /\ ∀ x ∈ a.toList, x.oneCell = true
 | .tup vs, v => ∃ a, v = .tuple a /\ RL C N w vs a.toList
def RC (C : Ctx) (N : Nat) (w : World) (c : Nat) : List AV -> Nat -> Prop
 | [], _ => True
 | x :: r, o => (∃ v, w.cell? ⟨c, o, none⟩ = some v /\ v.oneCell = true /\ R C N w x v) /\ RC C N w c r (o + 1)
def RL (C : Ctx) (N : Nat) (w : World) : List AV -> List Value -> Prop
 | [], [] => True
 | x :: r, v :: s => R C N w x v /\ RL C N w r s
 | _, _ => False
end
structure Ext (C : Ctx) (N : Nat) (w : World) (C' : Ctx) (N' : Nat) (w' : World) : Prop where
 next : N <= N'
 size : w.heap.size <= w'.heap.size
 keep : ∀ b, b < w.heap.size -> ¬ C.own b -> ¬ C'.own b /\ w'.heap[b]? = w.heap[b]?
 loc : ∀ a, a < N -> ∀ p, C'.loc a = some p -> C.loc a = some p
 stm : ∀ a, a < N -> C'.stm a = C.stm a
 lr : ∀ a, a < N -> C'.lr a = C.lr a
 bsz : ∀ a, a < N -> ∀ c o, C'.loc a = some (c, o) -> csize w' c = csize w c
 res : C'.res = C.res /\ ∀ b, C.res b -> w'.heap[b]? = w.heap[b]?
 os : w'.os = w.os /\ w'.output = w.output
theorem Ext.refl (C : Ctx) (N : Nat) (w : World) : Ext C N w C N w :=
 ⟨nl, nl, fun _ _ h => ⟨h, rfl⟩, fun _ _ _ h => h, fun _ _ => rfl, fun _ _ => rfl, fun _ _ _ _ _ => rfl, ⟨rfl, fun _ _ => rfl⟩, rfl, rfl⟩
theorem Ext.trans {C C₁ C₂ : Ctx} {N N₁ N₂ : Nat} {w w₁ w₂ : World} (h : Ext C N w C₁ N₁ w₁) (k : Ext C₁ N₁ w₁ C₂ N₂ w₂) : Ext C N w C₂ N₂ w₂ where
 next := Nat.le_trans h.next k.next
 size := Nat.le_trans h.size k.size
 keep b hb ho := by
  obtain ⟨h1, h2⟩ := h.keep b hb ho;obtain ⟨k1, k2⟩ := k.keep b (Nat.lt_of_lt_of_le hb h.size) h1;exact ⟨k1, k2.trans h2⟩
 loc a ha p hp := h.loc a ha p (k.loc a (Nat.lt_of_lt_of_le ha h.next) p hp)
 stm a ha := (k.stm a (Nat.lt_of_lt_of_le ha h.next)).trans (h.stm a ha)
 lr a ha := (k.lr a (Nat.lt_of_lt_of_le ha h.next)).trans (h.lr a ha)
 bsz a ha c o hc := by
  have ha' := Nat.lt_of_lt_of_le ha h.next;exact (k.bsz a ha' c o hc).trans (h.bsz a ha c o (k.loc a ha' _ hc))
 res := ⟨k.res.1.trans h.res.1, fun b hb => (k.res.2 b (by rw [h.res.1]; exact hb)).trans (h.res.2 b hb)⟩
 os := ⟨k.os.1.trans h.os.1, k.os.2.trans h.os.2⟩
theorem Ah4 {w : World} {a : Addr} {v : Value} (h : w.cell? a = some v) : a.block < w.heap.size := by
 unfold World.cell? at h;cases hh : w.heap[a.block]? with
 | none => simp [hh] at h
 | some o => exact (Array.getElem?_eq_some_iff.1 hh).1
theorem Sr {w w' : World} {b : Nat} (h : w'.heap[b]? = w.heap[b]?) (o : Nat) (s : Option Nat) : w'.cell? ⟨b, o, s⟩ = w.cell? ⟨b, o, s⟩ := by
 unfold World.cell?; simp only [h]
section
variable {C C' : Ctx} {N N' : Nat} {w w' : World}
mutual
theorem R.ext (e : Ext C N w C' N' w') : ∀ (x : AV) (v : Value), R C N w x v -> R C' N' w' x v
 | .any, _, _ => by unfold R; trivial
 | .bool b, v, h => by unfold R at *; exact h
 | .int k n, v, h => by unfold R at *; exact h
 | .str l, v, h => by unfold R at *; exact h
 | .nil x, v, h => by unfold R at *; exact h
 | .pr a off, v, h => by
  unfold R at *;obtain ⟨ad, h1, h2, h3⟩ := h;exact ⟨ad, h1, Nat.lt_of_lt_of_le h2 e.next, fun c o hc => h3 c o (e.loc a h2 _ hc)⟩
 | .pv cs, v, h => by
  unfold R at *;obtain ⟨c, o, h1, h2, h3⟩ := h;exact ⟨c, o, h1, RC.extOwn e c cs o h2 h3, RC.ext e c cs o h2 h3⟩
 | .sr a off sz len cap, v, h => by
  unfold R at *;obtain ⟨ad, k, h1, h2, h3, h4, h5⟩ := h;refine ⟨ad, k, h1, Nat.lt_of_lt_of_le h2 e.next, h3, h4, fun c o hc => ?_⟩
  obtain ⟨h6, h7⟩ := h5 c o (e.loc a h2 _ hc)
  exact ⟨h6, by rw [e.bsz a h2 c o hc]; exact h7⟩
 | .sv cs sz len cap, v, h => by
  unfold R at *;obtain ⟨ado, k, h1, h2, h3, h4, h5, h6⟩ := h;refine ⟨ado, k, h1, h2, h3, h4, h5, fun ad ha => ?_⟩
  obtain ⟨h7, h8, h9⟩ := h6 ad ha;exact ⟨h7, RC.extOwn e ad.block cs ad.off h8 h9, RC.ext e ad.block cs ad.off h8 h9⟩
 | .mp r, v, h => by
  unfold R at *;obtain ⟨c, h1, h2, h3⟩ := h;exact ⟨c, h1, Nat.lt_of_lt_of_le h2 e.next, fun c' o hc => h3 c' o (e.loc r h2 _ hc)⟩
 | .it r, v, h => by
  unfold R at *;obtain ⟨c, h1, h2, h3⟩ := h;exact ⟨c, h1, Nat.lt_of_lt_of_le h2 e.next, fun c' o hc => h3 c' o (e.loc r h2 _ hc)⟩
 | .stp a, v, h => by
  unfold R at *
  exact ⟨by rw [e.stm a h.2]; exact h.1, Nat.lt_of_lt_of_le h.2 e.next⟩
 | .flt k n, v, h => by unfold R at *; exact h
 | .yl a, v, h => by
  unfold R at *
  exact ⟨by rw [e.stm a h.2]; exact h.1, Nat.lt_of_lt_of_le h.2 e.next⟩
 | .fn f p q, v, h => by
  unfold R at *;obtain ⟨a, b, h1, h2, h3⟩ := h;exact ⟨a, b, h1, RL.ext e p _ h2, RL.ext e q _ h3⟩
 | .ifc t x, v, h => by
  unfold R at *;obtain ⟨y, h1, h2⟩ := h;exact ⟨y, h1, R.ext e x y h2⟩
 | .agg cs, v, h => by
  unfold R at *;obtain ⟨a, h1, h2, h3⟩ := h;exact ⟨a, h1, RL.ext e cs _ h2, h3⟩
 | .tup vs, v, h => by
  unfold R at *;obtain ⟨a, h1, h2⟩ := h;exact ⟨a, h1, RL.ext e vs _ h2⟩
theorem RC.extOwn (e : Ext C N w C' N' w') (c : Nat) : ∀ (cs : List AV) (o : Nat), (cs ≠ [] -> ¬ C.own c) -> RC C N w c cs o -> (cs ≠ [] -> ¬ C'.own c)
 | [], _, _, _ => fun h => absurd rfl h
 | x :: r, o, ho, h => fun _ => by
  unfold RC at h;obtain ⟨⟨v, h1, _⟩, _⟩ := h
  exact (e.keep c (Ah4 h1) (ho (by simp))).1
theorem RC.ext (e : Ext C N w C' N' w') (c : Nat) : ∀ (cs : List AV) (o : Nat), (cs ≠ [] -> ¬ C.own c) -> RC C N w c cs o -> RC C' N' w' c cs o
 | [], _, _, _ => by unfold RC; trivial
 | x :: r, o, ho, h => by
  unfold RC at *;obtain ⟨⟨v, h1, h2, h3⟩, h4⟩ := h
  exact ⟨⟨v, (Sr (e.keep c (Ah4 h1) (ho (by simp))).2 o none).trans h1, h2, R.ext e x v h3⟩, RC.ext e c r (o + 1) (fun _ => ho (by simp)) h4⟩
theorem RL.ext (e : Ext C N w C' N' w') : ∀ (l : List AV) (vs : List Value), RL C N w l vs -> RL C' N' w' l vs
 | [], [], _ => by unfold RL; trivial
 | x :: r, v :: s, h => by
  unfold RL at *;exact ⟨R.ext e x v h.1, RL.ext e r s h.2⟩
 | [], _ :: _, h => by unfold RL at h; exact h.elim
 | _ :: _, [], h => by unfold RL at h; exact h.elim
end
theorem RL.length : ∀ {l : List AV} {vs : List Value}, RL C N w l vs -> l.length = vs.length
 | [], [], _ => rfl
 | x :: r, v :: s, h => by unfold RL at h; simp [RL.length h.2]
 | [], _ :: _, h => by unfold RL at h; exact h.elim
 | _ :: _, [], h => by unfold RL at h; exact h.elim
theorem RL.get : ∀ {l : List AV} {vs : List Value} (_ : RL C N w l vs) (i : Nat) (x : AV), l[i]? = some x -> ∃ v, vs[i]? = some v /\ R C N w x v
 | x :: r, v :: s, h, 0, y, hy => by unfold RL at h; simp at hy; subst hy; exact ⟨v, rfl, h.1⟩
 | x :: r, v :: s, h, i + 1, y, hy => by unfold RL at h; exact RL.get h.2 i y (by simpa using hy)
 | [], [], _, i, y, hy => by simp at hy
 | [], _ :: _, h, _, _, _ => by unfold RL at h; exact h.elim
 | _ :: _, [], h, _, _, _ => by unfold RL at h; exact h.elim
theorem RL.append : ∀ {l : List AV} {vs : List Value} {l' : List AV} {vs' : List Value}, RL C N w l vs -> RL C N w l' vs' -> RL C N w (l ++ l') (vs ++ vs')
 | [], [], _, _, _, k => k
 | x :: r, v :: s, _, _, h, k => by unfold RL at h; show RL C N w (x :: (r ++ _)) (v :: (s ++ _)); unfold RL; exact ⟨h.1, RL.append h.2 k⟩
 | [], _ :: _, _, _, h, _ => by unfold RL at h; exact h.elim
 | _ :: _, [], _, _, h, _ => by unfold RL at h; exact h.elim
theorem RL.drop : ∀ {l : List AV} {vs : List Value} (n : Nat), RL C N w l vs -> RL C N w (l.drop n) (vs.drop n)
 | [], [], n, h => by simp [RL]
 | x :: r, v :: s, 0, h => h
 | x :: r, v :: s, n + 1, h => by unfold RL at h; simpa using RL.drop n h.2
 | [], _ :: _, _, h => by unfold RL at h; exact h.elim
 | _ :: _, [], _, h => by unfold RL at h; exact h.elim
theorem RC.get : ∀ {cs : List AV} {c o : Nat} (_ : RC C N w c cs o) (i : Nat) (x : AV), cs[i]? = some x -> ∃ v, w.cell? ⟨c, o + i, none⟩ = some v /\ v.oneCell = true /\ R C N w x v
 | x :: r, c, o, h, 0, y, hy => by unfold RC at h; simp at hy; subst hy; exact h.1
 | x :: r, c, o, h, i + 1, y, hy => by
  unfold RC at h
  have := RC.get h.2 i y (by simpa using hy)
  rwa [show o + 1 + i = o + (i + 1) by omega] at this
 | [], _, _, _, i, y, hy => by simp at hy
theorem RC.drop : ∀ {cs : List AV} {c o : Nat} (n : Nat), RC C N w c cs o -> RC C N w c (cs.drop n) (o + n)
 | cs, c, o, 0, h => h
 | [], _, _, n + 1, _ => by simp [RC]
 | x :: r, c, o, n + 1, h => by
  unfold RC at h;have := RC.drop n h.2
  rwa [show o + 1 + n = o + (n + 1) by omega] at this
theorem RC.take : ∀ {cs : List AV} {c o : Nat} (n : Nat) {l : List AV}, D1 n cs = some l -> RC C N w c cs o -> RC C N w c l o
 | cs, c, o, 0, l, ht, h => by simp [D1] at ht; subst ht; unfold RC; trivial
 | x :: r, c, o, n + 1, l, ht, h => by
  unfold RC at h;simp only [D1] at ht;cases hr : D1 n r with
  | none => simp [hr] at ht
  | some l' =>
   simp [hr] at ht
   subst ht;unfold RC;exact ⟨h.1, RC.take n hr h.2⟩
 | [], _, _, n + 1, l, ht, h => by simp [D1] at ht
end
theorem Gm : ∀ {n : Nat} {l l' : List AV}, D1 n l = some l' -> l' = l.take n /\ l'.length = n
 | 0, l, l', h => by simp [D1] at h; subst h; simp
 | n + 1, [], l', h => by simp [D1] at h
 | n + 1, x :: r, l', h => by
  simp only [D1] at h;cases hr : D1 n r with
  | none => simp [hr] at h
  | some l'' =>
   simp [hr] at h
   subst h;obtain ⟨h1, h2⟩ := Gm hr
   exact ⟨by simp [h1], by simp [h2]⟩
theorem Tr.get_mkL {α : Type} (v : Option α) (l r : Tr α) (k : Nat) : (Tr.mkL v l r).get k = (Tr.n v l r).get k := by cases l <;> rfl
theorem Tr.get_mkR {α : Type} (v : Option α) (l r : Tr α) (k : Nat) : (Tr.mkR v l r).get k = (Tr.n v l r).get k := by cases r <;> rfl
theorem Alm {n : Nat} (h : ¬ n = 0) : Nat.beq n 0 = false := by cases n with | zero => exact absurd rfl h | succ n => rfl
theorem Tr.get_succ {α : Type} (v : Option α) (l r : Tr α) (k : Nat) : (Tr.n v l r).get (k + 1) = if k % 2 = 0 then l.get (k / 2) else r.get (k / 2) := by
 simp only [Tr.get]
 by_cases h : k % 2 = 0
 ·simp [h]
 ·have : Nat.beq (k % 2) 0 = false := Alm h
  simp [h, this]
theorem Tr.get_zero {α : Type} (v : Option α) (l r : Tr α) : (Tr.n v l r).get 0 = v := rfl
theorem Tr.get_put_ne {α : Type} : ∀ (f : Nat) (t : Tr α) (k : Nat) (x : Option α) (j : Nat), j ≠ k -> (t.put f k x).get j = t.get j
 | 0, t, k, x, j, h => rfl
 | f + 1, .e, 0, x, j, h => by
  cases j with
  | zero => exact absurd rfl h
  | succ j => simp [Tr.put, Tr.get_succ, Tr.get]
 | f + 1, .n v l r, 0, x, j, h => by
  cases j with
  | zero => exact absurd rfl h
  | succ j => simp [Tr.put, Tr.get_succ]
 | f + 1, .e, k + 1, x, j, h => by
  simp only [Tr.put]
  by_cases hk : k % 2 = 0
  ·have hb : Nat.beq (k % 2) 0 = true := by simp [hk]
   simp only [hb, cond_true, Tr.get_mkL];cases j with
   | zero => simp [Tr.get]
   | succ j =>
    rw [Tr.get_succ]
    by_cases hj : j % 2 = 0
    ·rw [if_pos hj, Tr.get_put_ne f _ _ _ _ (by omega)]; simp [Tr.get]
    ·rw [if_neg hj]; simp [Tr.get]
  ·have hb : Nat.beq (k % 2) 0 = false := Alm hk;simp only [hb, cond_false, Tr.get_mkR];cases j with
   | zero => simp [Tr.get]
   | succ j =>
    rw [Tr.get_succ]
    by_cases hj : j % 2 = 0
    ·rw [if_pos hj]; simp [Tr.get]
    ·rw [if_neg hj, Tr.get_put_ne f _ _ _ _ (by omega)]; simp [Tr.get]
 | f + 1, .n v l r, k + 1, x, j, h => by
  simp only [Tr.put]
  by_cases hk : k % 2 = 0
  ·have hb : Nat.beq (k % 2) 0 = true := by simp [hk]
   simp only [hb, cond_true, Tr.get_mkL];cases j with
   | zero => simp [Tr.get]
   | succ j =>
    rw [Tr.get_succ, Tr.get_succ]
    by_cases hj : j % 2 = 0
    ·rw [if_pos hj, if_pos hj, Tr.get_put_ne f _ _ _ _ (by omega)]
    ·rw [if_neg hj, if_neg hj]
  ·have hb : Nat.beq (k % 2) 0 = false := Alm hk;simp only [hb, cond_false, Tr.get_mkR];cases j with
   | zero => simp [Tr.get]
   | succ j =>
    rw [Tr.get_succ, Tr.get_succ]
    by_cases hj : j % 2 = 0
    ·rw [if_pos hj, if_pos hj]
    ·rw [if_neg hj, if_neg hj, Tr.get_put_ne f _ _ _ _ (by omega)]
theorem Tr.get_put_eq {α : Type} : ∀ (f : Nat) (t : Tr α) (k : Nat) (x : Option α), k < f -> (t.put f k x).get k = x
 | 0, t, k, x, h => absurd h (by omega)
 | f + 1, .e, 0, x, _ => rfl
 | f + 1, .n v l r, 0, x, _ => rfl
 | f + 1, .e, k + 1, x, h => by
  simp only [Tr.put]
  by_cases hk : k % 2 = 0
  ·have hb : Nat.beq (k % 2) 0 = true := by simp [hk]
   simp only [hb, cond_true, Tr.get_mkL]
   rw [Tr.get_succ, if_pos hk, Tr.get_put_eq f .e (k / 2) x (by omega)]
  ·have hb : Nat.beq (k % 2) 0 = false := Alm hk;simp only [hb, cond_false, Tr.get_mkR]
   rw [Tr.get_succ, if_neg hk, Tr.get_put_eq f .e (k / 2) x (by omega)]
 | f + 1, .n v l r, k + 1, x, h => by
  simp only [Tr.put]
  by_cases hk : k % 2 = 0
  ·have hb : Nat.beq (k % 2) 0 = true := by simp [hk]
   simp only [hb, cond_true, Tr.get_mkL]
   rw [Tr.get_succ, if_pos hk, Tr.get_put_eq f l (k / 2) x (by omega)]
  ·have hb : Nat.beq (k % 2) 0 = false := Alm hk;simp only [hb, cond_false, Tr.get_mkR]
   rw [Tr.get_succ, if_neg hk, Tr.get_put_eq f r (k / 2) x (by omega)]
theorem Tr.get_put {α : Type} (t : Tr α) (k : Nat) (x : Option α) (j : Nat) : (t.put (k + 1) k x).get j = if j = k then x else t.get j := by
 by_cases h : j = k
 ·subst h; rw [if_pos rfl, Tr.get_put_eq _ _ _ _ (by omega)]
 ·rw [if_neg h, Tr.get_put_ne _ _ _ _ _ h]
theorem Ek {α β : Type} (t : Tr α) (k : Tr α -> β) : R6 t k = k t := by cases t <;> rfl
theorem Sto.get_set (σ : Sto) (a : Nat) (o : AO) (b : Nat) : (σ.set a o).get b = if b = a then some o else σ.get b := by
 cases σ; simp only [Sto.set, Ek, Sto.get, Tr.get_put]
theorem Sto.get_kill (σ : Sto) (a : Nat) (b : Nat) : (σ.kill a).get b = if b = a then none else σ.get b := by
 cases σ; simp only [Sto.kill, Ek, Sto.get, Tr.get_put]
theorem Sto.get_new (σ : Sto) (o : AO) (b : Nat) : (σ.new o).get b = if b = nx σ then some o else σ.get b := by
 cases σ; simp only [Sto.new, Ek, Au, Sto.get, nx, Tr.get_put]; rfl
theorem An (σ : Sto) (a : Nat) (o : AO) : nx (σ.set a o) = nx σ := by cases σ; simp only [Sto.set, Ek, nx]
theorem Ck (σ : Sto) (a : Nat) : nx (σ.kill a) = nx σ := by cases σ; simp only [Sto.kill, Ek, nx]
theorem Ap (σ : Sto) (o : AO) : nx (σ.new o) = nx σ + 1 := by cases σ; simp only [Sto.new, Ek, Au, nx]
mutual
def KV : Key -> Value -> Prop
 | .bool b, v => v = .bool b
 | .int k n, v => v = .int k n
 | .str l, v => ∃ s, v = .string s /\ Ca s = l
 | .agg cs, v => ∃ a, v = .agg a /\ KVs cs a.toList
def KVs : List Key -> List Value -> Prop
 | [], [] => True
 | x :: r, v :: s => KV x v /\ KVs r s
 | _, _ => False
end
def KS (d : TypeDesc) (v : Value) : Prop :=
 match d with
 | .int k => ∃ n, v = .int k n
 | .string => ∃ s, v = .string s
 | .bool => ∃ b, v = .bool b
 | _ => False
def KFs (P : Program) : List Field -> List Value -> Prop
 | [], [] => True
 | f :: fs, v :: vs => (∃ i d, P.info? f.type = some i /\ P.underlying f.type = some d /\ i.size = 1 /\ Qt d = false /\ KS d v /\ f.name ≠ "_") /\ KFs P fs vs
 | _, _ => False
def KT (P : Program) (kt : Nat) (v : Value) : Prop :=
 (∃ d, P.underlying kt = some d /\ KS d v) ∨
 (∃ fs a, P.underlying kt = some (.struct fs) /\ v = .agg a /\ KFs P fs.toList a.toList /\ Ix fs.toList 0 = true /\ P.stoodInHeld kt = false)
def ER (C : Ctx) (N : Nat) (w : World) : List (Key × AV) -> List MapEntry -> Prop
 | [], [] => True
 | x :: r, e :: s => (KV x.1 e.key /\ R C N w x.2 e.val) /\ ER C N w r s
 | _, _ => False
structure Do (P : Program) (C : Ctx) (N : Nat) (w : World) (kt : Nat) (es : List (Key × AV)) (E : Array MapEntry) (clock : Nat) : Prop where
 typed : ∀ e ∈ E.toList, KT P kt e.key
 perm : ∃ L, List.Perm L E.toList /\ ER C N w es L
 keys : (E.toList.map (·.key)).Nodup
 born : ∀ e ∈ E.toList, e.born < clock
 apart : (E.toList.map (·.born)).Nodup
def codeX : XE -> Code
 | .normal => .skip
 | .exit id => .exit id
 | .ret => .ret
def Dp (r : Loop) : LS -> Loop
 | .ready => { r with state := .ready, pending := none }
 | .busy => { r with state := .busy, pending := none }
 | .done x => { r with state := .done, pending := some (codeX x) }
def OR (P : Program) (C : Ctx) (w : World) (σ : Sto) (a : Nat) : AO -> Prop
 | .cells vs => ∃ c o cs T, C.loc a = some (c, o) /\ w.heap[c]? = some (.cells cs T (0, 0)) /\ RC C (nx σ) w c vs o
 | .map kt es _ => ∃ c E clock, C.loc a = some (c, 0) /\ w.heap[c]? = some (.map E clock) /\ Do P C (nx σ) w kt es E clock
 | .iter none _ left _ => ∃ c since seen last, C.loc a = some (c, 0) /\ w.heap[c]? = some (.mapIter none since seen last) /\ left = []
 | .iter (some m) ver left cur => m < nx σ /\ ∃ c cm since seen last, C.loc a = some (c, 0) /\ w.heap[c]? = some (.mapIter (some cm) since seen last) /\
   ∀ kt es ver', σ.get m = some (.map kt es ver') -> ver <= ver' /\ (ver = ver' -> ∃ E, C.loc m = some (cm, 0) /\ w.heap[cm]? = some (.map E since) /\ last = since /\
    (∃ L, List.Perm L (E.toList.filter fun e => !seen.contains e.born) /\ ER C (nx σ) w left L) /\
    ∀ k v, cur = some (k, v) -> ∃ e ∈ E.toList, seen.back? = some e.born /\ KV k e.key /\ R C (nx σ) w v e.val)
 | .stamp m ver k => m < nx σ /\ ∀ kt es ver', σ.get m = some (.map kt es ver') -> ver <= ver' /\ (ver = ver' -> ∃ cm E clock, C.loc m = some (cm, 0) /\ w.heap[cm]? = some (.map E clock) /\
    ∃ e ∈ E.toList, KV k e.key /\ C.stm a = e.born)
 | .loop st => ∃ c r, C.loc a = some (c, 0) /\ C.lr a = some r /\ w.heap[c]? = some (.loop (Dp r st))
def V9 : AO -> Bool
 | .stamp .. => true
 | _ => false
structure Sim (P : Program) (C : Ctx) (w : World) (σ : Sto) : Prop where
 obj : ∀ a O, σ.get a = some O -> OR P C w σ a O
 bound : ∀ a O, σ.get a = some O -> a < nx σ
 dom : ∀ a p, C.loc a = some p -> ∃ O, σ.get a = some O /\ V9 O = false
 inj : ∀ a b c o o', C.loc a = some (c, o) -> C.loc b = some (c, o') -> a = b
 lt : ∀ a c o, C.loc a = some (c, o) -> c < w.heap.size
 rlt : ∀ b, C.res b -> b < w.heap.size
 rdis : ∀ a c o, C.loc a = some (c, o) -> ¬ C.res c
section
variable {C C' : Ctx} {N N' : Nat} {w w' : World}
theorem ER.ext (e : Ext C N w C' N' w') : ∀ {l : List (Key × AV)} {L : List MapEntry}, ER C N w l L -> ER C' N' w' l L
 | [], [], _ => by unfold ER; trivial
 | x :: r, f :: s, h => by unfold ER at *; exact ⟨⟨h.1.1, R.ext e _ _ h.1.2⟩, ER.ext e h.2⟩
 | [], _ :: _, h => by unfold ER at h; exact h.elim
 | _ :: _, [], h => by unfold ER at h; exact h.elim
theorem Do.ext {P : Program} (e : Ext C N w C' N' w') {kt : Nat} {es : List (Key × AV)} {E : Array MapEntry} {clock : Nat} (h : Do P C N w kt es E clock) : Do P C' N' w' kt es E clock :=
 ⟨h.typed, let ⟨L, h1, h2⟩ := h.perm; ⟨L, h1, h2.ext e⟩, h.keys, h.born, h.apart⟩
theorem RC.extHeap (e : Ext C N w C' N' w') (c : Nat) (hh : w'.heap[c]? = w.heap[c]?) : ∀ (cs : List AV) (o : Nat), RC C N w c cs o -> RC C' N' w' c cs o
 | [], _, _ => by unfold RC; trivial
 | x :: r, o, h => by
  unfold RC at *;obtain ⟨⟨v, h1, h2, h3⟩, h4⟩ := h;exact ⟨⟨v, (Sr hh o none).trans h1, h2, R.ext e x v h3⟩, RC.extHeap e c hh r (o + 1) h4⟩
end
theorem OR.ext {P : Program} {C C' : Ctx} {w w' : World} {σ σ' : Sto} {a : Nat} {O : AO} (h : OR P C w σ a O) (e : Ext C (nx σ) w C' (nx σ') w') (ha : a < nx σ)
  (hl : C'.loc a = C.loc a) (hh : ∀ c o, C.loc a = some (c, o) -> w'.heap[c]? = w.heap[c]?)
  (hm : ∀ m, m < nx σ -> ∀ kt es' v', σ'.get m = some (.map kt es' v') -> ∃ kt' es v, σ.get m = some (.map kt' es v) /\ v <= v' /\ (v = v' -> C'.loc m = C.loc m /\ ∀ c o, C.loc m = some (c, o) -> w'.heap[c]? = w.heap[c]?)) :
  OR P C' w' σ' a O := by
 cases O with
 | cells vs =>
  obtain ⟨c, o, cs, T, h1, h2, h3⟩ := h;exact ⟨c, o, cs, T, hl.trans h1, (hh c o h1).trans h2, RC.extHeap e c (hh c o h1) vs o h3⟩
 | map kt es ver =>
  obtain ⟨c, E, clock, h1, h2, h3⟩ := h;exact ⟨c, E, clock, hl.trans h1, (hh c 0 h1).trans h2, h3.ext e⟩
 | iter m ver left cur =>
  cases m with
  | none =>
   obtain ⟨c, since, seen, last, h1, h2, h3⟩ := h;exact ⟨c, since, seen, last, hl.trans h1, (hh c 0 h1).trans h2, h3⟩
  | some m =>
   obtain ⟨h0, c, cm, since, seen, last, h1, h2, h3⟩ := h;refine ⟨Nat.lt_of_lt_of_le h0 e.next, c, cm, since, seen, last, hl.trans h1, (hh c 0 h1).trans h2, fun kt es' v' hg => ?_⟩
   obtain ⟨kt', es, v, g1, g2, g3⟩ := hm m h0 kt es' v' hg;obtain ⟨k1, k2⟩ := h3 kt' es v g1;refine ⟨Nat.le_trans k1 g2, fun hv => ?_⟩
   have hv1 : ver = v := by omega
   obtain ⟨g4, g5⟩ := g3 (by omega)
   obtain ⟨E, q1, q2, q3, ⟨L, q4, q5⟩, q6⟩ := k2 hv1;exact ⟨E, g4.trans q1, (g5 cm 0 q1).trans q2, q3, ⟨L, q4, q5.ext e⟩, fun k x hk => let ⟨f, f1, f2, f3, f4⟩ := q6 k x hk; ⟨f, f1, f2, f3, R.ext e _ _ f4⟩⟩
 | stamp m ver k =>
  obtain ⟨h0, h3⟩ := h;refine ⟨Nat.lt_of_lt_of_le h0 e.next, fun kt es' v' hg => ?_⟩
  obtain ⟨kt', es, v, g1, g2, g3⟩ := hm m h0 kt es' v' hg;obtain ⟨k1, k2⟩ := h3 kt' es v g1;refine ⟨Nat.le_trans k1 g2, fun hv => ?_⟩
  have hv1 : ver = v := by omega
  obtain ⟨g4, g5⟩ := g3 (by omega)
  obtain ⟨cm, E, clock, q1, q2, f, f1, f2, f3⟩ := k2 hv1
  exact ⟨cm, E, clock, g4.trans q1, (g5 cm 0 q1).trans q2, f, f1, f2, by rw [e.stm a ha]; exact f3⟩
 | loop st =>
  obtain ⟨c, r, h1, h2, h3⟩ := h;exact ⟨c, r, hl.trans h1, (e.lr a ha).trans h2, (hh c 0 h1).trans h3⟩
end Go.AM
namespace Go.AM
open Go
structure Wr (w w' : World) (c : Nat) (O : Obj) : Prop where
 size : w'.heap.size = w.heap.size
 here : w'.heap[c]? = some O
 other : ∀ b, b ≠ c -> w'.heap[b]? = w.heap[b]?
 os : w'.os = w.os /\ w'.output = w.output
structure Pu (w w' : World) (O : Obj) : Prop where
 size : w'.heap.size = w.heap.size + 1
 here : w'.heap[w.heap.size]? = some O
 other : ∀ b, b < w.heap.size -> w'.heap[b]? = w.heap[b]?
 os : w'.os = w.os /\ w'.output = w.output
theorem Pu.of_push {w w' : World} {O : Obj} (h : w'.heap = w.heap.push O) (os : w'.os = w.os /\ w'.output = w.output) : Pu w w' O :=
 ⟨by rw [h]; simp, by rw [h]; simp, fun b hb => by rw [h, Array.getElem?_push_lt hb]; exact (Array.getElem?_eq_getElem hb).symm, os⟩
def Ctx.add (C : Ctx) (a c o : Nat) : Ctx := { C with loc := fun b => if b = a then some (c, o) else C.loc b }
def Ctx.del (C : Ctx) (a : Nat) : Ctx := { C with loc := fun b => if b = a then none else C.loc b }
def Ctx.addStm (C : Ctx) (a : Nat) (n : Int) : Ctx := { C with stm := fun b => if b = a then n else C.stm b }
section
variable {P : Program} {C : Ctx} {w w' : World} {σ : Sto}
theorem Sim.own_lt (h : Sim P C w σ) {c : Nat} (hc : C.own c) : c < w.heap.size := hc.elim (h.rlt c) fun ⟨a, o, ho⟩ => h.lt a c o ho
theorem Sim.same (h : Sim P C w σ) (hs : w.heap.size <= w'.heap.size) (hh : ∀ b, b < w.heap.size -> w'.heap[b]? = w.heap[b]?) (os : w'.os = w.os /\ w'.output = w.output) :
  Sim P C w' σ /\ Ext C (nx σ) w C (nx σ) w' := by
 have e : Ext C (nx σ) w C (nx σ) w' := ⟨nl, hs, fun b hb ho => ⟨ho, hh b hb⟩, fun _ _ _ h => h, fun _ _ => rfl, fun _ _ => rfl,
  fun a _ c o hc => by unfold csize; rw [hh c (h.lt a c o hc)], ⟨rfl, fun b hb => hh b (h.rlt b hb)⟩, os⟩
 refine ⟨⟨fun a O hg => ?_, h.bound, h.dom, h.inj, fun a c o hl => Nat.lt_of_lt_of_le (h.lt a c o hl) hs, fun b hb => Nat.lt_of_lt_of_le (h.rlt b hb) hs, h.rdis⟩, e⟩
 exact (h.obj a O hg).ext e (h.bound a O hg) rfl (fun c o hc => hh c (h.lt a c o hc)) fun m _ kt es' v' hg' => ⟨kt, es', v', hg', nl, fun _ => ⟨rfl, fun c o hc => hh c (h.lt m c o hc)⟩⟩
theorem Sim.push (h : Sim P C w σ) {O : Obj} (p : Pu w w' O) : Sim P C w' σ /\ Ext C (nx σ) w C (nx σ) w' :=
 h.same (by have := p.size; omega) p.other p.os
theorem Sim.new (h : Sim P C w σ) {B : Obj} (p : Pu w w' B) (O : AO) (hO : V9 O = false)
  (hrel : Ext C (nx σ) w (C.add (nx σ) w.heap.size 0) (nx σ + 1) w' -> OR P (C.add (nx σ) w.heap.size 0) w' (σ.new O) (nx σ) O) :
  Sim P (C.add (nx σ) w.heap.size 0) w' (σ.new O) /\ Ext C (nx σ) w (C.add (nx σ) w.heap.size 0) (nx σ + 1) w' := by
 have hne : ∀ {a}, a < nx σ -> ¬ a = nx σ := fun h => by omega
 have hloc : ∀ a, a < nx σ -> (C.add (nx σ) w.heap.size 0).loc a = C.loc a := fun a ha => by simp [Ctx.add, hne ha]
 have e : Ext C (nx σ) w (C.add (nx σ) w.heap.size 0) (nx σ + 1) w' := ⟨by omega, by have := p.size; omega,
  fun b hb ho => ⟨fun hh => hh.elim (fun hr => ho (.inl hr)) fun ⟨a, o, hao⟩ => by
   by_cases ha : a = nx σ
   ·subst ha; simp [Ctx.add] at hao; omega
   ·simp [Ctx.add, ha] at hao; exact ho (.inr ⟨a, o, hao⟩), p.other b hb⟩,
  fun a ha q hq => by rwa [hloc a ha] at hq, fun _ _ => rfl, fun _ _ => rfl,
  fun a ha c o hc => by rw [hloc a ha] at hc; unfold csize; rw [p.other c (h.lt a c o hc)], ⟨rfl, fun b hb => p.other b (h.rlt b hb)⟩, p.os⟩
 refine ⟨⟨fun a X hg => ?_, fun a X hg => ?_, fun a q hq => ?_, fun a b c o o' ha hb => ?_, fun a c o hl => ?_, fun b hb => by have := h.rlt b hb; have := p.size; omega, fun a c o hl hr => ?_⟩, e⟩
 ·rw [Sto.get_new] at hg
  by_cases ha : a = nx σ
  ·subst ha; simp at hg; subst hg; exact hrel e
  ·rw [if_neg ha] at hg;have hlt := h.bound a X hg
   refine (h.obj a X hg).ext (by rw [Ap]; exact e) hlt (hloc a hlt) (fun c o hc => p.other c (h.lt a c o hc)) fun m hm kt es' v' hg' => ?_
   rw [Sto.get_new, if_neg (hne hm)] at hg';exact ⟨kt, es', v', hg', nl, fun _ => ⟨hloc m hm, fun c o hc => p.other c (h.lt m c o hc)⟩⟩
 ·rw [Ap];rw [Sto.get_new] at hg
  by_cases ha : a = nx σ
  ·omega
  ·rw [if_neg ha] at hg; have := h.bound a X hg; omega
 ·rw [Sto.get_new]
  by_cases ha : a = nx σ
  ·rw [if_pos ha]; exact ⟨O, rfl, hO⟩
  ·simp [Ctx.add, ha] at hq; rw [if_neg ha]; exact h.dom a q hq
 ·by_cases ha' : a = nx σ
  ·by_cases hb' : b = nx σ
   ·omega
   ·simp [Ctx.add, ha'] at ha; simp [Ctx.add, hb'] at hb; have := h.lt b c o' hb; omega
  ·by_cases hb' : b = nx σ
   ·simp [Ctx.add, ha'] at ha; simp [Ctx.add, hb'] at hb; have := h.lt a c o ha; omega
   ·simp [Ctx.add, ha'] at ha; simp [Ctx.add, hb'] at hb; exact h.inj a b c o o' ha hb
 ·by_cases ha : a = nx σ
  ·simp [Ctx.add, ha] at hl; have := p.size; omega
  ·simp [Ctx.add, ha] at hl; have := h.lt a c o hl; have := p.size; omega
 ·by_cases ha : a = nx σ
  ·simp [Ctx.add, ha] at hl; have := h.rlt c hr; omega
  ·simp [Ctx.add, ha] at hl; exact h.rdis a c o hl hr
theorem Sim.upd (h : Sim P C w σ) {a c o : Nat} {B : Obj} (hl : C.loc a = some (c, o)) (p : Wr w w' c B) (hsz : csize w' c = csize w c) {O₀ : AO} (h₀ : σ.get a = some O₀)
  (O : AO) (hO : V9 O = false) (hver : ∀ kt es v, O = .map kt es v -> ∃ kt₀ es₀ v₀, O₀ = .map kt₀ es₀ v₀ /\ v₀ < v)
  (hrel : Ext C (nx σ) w C (nx σ) w' -> OR P C w' (σ.set a O) a O) :
  Sim P C w' (σ.set a O) /\ Ext C (nx σ) w C (nx σ) w' := by
 have hoth : ∀ b c' o', b ≠ a -> C.loc b = some (c', o') -> w'.heap[c']? = w.heap[c']? := fun b c' o' hb hc => p.other c' (fun hcc => hb (h.inj b a c' o' o hc (hcc ▸ hl)))
 have e : Ext C (nx σ) w C (nx σ) w' := ⟨nl, by rw [p.size]; exact nl,
  fun b _ ho => ⟨ho, p.other b (fun hb => ho (.inr (hb ▸ ⟨a, o, hl⟩)))⟩, fun _ _ _ h => h, fun _ _ => rfl, fun _ _ => rfl,
  fun b _ c' o' hc => by
   by_cases hb : b = a
   ·subst hb; rw [hl] at hc; cases hc; exact hsz
   ·unfold csize; rw [hoth b c' o' hb hc], ⟨rfl, fun b hb => p.other b (fun hbc => h.rdis a c o hl (hbc ▸ hb))⟩, p.os⟩
 refine ⟨⟨fun b X hg => ?_, fun b X hg => ?_, fun b q hq => ?_, h.inj, fun b c' o' hc => by rw [p.size]; exact h.lt b c' o' hc, fun b hb => by rw [p.size]; exact h.rlt b hb, h.rdis⟩, e⟩
 ·rw [Sto.get_set] at hg
  by_cases hb : b = a
  ·subst hb; simp at hg; subst hg; exact hrel e
  ·rw [if_neg hb] at hg
   refine (h.obj b X hg).ext (by rw [An]; exact e) (h.bound b X hg) rfl (fun c' o' hc => hoth b c' o' hb hc) fun m _ kt es' v' hg' => ?_
   rw [Sto.get_set] at hg'
   by_cases hm : m = a
   ·subst hm; simp at hg';obtain ⟨kt₀, es₀, v₀, h1, h2⟩ := hver kt es' v' hg'
    exact ⟨kt₀, es₀, v₀, h1 ▸ h₀, by omega, fun hv => by omega⟩
   ·rw [if_neg hm] at hg';exact ⟨kt, es', v', hg', nl, fun _ => ⟨rfl, fun c' o' hc => hoth m c' o' hm hc⟩⟩
 ·rw [An];rw [Sto.get_set] at hg
  by_cases hb : b = a
  ·subst hb; exact h.bound b O₀ h₀
  ·rw [if_neg hb] at hg; exact h.bound b X hg
 ·rw [Sto.get_set]
  by_cases hb : b = a
  ·rw [if_pos hb]; exact ⟨O, rfl, hO⟩
  ·rw [if_neg hb]; exact h.dom b q hq
theorem Sim.kill (h : Sim P C w σ) (a : Nat) : Sim P (C.del a) w (σ.kill a) /\ Ext C (nx σ) w (C.del a) (nx σ) w := by
 have hloc : ∀ b p, (C.del a).loc b = some p -> b ≠ a /\ C.loc b = some p := fun b p hp => by
  by_cases hb : b = a
  ·simp [Ctx.del, hb] at hp
  ·simp [Ctx.del, hb] at hp; exact ⟨hb, hp⟩
 have e : Ext C (nx σ) w (C.del a) (nx σ) w := ⟨nl, nl, fun b _ ho => ⟨fun hh => hh.elim (fun hr => ho (.inl hr)) fun ⟨x, o, hx⟩ => ho (.inr ⟨x, o, (hloc x _ hx).2⟩), rfl⟩,
  fun b _ p hp => (hloc b p hp).2, fun _ _ => rfl, fun _ _ => rfl, fun _ _ _ _ _ => rfl, ⟨rfl, fun _ _ => rfl⟩, rfl, rfl⟩
 refine ⟨⟨fun b X hg => ?_, fun b X hg => ?_, fun b q hq => ?_, fun x y c o o' hx hy => h.inj x y c o o' (hloc x _ hx).2 (hloc y _ hy).2, fun x c o hx => h.lt x c o (hloc x _ hx).2, h.rlt, fun x c o hx => h.rdis x c o (hloc x _ hx).2⟩, e⟩
 ·rw [Sto.get_kill] at hg
  by_cases hb : b = a
  ·rw [if_pos hb] at hg; cases hg
  ·rw [if_neg hb] at hg
   refine (h.obj b X hg).ext (by rw [Ck]; exact e) (h.bound b X hg) (by simp [Ctx.del, hb]) (fun _ _ _ => rfl) fun m _ kt es' v' hg' => ?_
   rw [Sto.get_kill] at hg'
   by_cases hm : m = a
   ·rw [if_pos hm] at hg'; cases hg'
   ·rw [if_neg hm] at hg'; exact ⟨kt, es', v', hg', nl, fun _ => ⟨by simp [Ctx.del, hm], fun _ _ _ => rfl⟩⟩
 ·rw [Ck];rw [Sto.get_kill] at hg
  by_cases hb : b = a
  ·rw [if_pos hb] at hg; cases hg
  ·rw [if_neg hb] at hg; exact h.bound b X hg
 ·obtain ⟨hb, hq'⟩ := hloc b q hq;rw [Sto.get_kill, if_neg hb]; exact h.dom b q hq'
theorem Sim.replace (h : Sim P C w σ) {a c o o' : Nat} {B : Obj} (hl : C.loc a = some (c, o)) (p : Wr w w' c B) {O₀ : AO} (h₀ : σ.get a = some O₀)
  (O : AO) (hO : V9 O = false)
  (hrel : Ext C (nx σ) w ((C.del a).add (nx σ) c o') (nx σ + 1) w' -> OR P ((C.del a).add (nx σ) c o') w' ((σ.kill a).new O) (nx σ) O) :
  Sim P ((C.del a).add (nx σ) c o') w' ((σ.kill a).new O) /\ Ext C (nx σ) w ((C.del a).add (nx σ) c o') (nx σ + 1) w' := by
 have han : a < nx σ := h.bound a O₀ h₀;have hoth : ∀ b c' o', b ≠ a -> C.loc b = some (c', o') -> w'.heap[c']? = w.heap[c']? := fun b c' o' hb hc => p.other c' (fun hcc => hb (h.inj b a c' o' o hc (hcc ▸ hl)))
 have hloc : ∀ b q, ((C.del a).add (nx σ) c o').loc b = some q -> (b = nx σ /\ q = (c, o')) ∨ (b ≠ nx σ /\ b ≠ a /\ C.loc b = some q) := fun b q hq => by
  by_cases hb : b = nx σ
  ·simp [Ctx.add, hb] at hq; exact .inl ⟨hb, hq.symm⟩
  ·by_cases hb' : b = a
   ·simp [Ctx.add, Ctx.del, hb, hb'] at hq; omega
   ·simp [Ctx.add, Ctx.del, hb, hb'] at hq; exact .inr ⟨hb, hb', hq⟩
 have hlocEq : ∀ b, b < nx σ -> b ≠ a -> ((C.del a).add (nx σ) c o').loc b = C.loc b := fun b hb hb' => by simp [Ctx.add, Ctx.del, hb', show ¬ b = nx σ by omega]
 have hget : ∀ b X, ((σ.kill a).new O).get b = some X -> (b = nx σ /\ X = O) ∨ (b ≠ nx σ /\ b ≠ a /\ σ.get b = some X) := fun b X hg => by
  rw [Sto.get_new, Ck] at hg
  by_cases hb : b = nx σ
  ·rw [if_pos hb] at hg; cases hg; exact .inl ⟨hb, rfl⟩
  ·rw [if_neg hb, Sto.get_kill] at hg
   by_cases hb' : b = a
   ·rw [if_pos hb'] at hg; cases hg
   ·rw [if_neg hb'] at hg; exact .inr ⟨hb, hb', hg⟩
 have e : Ext C (nx σ) w ((C.del a).add (nx σ) c o') (nx σ + 1) w' := ⟨by omega, by rw [p.size]; exact nl,
  fun b _ ho => ⟨fun hh => hh.elim (fun hr => ho (.inl hr)) fun ⟨x, y, hxy⟩ => by
   rcases hloc x _ hxy with ⟨_, hq⟩ | ⟨_, _, hq⟩
   ·cases hq; exact ho (.inr ⟨a, o, hl⟩)
   ·exact ho (.inr ⟨x, y, hq⟩), p.other b (fun hb => ho (.inr (hb ▸ ⟨a, o, hl⟩)))⟩,
  fun b hb q hq => by
   rcases hloc b q hq with ⟨h1, _⟩ | ⟨_, _, h2⟩
   ·omega
   ·exact h2, fun _ _ => rfl, fun _ _ => rfl,
  fun b hb c' y hc => by
   rcases hloc b _ hc with ⟨h1, _⟩ | ⟨_, h2, h3⟩
   ·omega
   ·unfold csize; rw [hoth b c' y h2 h3], ⟨rfl, fun b hb => p.other b (fun hbc => h.rdis a c o hl (hbc ▸ hb))⟩, p.os⟩
 have hnx : nx ((σ.kill a).new O) = nx σ + 1 := by rw [Ap, Ck]
 refine ⟨⟨fun b X hg => ?_, fun b X hg => ?_, fun b q hq => ?_, fun x y c' y1 y2 hx hy => ?_, fun x c' y hx => ?_, fun b hb => by rw [p.size]; exact h.rlt b hb, fun x c' y hx => ?_⟩, e⟩
 ·rcases hget b X hg with ⟨h1, h2⟩ | ⟨h1, h2, h3⟩
  ·subst h1; subst h2; exact hrel e
  ·have hlt := h.bound b X h3
   refine (h.obj b X h3).ext (by rw [hnx]; exact e) hlt (hlocEq b hlt h2) (fun c' y hc => hoth b c' y h2 hc) fun m hm kt es' v' hg' => ?_
   rcases hget m _ hg' with ⟨k1, _⟩ | ⟨_, k2, k3⟩
   ·omega
   ·exact ⟨kt, es', v', k3, nl, fun _ => ⟨hlocEq m hm k2, fun c' y hc => hoth m c' y k2 hc⟩⟩
 ·rw [hnx]
  rcases hget b X hg with ⟨h1, _⟩ | ⟨_, _, h3⟩
  ·omega
  ·have := h.bound b X h3; omega
 ·rcases hloc b q hq with ⟨h1, _⟩ | ⟨h1, h2, h3⟩
  ·subst h1; exact ⟨O, by rw [Sto.get_new, Ck, if_pos rfl], hO⟩
  ·obtain ⟨X, k1, k2⟩ := h.dom b q h3
   exact ⟨X, by rw [Sto.get_new, Ck, if_neg h1, Sto.get_kill, if_neg h2]; exact k1, k2⟩
 ·rcases hloc x _ hx with ⟨h1, h2⟩ | ⟨h1, h2, h3⟩ <;> rcases hloc y _ hy with ⟨k1, k2⟩ | ⟨k1, k2, k3⟩
  ·omega
  ·cases h2; exact absurd (h.inj y a _ _ _ k3 hl) k2
  ·cases k2; exact absurd (h.inj x a _ _ _ h3 hl) h2
  ·exact h.inj x y c' y1 y2 h3 k3
 ·rw [p.size]
  rcases hloc x _ hx with ⟨_, h2⟩ | ⟨_, _, h3⟩
  ·cases h2; exact h.lt a c o hl
  ·exact h.lt x c' y h3
 ·rcases hloc x _ hx with ⟨_, h2⟩ | ⟨_, _, h3⟩
  ·cases h2; exact h.rdis a c o hl
  ·exact h.rdis x c' y h3
theorem Sim.newStamp (h : Sim P C w σ) (n : Int) (m ver : Nat) (k : Key) (hm : m < nx σ) (hrel : ∀ kt es ver', σ.get m = some (.map kt es ver') -> ver <= ver' /\ (ver = ver' -> ∃ cm E clock, C.loc m = some (cm, 0) /\ w.heap[cm]? = some (.map E clock) /\
        ∃ e ∈ E.toList, KV k e.key /\ n = e.born)) :
    Sim P (C.addStm (nx σ) n) w (σ.new (.stamp m ver k)) /\ Ext C (nx σ) w (C.addStm (nx σ) n) (nx σ + 1) w := by
  have hne : ∀ {a}, a < nx σ -> ¬ a = nx σ := fun h => by omega
  have e : Ext C (nx σ) w (C.addStm (nx σ) n) (nx σ + 1) w := ⟨by omega, nl, fun b _ ho => ⟨ho, rfl⟩, fun _ _ _ h => h,
    fun a ha => by simp [Ctx.addStm, hne ha], fun _ _ => rfl, fun _ _ _ _ _ => rfl, ⟨rfl, fun _ _ => rfl⟩, rfl, rfl⟩
  refine ⟨⟨fun a X hg => ?_, fun a X hg => ?_, fun a q hq => ?_, h.inj, h.lt, h.rlt, h.rdis⟩, e⟩
  · rw [Sto.get_new] at hg
    by_cases ha : a = nx σ
    · subst ha; simp at hg; subst hg
      refine ⟨by rw [Ap]; omega, fun kt es ver' hg' => ?_⟩
      rw [Sto.get_new, if_neg (hne hm)] at hg';obtain ⟨h1, h2⟩ := hrel kt es ver' hg';refine ⟨h1, fun hv => ?_⟩
      obtain ⟨cm, E, clock, q1, q2, f, f1, f2, f3⟩ := h2 hv
      exact ⟨cm, E, clock, q1, q2, f, f1, f2, by simp [Ctx.addStm, f3]⟩
    · rw [if_neg ha] at hg
      refine (h.obj a X hg).ext (by rw [Ap]; exact e) (h.bound a X hg) rfl (fun _ _ _ => rfl) fun x hx kt es' v' hg' => ?_
      rw [Sto.get_new, if_neg (hne hx)] at hg';exact ⟨kt, es', v', hg', nl, fun _ => ⟨rfl, fun _ _ _ => rfl⟩⟩
  · rw [Ap]
    rw [Sto.get_new] at hg
    by_cases ha : a = nx σ
    · omega
    · rw [if_neg ha] at hg; have := h.bound a X hg; omega
  · obtain ⟨X, h1, h2⟩ := h.dom a q hq
    have := h.bound a X h1
    exact ⟨X, by rw [Sto.get_new, if_neg (by omega)]; exact h1, h2⟩
end
theorem Fo (c o n : Nat) : (⟨c, o, none⟩ : Addr).add n = ⟨c, o + n, none⟩ := by
 unfold Addr.add; split <;> simp_all
section
variable {P : Program} {C : Ctx} {N : Nat} {w : World}
theorem Ky : ∀ (cs : List AV) (c o i : Nat) (acc : Array Value), RC C N w c cs (o + i) ->
  ∃ l, (loadCellsFrom ⟨c, o, none⟩ i cs.length acc).run P w = .ok (acc ++ l.toArray) w /\ RL C N w cs l /\ ∀ x ∈ l, x.oneCell = true
 | [], c, o, i, acc, _ => ⟨[], by simp [loadCellsFrom], by unfold RL; trivial, by simp⟩
 | x :: r, c, o, i, acc, h => by
  unfold RC at h;obtain ⟨⟨v, h1, h2, h3⟩, h4⟩ := h;obtain ⟨l, k1, k2, k3⟩ := Ky r c o (i + 1) (acc.push v) h4
  refine ⟨v :: l, ?_, by unfold RL; exact ⟨h3, k2⟩, by simpa [h2] using k3⟩
  simp only [List.length_cons, loadCellsFrom, Sem.run_bind, run_load, Fo, h1, Result.andThen_ok, k1]
  simp
theorem Zg {cs : List AV} {c o : Nat} (h : RC C N w c cs o) :
  ∃ a, (loadCells ⟨c, o, none⟩ cs.length).run P w = .ok a w /\ RL C N w cs a.toList /\ ∀ x ∈ a.toList, x.oneCell = true := by
 obtain ⟨l, h1, h2, h3⟩ := Ky (P := P) cs c o 0 #[] h
 exact ⟨l.toArray, by simpa [loadCells] using h1, by simpa using h2, by simpa using h3⟩
def T6 : Array Value -> Nat -> List Value -> Array Value
 | cs, _, [] => cs
 | cs, k, v :: r => T6 (cs.setIfInBounds k v) (k + 1) r
theorem Lv : ∀ (l : List Value) (cs : Array Value) (k : Nat), (T6 cs k l).size = cs.size
 | [], _, _ => rfl
 | v :: r, cs, k => by simp [T6, Lv r]
theorem Nq : ∀ (l : List Value) (cs : Array Value) (k : Nat), k + l.length <= cs.size -> ∀ j, (T6 cs k l)[j]? = if k <= j /\ j < k + l.length then l[j - k]? else cs[j]?
 | [], cs, k, _, j => by simp [T6]; omega
 | v :: r, cs, k, h, j => by
  simp only [List.length_cons] at h
  rw [T6, Nq r _ _ (by simp; omega)]
  by_cases h1 : k + 1 <= j /\ j < k + 1 + r.length
  ·rw [if_pos h1, if_pos (by simp; omega), show j - k = (j - (k + 1)) + 1 by omega]; rfl
  ·rw [if_neg h1]
   by_cases h2 : j = k
   ·subst h2; rw [if_pos (by simp), Array.getElem?_setIfInBounds_self_of_lt (by omega)]; simp
   ·rw [if_neg (by simp; omega), Array.getElem?_setIfInBounds_ne (by omega)]
theorem Af8 (v : Value) : v.oneCell' = v.oneCell := by cases v <;> rfl
theorem J0 : ∀ (l : List Value) (w : World) (c o i : Nat) (cs : Array Value) (T : TypeId), w.heap[c]? = some (.cells cs T (0, 0)) ->
  (∀ x ∈ l, x.oneCell = true) -> o + i + l.length <= cs.size -> ∃ w', (storeCells ⟨c, o, none⟩ l i).run P w = .ok () w' /\ Wr w w' c (.cells (T6 cs (o + i) l) T (0, 0))
 | [], w, c, o, i, cs, T, h, _, _ => ⟨w, by simp [storeCells], ⟨rfl, h, fun _ _ => rfl, rfl, rfl⟩⟩
 | v :: r, w, c, o, i, cs, T, h, h1, h2 => by
  simp only [List.length_cons] at h2
  have hcell : w.cell? ⟨c, o + i, none⟩ = some cs[o + i] := by
   unfold World.cell?; simp only [h]; simp
  have hfr : w.frozen? ⟨c, o + i, none⟩ = false := by unfold World.frozen?; simp [h]
  have hw1 : (w.setCell ⟨c, o + i, none⟩ v).heap[c]? = some (.cells (cs.setIfInBounds (o + i) v) T (0, 0)) := by
   simp only [World.setCell, Array.getElem?_modify, if_true]; simp [h]
  obtain ⟨w', k1, k2⟩ := J0 r (w.setCell ⟨c, o + i, none⟩ v) c o (i + 1) (cs.setIfInBounds (o + i) v) T hw1 (fun x hx => h1 x (by simp [hx])) (by simp; omega)
  refine ⟨w', ?_, ?_⟩
  ·have hv : v.oneCell' = true := by rw [Af8]; exact h1 v (by simp)
   simp only [storeCells, Sem.run_bind, Fo, run_store P w _ v _ hv, hcell, hfr, Bool.false_eq_true, if_false, Result.andThen_ok];exact k1
  ·refine ⟨by rw [k2.size]; simp [World.setCell], ?_, fun b hb => ?_, k2.os⟩
   ·rw [k2.here, T6, show o + i + 1 = o + (i + 1) by omega]
   ·rw [k2.other b hb];simp only [World.setCell, Array.getElem?_modify];rw [if_neg (fun h => hb h.symm)]
end
def Runs {α : Type} (P : Program) (C : Ctx) (w : World) (σ : Sto) (s : Sem α) (ok : α -> Value -> Prop) (v : AV) (σ' : Sto) : Prop :=
 ∃ y x w' C', s.run P w = .ok y w' /\ ok y x /\ Sim P C' w' σ' /\ Ext C (nx σ) w C' (nx σ') w' /\ R C' (nx σ') w' v x
abbrev Hl (P : Program) (C : Ctx) (w : World) (σ : Sto) (s : Sem Value) (v : AV) (σ' : Sto) : Prop := Runs P C w σ s (fun y x => y = x) v σ'
section
variable {P : Program} {C : Ctx} {w : World} {σ σ' : Sto}
theorem Az {t : TypeId} {ti : TI} (h : Bi P t = some ti) : ∃ i d, P.info? t = some i /\ P.underlying t = some d /\ ti.desc = d /\ ti.size = i.size /\ ti.bytes = i.bytes /\ ti.zero = Ah1 (Qt d) i.zero /\ ti.isAgg = Qt d := by
 unfold Bi at h
 split at h
 ·rename_i i d hi hd; simp at h; subst h; exact ⟨i, d, hi, hd, rfl, rfl, rfl, rfl, rfl⟩
 ·cases h
theorem Af {t : TypeId} {d : TypeDesc} (h : P.underlying t = some d) (w : World) : (underlying t).run P w = .ok d w := by
 unfold underlying; simp [h]
theorem Cy {t : TypeId} {i : TypeInfo} (h : P.info? t = some i) (w : World) : (typeInfo t).run P w = .ok i w := by
 unfold typeInfo; simp [h]
theorem Bh {t : TypeId} {i : TypeInfo} (h : P.info? t = some i) (w : World) : (sizeOf t).run P w = .ok i.size w := by
 unfold sizeOf; simp [Cy h]
theorem Ig {t : TypeId} {d : TypeDesc} (h : P.underlying t = some d) (w : World) : (isAgg t).run P w = .ok (Qt d) w := by
 unfold isAgg; simp only [Sem.run_bind, Af h, Result.andThen_ok]; cases d <;> rfl
theorem Qh {v : Value} (h : Abu v = true) : v.oneCell = true := by
 cases v <;> first | rfl | (simp [Abu, Ux] at h)
theorem Zh {v : Value} (h : Ux v = true) : v.oneCell = true := by
 cases v <;> first | rfl | (simp [Ux] at h)
theorem R.oneCell {N : Nat} {x : AV} {v : Value} (h : R C N w x v) (h1 : x ≠ .any) (h2 : ∀ l, x ≠ .agg l) (h3 : ∀ l, x ≠ .tup l) : v.oneCell = true := by
 cases x <;> unfold R at h
 case any => exact absurd rfl h1
 case bool => subst h; rfl
 case int => subst h; rfl
 case str => obtain ⟨s, rfl, _⟩ := h; rfl
 case nil => obtain ⟨rfl, h⟩ := h; exact Zh h
 case pr => obtain ⟨ad, rfl, _⟩ := h; rfl
 case pv => obtain ⟨c, o, rfl, _⟩ := h; rfl
 case sr => obtain ⟨ad, k, rfl, _⟩ := h; rfl
 case sv => obtain ⟨ad, k, rfl, _⟩ := h; rfl
 case mp => obtain ⟨c, rfl, _⟩ := h; rfl
 case it => obtain ⟨c, rfl, _⟩ := h; rfl
 case stp => obtain ⟨rfl, _⟩ := h; rfl
 case yl => obtain ⟨rfl, _⟩ := h; rfl
 case flt => subst h; rfl
 case fn => obtain ⟨a, b, rfl, _⟩ := h; rfl
 case ifc => obtain ⟨y, rfl, _⟩ := h; rfl
 case agg l => exact absurd rfl (h2 l)
 case tup l => exact absurd rfl (h3 l)
theorem Lw {v : Value} (h : v.oneCell = true) : v.cells = #[v] := by
 cases v <;> first | rfl | (simp [Value.oneCell] at h)
theorem Hm {N : Nat} {x : AV} {n : Nat} {l : List AV} {v : Value} (h : x.cellsN n = some l) (hr : R C N w x v) :
  RL C N w l v.cells.toList /\ v.cells.size = n /\ l.length = n /\ ∀ y ∈ v.cells.toList, y.oneCell = true := by
 have one : x ≠ .any -> (∀ l, x ≠ .agg l) -> (∀ l, x ≠ .tup l) -> cond (Nat.beq n 1) (some [x]) none = some l ->
   RL C N w l v.cells.toList /\ v.cells.size = n /\ l.length = n /\ ∀ y ∈ v.cells.toList, y.oneCell = true := by
  intro h1 h2 h3 h4;have hv := hr.oneCell h1 h2 h3
  have hn : n = 1 := by
   by_cases hn : n = 1
   ·exact hn
   ·have : Nat.beq n 1 = false := by rw [Bool.eq_false_iff]; intro hb; exact hn (Nat.eq_of_beq_eq_true hb)
    simp [this] at h4
  subst hn
  simp at h4
  subst h4;rw [Lw hv]
  refine ⟨by simp only [RL]; exact ⟨hr, trivial⟩, rfl, rfl, by simpa using hv⟩
 cases x <;> simp only [AV.cellsN] at h
 case any => cases h
 case tup => cases h
 case agg cs =>
  unfold R at hr;obtain ⟨a, rfl, h1, h2⟩ := hr
  have hn : cs.length = n := by
   by_cases hn : cs.length = n
   ·exact hn
   ·have : Nat.beq cs.length n = false := by rw [Bool.eq_false_iff]; intro hb; exact hn (Nat.eq_of_beq_eq_true hb)
    simp [this] at h
  simp [hn] at h
  subst h;have := h1.length
  exact ⟨h1, by simp [Value.cells]; rw [← hn, this]; simp, hn, h2⟩
 all_goals exact one (by intro h; cases h) (by intro l h; cases h) (by intro l h; cases h) h
theorem Z4 {β : Type} : ∀ (l : List Nat) (k : List Nat -> β), Abt l k = k l
 | [], k => rfl
 | x :: r, k => by simp only [Abt, Au, Z4 r]
theorem J1 {N : Nat} (v : Value) : R C N w (Ajv v) v := by
 unfold Ajv
 split
 ·unfold R; rfl
 ·unfold R; rfl
 ·rw [Au]; unfold R; rfl
 ·unfold R; rfl
 ·rw [Z4]; unfold R; exact ⟨_, rfl, rfl⟩
 ·rw [Au]; unfold R; rfl
 ·cases h : Ux v
  ·simp only [cond_false]; unfold R; trivial
  ·simp only [cond_true]; unfold R; exact ⟨rfl, h⟩
theorem Mh {N : Nat} : ∀ (l : List Value), RL C N w (Af3 l) l
 | [] => by unfold Af3 RL; trivial
 | v :: r => by unfold Af3 RL; exact ⟨J1 v, Mh r⟩
theorem Nr : ∀ {l : List Value}, Ow l = true -> ∀ x ∈ l, x.oneCell = true
 | [], _, x, hx => by simp at hx
 | v :: r, h, x, hx => by
  simp only [Ow, Bool.and_eq_true] at h
  rcases List.mem_cons.1 hx with rfl | hx
  ·exact Qh h.1
  ·exact Nr h.2 x hx
theorem E6 {b : Bool} {z : Option Value} {l : List AV} (h : Ah1 b z = some l) {N : Nat} : ∃ v, z = some v /\ RL C N w l v.cells.toList /\ (∀ x ∈ v.cells.toList, x.oneCell = true) /\
  (b = true -> ∃ a, v = .agg a) /\ (b = false -> ∃ u, l = [u] /\ R C N w u v) := by
 unfold Ah1 at h
 split at h
 ·rename_i v
  split at h
  ·rename_i cs
   split at h
   ·rename_i hp
    simp only [Bool.and_eq_true] at hp;cases h
    exact ⟨.agg cs, rfl, Mh _, Nr hp.2, fun _ => ⟨cs, rfl⟩, fun hb => by rw [hb] at hp; cases hp.1⟩
   ·cases h
  ·rename_i hna
   split at h
   ·rename_i hp
    simp only [Bool.and_eq_true, Bool.not_eq_true'] at hp;cases h;have h1 := Qh hp.2;refine ⟨v, rfl, ?_⟩;rw [Lw h1]
    exact ⟨(by unfold RL; exact ⟨J1 v, by unfold RL; trivial⟩), (by simpa using h1), (fun hb => by rw [hb] at hp; cases hp.1), fun _ => ⟨_, rfl, J1 v⟩⟩
   ·cases h
 ·cases h
end
section
variable {C : Ctx} {N : Nat} {w : World}
theorem Ajw (v : Value) : R C N w (ofV v) v := by
 unfold ofV
 split
 ·rename_i cs
  cases h : Ow cs.toList
  ·simp only [cond_false]; unfold R; trivial
  ·simp only [cond_true]; unfold R; exact ⟨cs, rfl, Mh _, Nr h⟩
 ·unfold R; exact ⟨_, rfl, Mh _⟩
 ·unfold R; exact ⟨_, rfl, J1 _⟩
 ·rename_i f a b
  cases h : (a.isEmpty && b.isEmpty)
  ·simp only [cond_false]; unfold R; trivial
  ·simp only [cond_true]
   simp at h
   unfold R
   exact ⟨a, b, rfl, by rw [h.1]; unfold RL; trivial, by rw [h.2]; unfold RL; trivial⟩
 ·exact J1 v
end
def TR (C : Ctx) (N : Nat) (w : World) (tm : Tr AV) (tmps : Array Value) : Prop := ∀ i v, tm.get i = some v -> R C N w v (tmps.getD i undef)
def Fv (C : Ctx) (N : Nat) (w : World) (E : Env) : Prop := (∀ g cs, E.gl g = some cs -> R C N w (.pv cs) (.pointer (some ⟨g, 0, none⟩))) /\
 ∀ c P, E.hold c = some P -> ¬ C.own c /\ ∃ cs T fz, w.heap[c]? = some (.cells cs T fz) /\ P cs
section
variable {E : Env} {C C' : Ctx} {N N' : Nat} {w w' : World} {tm : Tr AV} {a : Act}
theorem TR.ext {tmps : Array Value} (h : TR C N w tm tmps) (e : Ext C N w C' N' w') : TR C' N' w' tm tmps := fun i v hv => R.ext e _ _ (h i v hv)
theorem Fv.ext (h : Fv C N w E) (e : Ext C N w C' N' w') : Fv C' N' w' E := by
 refine ⟨fun g cs hg => R.ext e _ _ (h.1 g cs hg), fun c P hc => ?_⟩
 obtain ⟨h1, cs, T, fz, h2, h3⟩ := h.2 c P hc;obtain ⟨k1, k2⟩ := e.keep c (Array.getElem?_eq_some_iff.1 h2).1 h1;exact ⟨k1, cs, T, fz, k2.trans h2, h3⟩
theorem B4 (hg : Fv C N w E) (ht : TR C N w tm a.tmps) (x : Operand) : R C N w (opd E tm x) (a.eval x) := by
 cases x with
 | tmp t =>
  simp only [opd, Act.eval]
  split
  ·rename_i v hv; exact ht t v hv
  ·unfold R; trivial
 | const v => exact Ajw v
 | global g =>
  simp only [opd, Act.eval]
  split
  ·rename_i cs hc; exact hg.1 g cs hc
  ·unfold R; trivial
 | func f =>
  simp only [opd, Act.eval];unfold R
  exact ⟨#[], #[], rfl, by unfold RL; trivial, by unfold RL; trivial⟩
theorem D7 (hg : Fv C N w E) (ht : TR C N w tm a.tmps) : ∀ (l : List Operand), RL C N w (opds E tm l) (l.map a.eval)
 | [] => by simp only [opds, List.map_nil]; unfold RL; trivial
 | x :: r => by simp only [opds, List.map_cons]; unfold RL; exact ⟨B4 hg ht x, D7 hg ht r⟩
end
theorem Ih (a b : Int) : Wq a b = (a == b) := by
 cases a <;> cases b <;> simp only [Wq]
 ·rename_i m n
  by_cases h : m = n
  ·subst h; simp
  ·have : Nat.beq m n = false := by rw [Bool.eq_false_iff]; intro hb; exact h (Nat.eq_of_beq_eq_true hb)
   rw [this]; symm; simp; omega
 ·rfl
 ·rfl
 ·rename_i m n
  by_cases h : m = n
  ·subst h; simp
  ·have : Nat.beq m n = false := by rw [Bool.eq_false_iff]; intro hb; exact h (Nat.eq_of_beq_eq_true hb)
   rw [this]; symm; simp; omega
theorem Eu (a b : Int) : R8 a b = decide (a <= b) := by
 cases a <;> cases b <;> simp only [R8]
 ·rename_i m n
  rw [Bool.eq_iff_iff, Nat.ble_eq, decide_eq_true_iff]; simp
 ·rename_i m n; symm; simp; omega
 ·rename_i m n; symm; simp; omega
 ·rename_i m n
  rw [Bool.eq_iff_iff, Nat.ble_eq, decide_eq_true_iff]; omega
theorem J2 (a b : IntKind) : Id a b = true ↔ a = b := by cases a <;> cases b <;> simp [Id]
theorem Aqn {a b : Nat} (h : a ≠ b) : Nat.beq a b = false := by
 rw [Bool.eq_false_iff]; intro hb; exact h (Nat.eq_of_beq_eq_true hb)
theorem Ns (k : IntKind) (n : Int) (h : Mb k n = true) : k.wrap n = n := by
 cases n with
 | ofNat m =>
  have e : Int.ofNat m = (m : Int) := rfl;rw [e];cases k
  ·have h' : m <= 127 := Nat.le_of_ble_eq_true h; exact IntWalk.i8_in _ ⟨by omega, by omega⟩
  ·have h' : m <= 32767 := Nat.le_of_ble_eq_true h; exact IntWalk.i16_in _ ⟨by omega, by omega⟩
  ·have h' : m <= 2147483647 := Nat.le_of_ble_eq_true h; exact IntWalk.i32_in _ ⟨by omega, by omega⟩
  ·have h' : m <= 9223372036854775807 := Nat.le_of_ble_eq_true h; exact IntWalk.i64_in _ ⟨by omega, by omega⟩
  ·have h' : m <= 255 := Nat.le_of_ble_eq_true h; exact IntWalk.u8_in _ ⟨by omega, by omega⟩
  ·have h' : m <= 65535 := Nat.le_of_ble_eq_true h; exact IntWalk.u16_in _ ⟨by omega, by omega⟩
  ·have h' : m <= 4294967295 := Nat.le_of_ble_eq_true h; exact IntWalk.u32_in _ ⟨by omega, by omega⟩
  ·have h' : m <= 18446744073709551615 := Nat.le_of_ble_eq_true h; exact IntWalk.u64_in _ ⟨by omega, by omega⟩
 | negSucc m =>
  have e : Int.negSucc m = -((m : Int) + 1) := by omega
  cases k
  ·have h' : m <= 127 := Nat.le_of_ble_eq_true h; rw [e]; exact IntWalk.i8_in _ ⟨by omega, by omega⟩
  ·have h' : m <= 32767 := Nat.le_of_ble_eq_true h; rw [e]; exact IntWalk.i16_in _ ⟨by omega, by omega⟩
  ·have h' : m <= 2147483647 := Nat.le_of_ble_eq_true h; rw [e]; exact IntWalk.i32_in _ ⟨by omega, by omega⟩
  ·have h' : m <= 9223372036854775807 := Nat.le_of_ble_eq_true h; rw [e]; exact IntWalk.i64_in _ ⟨by omega, by omega⟩
  all_goals (cases h)
theorem Lx (k : IntKind) (n : Int) : Nd k n = .int k (k.wrap n) := by
 have key : ∀ m : Int, cond (Mb k m) (AV.int k m) (.int k (k.wrap m)) = .int k (k.wrap m) := fun m => by
  cases h : Mb k m
  ·rfl
  ·simp [Ns k m h]
 cases n <;> simp only [Nd, Au] <;> exact key _
theorem Ajx (a b : Int) : Af4 a b = a + b := by cases a <;> cases b <;> rfl
theorem T7 (a b : Int) : Abv a b = a - b := by
 cases a with
 | ofNat m => cases b with
  | ofNat n =>
   simp only [Abv];cases h : Nat.ble n m
   ·rfl
   ·simp only [cond_true]; have : n <= m := by simpa using h
    simp; omega
  | negSucc n => rfl
 | negSucc m => cases b <;> rfl
theorem Uy {a b : ByteArray} (h : Ca a = Ca b) : a = b := by
 unfold Ca at h
 have h1 : a.data.toList = b.data.toList := by
  have key : ∀ (l m : List UInt8), l.map UInt8.toNat = m.map UInt8.toNat -> l = m := by
   intro l
   induction l with
   | nil => intro m h; cases m with
    | nil => rfl
    | cons => simp at h
   | cons x r ih => intro m h; cases m with
    | nil => simp at h
    | cons y s => simp only [List.map_cons, List.cons.injEq] at h; rw [UInt8.toNat_inj.1 h.1, ih s h.2]
  exact key _ _ h
 cases a; cases b; simp at h1; simp [h1]
theorem Fw : ∀ (a b : List Nat), Ft a b = true ↔ a = b
 | [], [] => by simp [Ft]
 | [], _ :: _ => by simp [Ft]
 | _ :: _, [] => by simp [Ft]
 | x :: r, y :: s => by
  simp only [Ft]
  by_cases h : x = y
  ·subst h; simp [Fw r s]
  ·have : Nat.beq x y = false := by rw [Bool.eq_false_iff]; intro hb; exact h (Nat.eq_of_beq_eq_true hb)
   simp [this, h]
theorem J3 (a b : ByteArray) : Ft (Ca a) (Ca b) = (a.toList == b.toList) := by
 rw [Bool.eq_iff_iff, Fw];simp only [Go.ByteArray.toList_eq, beq_iff_eq]
 constructor
 ·intro h; rw [Uy h]
 ·intro h; unfold Ca; rw [h]
theorem W4 : ∀ (a b : List UInt8), Di (a.map UInt8.toNat) (b.map UInt8.toNat) = Op.bytesLess a b
 | _, [] => by cases ‹List UInt8› <;> simp [Di, Op.bytesLess]
 | [], _ :: _ => by simp [Di, Op.bytesLess]
 | x :: r, y :: s => by
  simp only [List.map_cons, Di, Op.bytesLess, W4 r s]
  by_cases h : x < y
  ·have : Nat.blt x.toNat y.toNat = true := by simp [Nat.blt]; exact UInt8.lt_iff_toNat_lt.1 h
   simp [this, h]
  ·have h1 : Nat.blt x.toNat y.toNat = false := by
    rw [Bool.eq_false_iff]; intro hb
    have : x.toNat < y.toNat := by simp [Nat.blt] at hb; exact hb
    exact h (UInt8.lt_iff_toNat_lt.2 this)
   by_cases h2 : x = y
   ·subst h2; simp [h1, h]
   ·have : Nat.beq x.toNat y.toNat = false := by rw [Bool.eq_false_iff]; intro hb; exact h2 (UInt8.toNat_inj.1 (Nat.eq_of_beq_eq_true hb))
    simp [h1, h, this, h2]
theorem W5 (a b : ByteArray) : Ca (a ++ b) = Ca a ++ Ca b := by
 unfold Ca; simp
theorem Ev (a : ByteArray) : (Ca a).length = a.size := by unfold Ca; simp
section
variable {P : Program} {C : Ctx} {N : Nat} {w : World}
theorem Ah5 (a b : Int) : (!decide (b <= a)) = decide (a < b) := by
 rw [Bool.eq_iff_iff]; simp
theorem Adt {op : BinOp} {k : IntKind} {a b : Int} {v : AV} (h : Hi op k a b = some v) (t : TypeId) : ∃ x, (binOp op t (.int k a) (.int k b)).run P w = .ok x w /\ R C N w v x := by
 cases op <;> simp only [Hi] at h
 case add => cases h; exact ⟨_, by simp only [binOp]; simp [Op.intArith]; rfl, by rw [Lx, Ajx]; unfold R; rfl⟩
 case sub => cases h; exact ⟨_, by simp only [binOp]; simp [Op.intArith]; rfl, by rw [Lx, T7]; unfold R; rfl⟩
 case mul => cases h; exact ⟨_, by simp only [binOp]; simp [Op.intArith]; rfl, by rw [Lx]; unfold R; rfl⟩
 case eql => cases h; exact ⟨_, by simp only [binOp]; simp [Op.intCmp]; rfl, by unfold R; rw [Ih]⟩
 case neq => cases h; exact ⟨_, by simp only [binOp]; simp [Op.intCmp]; rfl, by unfold R; rw [Ih]; rfl⟩
 case lss => cases h; exact ⟨_, by simp only [binOp]; simp [Op.intCmp]; rfl, by unfold R; rw [Eu, Ah5]⟩
 case leq => cases h; exact ⟨_, by simp only [binOp]; simp [Op.intCmp]; rfl, by unfold R; rw [Eu]⟩
 case gtr => cases h; exact ⟨_, by simp only [binOp]; simp [Op.intCmp]; rfl, by unfold R; rw [Eu, Ah5]⟩
 case geq => cases h; exact ⟨_, by simp only [binOp]; simp [Op.intCmp]; rfl, by unfold R; rw [Eu]⟩
 case quo =>
  split at h
  ·rename_i a b
   cases h
   refine ⟨_, by simp only [binOp]; simp [Op.intDiv]; rfl, ?_⟩
   rw [Lx]; unfold R; rfl
  ·cases h
 case rem =>
  split at h
  ·rename_i a b
   rw [Au] at h;cases h
   exact ⟨_, by simp only [binOp]; simp [Op.intDiv]; rfl, by unfold R; rfl⟩
  ·cases h
 all_goals (cases h)
end
section
variable {P : Program} {C : Ctx} {N : Nat} {w : World}
theorem Mi {t : TypeId} {ti : TI} (hti : Bi P t = some ti) {z : AV} (hz : I4 ti = some z) : ∃ Z, (zeroValue t).run P w = .ok Z w /\ R C N w z Z := by
 obtain ⟨i, d, g1, g2, g3, g4, _, g6, g7⟩ := Az hti;unfold I4 at hz
 split at hz
 ·rename_i l hl
  rw [g6] at hl;obtain ⟨Z, q1, q2, q3, q4, q5⟩ := E6 (C := C) (w := w) (N := N) hl
  refine ⟨Z, by unfold zeroValue; simp [Cy g1, q1], ?_⟩
  rw [g7] at hz;cases hb : Qt d
  ·simp only [hb] at hz;obtain ⟨u, rfl, hu⟩ := q5 hb
   simp at hz; subst hz; exact hu
  ·simp only [hb] at hz;cases hz;obtain ⟨a, rfl⟩ := q4 hb;unfold R;exact ⟨a, rfl, q2, q3⟩
 ·cases hz
end
section
variable {P : Program} {C : Ctx} {N : Nat} {w : World}
def Dg (P : Program) (C : Ctx) (N : Nat) (w : World) (s : Sem Value) (v : AV) : Prop := ∃ x, s.run P w = .ok x w /\ R C N w v x
theorem Dg.runs {σ : Sto} {s : Sem Value} {v : AV} (hs : Sim P C w σ) (h : Dg P C (nx σ) w s v) : Hl P C w σ s v σ :=
 let ⟨x, h1, h2⟩ := h; ⟨x, x, w, C, h1, rfl, hs, Ext.refl _ _ _, h2⟩
theorem El {op : BinOp} {t : TypeId} {x y : Operand} {a b : Value} (h1 : ∀ l m, ¬ (a = .agg l /\ b = .agg m)) (h2 : ¬ (a = .nilIface /\ b = .nilIface)) :
  (eqGuard op t x y a b).run P w = .ok () w := by
 cases op <;> first
  | (simp [eqGuard]; done)
  | (cases a <;> cases b <;> first
    | (simp [eqGuard]; done)
    | exact absurd ⟨rfl, rfl⟩ h2
    | exact absurd ⟨rfl, rfl⟩ (h1 _ _))
theorem Zi {op : BinOp} {t : TypeId} {x y : Operand} (h : (Ds x || Ds y) = true) : (eqGuard op t x y .nilIface .nilIface).run P w = .ok () w := by
 cases op <;> first
  | (simp [eqGuard]; done)
  | (cases x <;> cases y <;> first
    | (simp [Ds] at h; done)
    | (simp [eqGuard]; done))
theorem Adu {op : BinOp} {a b : ByteArray} {v : AV} (h : Sa op (Ca a) (Ca b) = some v) (t : TypeId) :
  ∃ x, (binOp op t (.string a) (.string b)).run P w = .ok x w /\ R C N w v x := by
 have hl : Di (Ca a) (Ca b) = Op.bytesLess a.toList b.toList := by rw [ByteArray.toList_eq, ByteArray.toList_eq]; exact W4 _ _
 cases op <;> simp only [Sa] at h
 case add =>
  cases hb : Nat.ble ((Ca a).length + (Ca b).length) Nn
  ·simp [hb] at h
  ·simp only [hb, cond_true] at h;cases h;have hle := Nat.le_of_ble_eq_true hb;rw [Ev, Ev] at hle
   have hm : ¬ (((a.size + b.size : Nat) : Int) > IntKind.i64.max) := by
    have : IntKind.i64.max = 9223372036854775807 := by decide
    rw [this]; unfold Nn at hle; omega
   refine ⟨.string (a ++ b), ?_, by unfold R; exact ⟨_, rfl, W5 a b⟩⟩
   simp only [binOp, Op.stringOp, Sem.run_ite, if_neg hm, Sem.run_pure]
 case eql => cases h; exact ⟨_, by simp only [binOp]; simp [Op.stringOp]; rfl, by unfold R; rw [J3]⟩
 case neq => cases h; exact ⟨_, by simp only [binOp]; simp [Op.stringOp]; rfl, by unfold R; rw [J3]⟩
 case lss => cases h; exact ⟨_, by simp only [binOp]; simp [Op.stringOp]; rfl, by unfold R; rw [hl]⟩
 case leq => cases h; exact ⟨_, by simp only [binOp]; simp [Op.stringOp]; rfl, by unfold R; rw [hl, J3]⟩
 case gtr => cases h; exact ⟨.bool (!(Op.bytesLess a.toList b.toList || a.toList == b.toList)), by simp only [binOp, Op.stringOp, Sem.run_pure], by unfold R; rw [hl, J3]⟩
 case geq => cases h; exact ⟨_, by simp only [binOp]; simp [Op.stringOp]; rfl, by unfold R; rw [hl]⟩
 all_goals (cases h)
structure EqR (P : Program) (w : World) (t : TypeId) (X Y : Value) (b : Bool) : Prop where
 eql : (binOp .eql t X Y).run P w = .ok (.bool b) w
 neq : (binOp .neq t X Y).run P w = .ok (.bool !b) w
theorem EqR.mk' {t : TypeId} {X Y : Value} {b : Bool} (h : ∀ d, (Op.equalIn (d + 1) t X Y).run P w = .ok b w)
  (e1 : binOp .eql t X Y = (do pure (.bool (← Op.equal t X Y)))) (e2 : binOp .neq t X Y = (do pure (.bool (!(← Op.equal t X Y))))) : EqR P w t X Y b := by
 have h' : (Op.equal t X Y).run P w = .ok b w := h 9999
 exact ⟨by rw [e1]; simp only [Sem.run_bind, h', Result.andThen_ok, Sem.run_pure], by rw [e2]; simp only [Sem.run_bind, h', Result.andThen_ok, Sem.run_pure]⟩
section
variable {t : TypeId} {d : TypeDesc}
theorem EqR.slice (hd : P.underlying t = some d) (h : ∃ e, d = .slice e) (ad : Addr) (n k : Nat) : EqR P w t (.slice (some ad) n k) (.slice none 0 0) false /\ EqR P w t (.slice none 0 0) (.slice (some ad) n k) false /\ EqR P w t (.slice none 0 0) (.slice none 0 0) true := by
 obtain ⟨e, rfl⟩ := h
 exact ⟨.mk' (fun d => by simp [Op.equalIn, Af hd]) rfl rfl, .mk' (fun d => by simp [Op.equalIn, Af hd]) rfl rfl, .mk' (fun d => by simp [Op.equalIn, Af hd]) rfl rfl⟩
theorem EqR.pointer (hd : P.underlying t = some d) (h : ∃ e, d = .pointer e) (ad : Addr) : EqR P w t (.pointer (some ad)) (.pointer none) false /\ EqR P w t (.pointer none) (.pointer (some ad)) false /\ EqR P w t (.pointer none) (.pointer none) true := by
 obtain ⟨e, rfl⟩ := h
 exact ⟨.mk' (fun d => by simp [Op.equalIn, Af hd]) rfl rfl, .mk' (fun d => by simp [Op.equalIn, Af hd]) rfl rfl, .mk' (fun d => by simp [Op.equalIn, Af hd]) rfl rfl⟩
theorem EqR.map (hd : P.underlying t = some d) (h : ∃ k e, d = .map k e) (c : Nat) : EqR P w t (.map (some c)) (.map none) false /\ EqR P w t (.map none) (.map (some c)) false /\ EqR P w t (.map none) (.map none) true := by
 obtain ⟨k, e, rfl⟩ := h
 exact ⟨.mk' (fun d => by simp [Op.equalIn, Af hd]) rfl rfl, .mk' (fun d => by simp [Op.equalIn, Af hd]) rfl rfl, .mk' (fun d => by simp [Op.equalIn, Af hd]) rfl rfl⟩
theorem EqR.func (hd : P.underlying t = some d) (h : ∃ a b c, d = .func a b c) (f : Fn) (p q : Array Value) : EqR P w t (.func f p q) .nilFunc false /\ EqR P w t .nilFunc (.func f p q) false /\ EqR P w t .nilFunc .nilFunc true := by
 obtain ⟨a, b, c, rfl⟩ := h
 exact ⟨.mk' (fun d => by simp [Op.equalIn, Af hd]) rfl rfl, .mk' (fun d => by simp [Op.equalIn, Af hd]) rfl rfl, .mk' (fun d => by simp [Op.equalIn, Af hd]) rfl rfl⟩
theorem EqR.iface (hd : P.underlying t = some d) (h : ∃ m, d = .interface m) (u : TypeId) (v : Value) : EqR P w t (.iface u v) .nilIface false /\ EqR P w t .nilIface (.iface u v) false /\ EqR P w t .nilIface .nilIface true := by
 obtain ⟨m, rfl⟩ := h
 exact ⟨.mk' (fun d => by simp [Op.equalIn, Af hd]) rfl rfl, .mk' (fun d => by simp [Op.equalIn, Af hd]) rfl rfl, .mk' (fun d => by simp [Op.equalIn, Af hd]) rfl rfl⟩
theorem EqR.bool (hd : P.underlying t = some .bool) (a b : Bool) : EqR P w t (.bool a) (.bool b) (a == b) :=
 .mk' (fun d => by simp [Op.equalIn, Af hd]) rfl rfl
end
def Ah6 (X : Value) : Prop := ∀ l, X ≠ .agg l
theorem Ss {d : TypeDesc} {t : TypeId} (hd : P.underlying t = some d) {x y : AV} {X Y : Value} (hx : R C N w x X) (hy : R C N w y Y) (h : Qu d x y = true) :
  EqR P w t X Y false /\ EqR P w t Y X false /\ Ah6 X /\ Ah6 Y := by
 unfold Qu at h
 split at h
 ·unfold R at hy; obtain ⟨rfl, _⟩ := hy
  split at h
  ·unfold R at hx; obtain ⟨ad, k, rfl, _⟩ := hx
   have := EqR.slice (w := w) hd ⟨_, rfl⟩ ad; exact ⟨(this _ _).1, (this _ _).2.1, (fun _ h => by cases h), (fun _ h => by cases h)⟩
  ·unfold R at hx; obtain ⟨ado, k, rfl, hle, _, _, hn, _⟩ := hx
   obtain _ | ad := ado
   ·have := hn rfl; omega
   have := EqR.slice (w := w) hd ⟨_, rfl⟩ ad; exact ⟨(this _ _).1, (this _ _).2.1, (fun _ h => by cases h), (fun _ h => by cases h)⟩
  ·cases h
 ·unfold R at hy; obtain ⟨rfl, _⟩ := hy
  split at h
  ·unfold R at hx; obtain ⟨ad, rfl, _⟩ := hx
   have := EqR.pointer (w := w) hd ⟨_, rfl⟩ ad; exact ⟨this.1, this.2.1, (fun _ h => by cases h), (fun _ h => by cases h)⟩
  ·unfold R at hx; obtain ⟨c, o, rfl, _⟩ := hx
   have := EqR.pointer (w := w) hd ⟨_, rfl⟩ ⟨c, o, none⟩; exact ⟨this.1, this.2.1, (fun _ h => by cases h), (fun _ h => by cases h)⟩
  ·cases h
 ·unfold R at hy; obtain ⟨rfl, _⟩ := hy
  split at h
  ·unfold R at hx; obtain ⟨c, rfl, _⟩ := hx
   have := EqR.map (w := w) hd ⟨_, _, rfl⟩ c; exact ⟨this.1, this.2.1, (fun _ h => by cases h), (fun _ h => by cases h)⟩
  ·cases h
 ·unfold R at hy; obtain ⟨rfl, _⟩ := hy
  split at h
  ·unfold R at hx; obtain ⟨a, b, rfl, _⟩ := hx
   have := EqR.func (w := w) hd ⟨_, _, _, rfl⟩; exact ⟨(this _ _ _).1, (this _ _ _).2.1, (fun _ h => by cases h), (fun _ h => by cases h)⟩
  ·cases h
 ·unfold R at hy; obtain ⟨rfl, _⟩ := hy
  split at h
  ·unfold R at hx; obtain ⟨z, rfl, _⟩ := hx
   have := EqR.iface (w := w) hd ⟨_, rfl⟩; exact ⟨(this _ _).1, (this _ _).2.1, (fun _ h => by cases h), (fun _ h => by cases h)⟩
  ·cases h
 ·cases h
theorem Adv {d : TypeDesc} {t : TypeId} (hd : P.underlying t = some d) {x y : AV} {X Y : Value} (hx : R C N w x X) (hy : R C N w y Y) {b : Bool} (h : Ah2 d x y = some b) :
  EqR P w t X Y b /\ Ah6 X /\ Ah6 Y := by
 unfold Ah2 at h;cases hb : V6 d x y
 ·simp only [hb, cond_false] at h;cases h1 : Qu d x y
  ·cases h2 : Qu d y x
   ·simp [h1, h2] at h
   ·simp [h2] at h; subst h; have := Ss hd hy hx h2; exact ⟨this.2.1, this.2.2.2, this.2.2.1⟩
  ·simp [h1] at h; subst h; have := Ss hd hx hy h1; exact ⟨this.1, this.2.2.1, this.2.2.2⟩
 ·simp only [hb, cond_true, Option.some.injEq] at h;subst h;unfold V6 at hb
  split at hb
  ·unfold R at hx hy; obtain ⟨rfl, _⟩ := hx; obtain ⟨rfl, _⟩ := hy
   exact ⟨(EqR.slice (w := w) hd ⟨_, rfl⟩ ⟨0, 0, none⟩ 0 0).2.2, (fun _ h => by cases h), (fun _ h => by cases h)⟩
  ·unfold R at hx hy; obtain ⟨rfl, _⟩ := hx; obtain ⟨rfl, _⟩ := hy
   exact ⟨(EqR.pointer (w := w) hd ⟨_, rfl⟩ ⟨0, 0, none⟩).2.2, (fun _ h => by cases h), (fun _ h => by cases h)⟩
  ·unfold R at hx hy; obtain ⟨rfl, _⟩ := hx; obtain ⟨rfl, _⟩ := hy
   exact ⟨(EqR.map (w := w) hd ⟨_, _, rfl⟩ 0).2.2, (fun _ h => by cases h), (fun _ h => by cases h)⟩
  ·unfold R at hx hy; obtain ⟨rfl, _⟩ := hx; obtain ⟨rfl, _⟩ := hy
   exact ⟨(EqR.func (w := w) hd ⟨_, _, _, rfl⟩ (.func 0) #[] #[]).2.2, (fun _ h => by cases h), (fun _ h => by cases h)⟩
  ·unfold R at hx hy; obtain ⟨rfl, _⟩ := hx; obtain ⟨rfl, _⟩ := hy
   exact ⟨(EqR.iface (w := w) hd ⟨_, rfl⟩ 0 .nilIface).2.2, (fun _ h => by cases h), (fun _ h => by cases h)⟩
  ·cases hb
theorem Z5 {d : TypeDesc} {x : AV} {k : Key} {v : Value} (h : key0 d x = some k) (hr : R C N w x v) : KV k v /\ KS d v := by
 unfold key0 at h
 split at h
 ·rename_i j k' n
  cases hk : Id j k'
  ·simp [hk] at h
  ·simp only [hk, cond_true, Option.some.injEq] at h;subst h;have := (J2 j k').1 hk;subst this;unfold R at hr; subst hr
   exact ⟨by unfold KV; rfl, n, rfl⟩
 ·rename_i l
  cases h;unfold R at hr;obtain ⟨s, rfl, h2⟩ := hr
  exact ⟨by unfold KV; exact ⟨s, rfl, h2⟩, s, rfl⟩
 ·rename_i b
  cases h;unfold R at hr; subst hr
  exact ⟨by unfold KV; rfl, b, rfl⟩
 ·cases h
theorem W6 : ∀ {fs : List Field} {cs : List AV} {ks : List Key} {vs : List Value}, Ws P fs cs = some ks -> RL C N w cs vs -> KVs ks vs /\ KFs P fs vs
 | [], [], ks, vs, h, hr => by
  simp only [Ws, Option.some.injEq] at h; subst h;cases vs with
  | nil => exact ⟨by unfold KVs; trivial, by unfold KFs; trivial⟩
  | cons => unfold RL at hr; exact hr.elim
 | f :: fs, c :: cs, ks, vs, h, hr => by
  cases vs with
  | nil => unfold RL at hr; exact hr.elim
  | cons v vs =>
   unfold RL at hr;simp only [Ws] at h
   split at h
   ·rename_i ti hti
    split at h
    ·rename_i k ks' hk hks
     cases hb : (f.name != "_" && Nat.beq ti.size 1)
     ·simp [hb] at h
     ·simp only [hb, cond_true, Option.some.injEq] at h;subst h;simp only [Bool.and_eq_true, bne_iff_ne, ne_eq] at hb;obtain ⟨i, d, h1, h2, h3, h4, _, _, _⟩ := Az hti;obtain ⟨q1, q2⟩ := Z5 hk hr.1;obtain ⟨q3, q4⟩ := W6 hks hr.2
      have hs : i.size = 1 := by rw [← h4]; exact Nat.eq_of_beq_eq_true hb.2
      rw [h3] at q2
      exact ⟨by unfold KVs; exact ⟨q1, q3⟩, by unfold KFs; exact ⟨⟨i, d, h1, h2, hs, by cases d <;> first | rfl | exact q2.elim, q2, hb.1⟩, q4⟩⟩
    ·cases h
   ·cases h
 | [], _ :: _, _, _, h, _ => by simp [Ws] at h
 | _ :: _, [], _, _, h, _ => by simp [Ws] at h
theorem G1 {kt : TypeId} {x : AV} {k : Key} {v : Value} (h : Hb P kt x = some k) (hr : R C N w x v) : KV k v /\ KT P kt v := by
 unfold Hb at h
 split at h
 ·rename_i ti hti
  obtain ⟨i, d, h1, h2, h3, h4, _, _, _⟩ := Az hti
  split at h
  ·rename_i fs hfs
   cases hb : (Ix fs.toList 0 && !P.stoodInHeld kt)
   ·simp [hb] at h
   ·simp only [hb] at h;unfold Alf at h
    split at h
    ·rename_i cs
     split at h
     ·rename_i l hl
      cases h;unfold R at hr;obtain ⟨a, rfl, q1, q2⟩ := hr;obtain ⟨g1, g2⟩ := W6 hl q1;simp only [Bool.and_eq_true, Bool.not_eq_true'] at hb
      exact ⟨by unfold KV; exact ⟨a, rfl, g1⟩, .inr ⟨fs, a, by rw [h2, ← h3, hfs], rfl, g2, hb.1, hb.2⟩⟩
     ·cases h
    ·cases h
  ·obtain ⟨g1, g2⟩ := Z5 h hr;rw [h3] at g2;exact ⟨g1, .inl ⟨d, h2, g2⟩⟩
 ·cases h
theorem Z6 {d : TypeDesc} {k k' : Key} {v v' : Value} (h : KV k v) (h' : KV k' v') (t : KS d v) (t' : KS d v') :
  (Key.eq k k' = true ↔ v = v') /\ ∀ (t : TypeId), P.underlying t = some d -> ∀ n, (Op.equalIn (n + 1) t v v').run P w = .ok (Key.eq k k') w := by
 unfold KS at t t'
 split at t
 ·obtain ⟨n, rfl⟩ := t;obtain ⟨m, rfl⟩ := t'
  cases k <;> unfold KV at h <;> first | (cases h; done) | (obtain ⟨_, hh, _⟩ := h; cases hh; done) | skip
  cases k' <;> unfold KV at h' <;> first | (cases h'; done) | (obtain ⟨_, hh, _⟩ := h'; cases hh; done) | skip
  cases h; cases h';have hk : ∀ j : IntKind, Id j j = true := fun j => (J2 j j).2 rfl
  refine ⟨by simp [Key.eq, hk, Ih], fun t ht n => ?_⟩
  rw [run_equalIn_int _ _ _ _ _ _ _ ht]; simp [Key.eq, hk, Ih]
 ·obtain ⟨n, rfl⟩ := t;obtain ⟨m, rfl⟩ := t'
  cases k <;> unfold KV at h <;> first | (cases h; done) | skip
  cases k' <;> unfold KV at h' <;> first | (cases h'; done) | skip
  ·obtain ⟨s, q1, q2⟩ := h;obtain ⟨s', q3, q4⟩ := h';cases q1; cases q3;subst q2; subst q4;refine ⟨?_, fun t ht n => ?_⟩
   ·simp only [Key.eq, Fw, Value.string.injEq]
    exact ⟨Uy, fun h => by rw [h]⟩
   ·rw [run_equalIn_string _ _ _ _ _ ht]; simp only [Key.eq, J3]
  ·obtain ⟨_, hh, _⟩ := h'; cases hh
  ·obtain ⟨_, hh, _⟩ := h; cases hh
 ·obtain ⟨n, rfl⟩ := t;obtain ⟨m, rfl⟩ := t'
  cases k <;> unfold KV at h <;> first | (cases h; done) | (obtain ⟨_, hh, _⟩ := h; cases hh; done) | skip
  cases k' <;> unfold KV at h' <;> first | (cases h'; done) | (obtain ⟨_, hh, _⟩ := h'; cases hh; done) | skip
  cases h; cases h'
  refine ⟨by cases n <;> cases m <;> simp [Key.eq], fun t ht _ => ?_⟩
  rw [run_equalIn_bool' _ _ _ _ _ ht]; cases n <;> cases m <;> simp [Key.eq]
 ·exact t.elim
theorem W7 (n : Nat) (xs ys : Array Value) : ∀ (fs : List Field) (i : Nat) (ks ks' : List Key) (vs vs' : List Value), Ix fs i = true -> KFs P fs vs -> KFs P fs vs' -> KVs ks vs -> KVs ks' vs' ->
  (∀ j, j < vs.length -> xs[i + j]? = vs[j]?) -> (∀ j, j < vs'.length -> ys[i + j]? = vs'[j]?) ->
  (Key.eqs ks ks' = true ↔ vs = vs') /\ (Op.eqFields (n + 1) xs ys fs).run P w = .ok (Key.eqs ks ks') w
 | [], i, ks, ks', vs, vs', _, h1, h2, h3, h4, _, _ => by
  cases vs <;> unfold KFs at h1 <;> first | exact h1.elim | skip
  cases vs' <;> unfold KFs at h2 <;> first | exact h2.elim | skip
  cases ks <;> unfold KVs at h3 <;> first | exact h3.elim | skip
  cases ks' <;> unfold KVs at h4 <;> first | exact h4.elim | skip
  exact ⟨by simp [Key.eqs], by simp [Op.eqFields, Key.eqs]⟩
 | f :: fs, i, ks, ks', vs, vs', h0, h1, h2, h3, h4, h5, h6 => by
  cases vs with
  | nil => unfold KFs at h1; exact h1.elim
  | cons v vs =>
  cases vs' with
  | nil => unfold KFs at h2; exact h2.elim
  | cons v' vs' =>
  cases ks with
  | nil => unfold KVs at h3; exact h3.elim
  | cons k ks =>
  cases ks' with
  | nil => unfold KVs at h4; exact h4.elim
  | cons k' ks' =>
  unfold KFs at h1 h2;unfold KVs at h3 h4;obtain ⟨⟨inf, d, g1, g2, g3, g4, g5, g6⟩, h1⟩ := h1;obtain ⟨⟨inf', d', e1, e2, _, _, e5, _⟩, h2⟩ := h2;rw [g2] at e2; cases e2;simp only [Ix, Bool.and_eq_true] at h0;have ho : f.offset = i := Nat.eq_of_beq_eq_true h0.1;obtain ⟨q1, q2⟩ := Z6 (P := P) (w := w) h3.1 h4.1 g5 e5
  obtain ⟨q3, q4⟩ := W7 n xs ys fs (i + 1) ks ks' vs vs' h0.2 h1 h2 h3.2 h4.2 (fun j hj => by have := h5 (j + 1) (by simpa using hj); rw [show i + 1 + j = i + (j + 1) by omega]; simpa using this)
   (fun j hj => by have := h6 (j + 1) (by simpa using hj); rw [show i + 1 + j = i + (j + 1) by omega]; simpa using this)
  have hx : (part f.type xs f.offset).run P w = .ok v w := by
   have := h5 0 (by simp)
   unfold part;simp only [Sem.run_bind, Ig g2, Result.andThen_ok, g4, Bool.false_eq_true, if_false, ho]
   simp at this; simp [this]
  have hy : (part f.type ys f.offset).run P w = .ok v' w := by
   have := h6 0 (by simp)
   unfold part;simp only [Sem.run_bind, Ig g2, Result.andThen_ok, g4, Bool.false_eq_true, if_false, ho]
   simp at this; simp [this]
  constructor
  ·simp only [Key.eqs, List.cons.injEq];cases hk : Key.eq k k'
   ·simp only [cond_false, Bool.false_eq_true, false_iff, not_and];intro hv; rw [← q1, hk] at hv; cases hv
   ·simp only [cond_true, q3];exact ⟨fun h => ⟨q1.1 hk, h⟩, fun h => h.2⟩
  ·simp only [Op.eqFields, if_pos g6, Sem.run_bind, hx, hy, Result.andThen_ok, q2 _ g2 n, Sem.run_ite, q4, Sem.run_pure, Key.eqs];cases Key.eq k k' <;> simp
theorem Ah7 {kt : TypeId} {k k' : Key} {v v' : Value} (h : KV k v) (h' : KV k' v') (t : KT P kt v) (t' : KT P kt v') :
  (Key.eq k k' = true ↔ v = v') /\ ∀ n, (Op.equalIn (n + 2) kt v v').run P w = .ok (Key.eq k k') w := by
 rcases t with ⟨d, ht, t⟩ | ⟨fs, a, ht, rfl, t1, t2, t3⟩
 ·rcases t' with ⟨d', ht', t'⟩ | ⟨fs, a, ht', rfl, _, _, _⟩
  ·rw [ht] at ht'; cases ht';obtain ⟨q1, q2⟩ := Z6 (P := P) (w := w) h h' t t';exact ⟨q1, fun n => q2 kt ht (n + 1)⟩
  ·rw [ht] at ht'; cases ht'; exact t.elim
 ·rcases t' with ⟨d', ht', t'⟩ | ⟨fs', a', ht', rfl, t4, _, _⟩
  ·rw [ht] at ht'; cases ht'; exact t'.elim
  ·rw [ht] at ht'; cases ht'
   cases k <;> unfold KV at h <;> first | (cases h; done) | (obtain ⟨_, hh, _⟩ := h; cases hh; done) | skip
   cases k' <;> unfold KV at h' <;> first | (cases h'; done) | (obtain ⟨_, hh, _⟩ := h'; cases hh; done) | skip
   obtain ⟨_, hh, h⟩ := h; cases hh;obtain ⟨_, hh, h'⟩ := h'; cases hh
   have hf : P.fieldsOf kt = fs := by unfold Program.fieldsOf; rw [ht]
   have key := fun n => W7 (P := P) (w := w) n a a' fs.toList 0 _ _ a.toList a'.toList t2 t1 t4 h h' (fun j _ => by simp) (fun j _ => by simp)
   constructor
   ·simp only [Key.eq];rw [(key 0).1]
    constructor
    ·intro hl; rw [Array.toList_inj.1 hl]
    ·intro hl; cases hl; rfl
   ·intro n
    rw [run_equalIn_struct w (n + 1) kt a a' (by rw [hf]; exact ht) t3, hf, (key n).2]
    simp only [Key.eq]
theorem Ja (e : Bool) (n : Nat) (a : Array Value) : ∀ (fs : List Field) (i : Nat) (vs : List Value), Ix fs i = true -> KFs P fs vs -> (∀ j, j < vs.length -> a[i + j]? = vs[j]?) ->
  (forIn fs PUnit.unit fun f _ => if f.name ≠ "_" then do
    let x ← part f.type a f.offset
    Instr.checkKey e (n + 1) f.type x
    pure (ForInStep.yield PUnit.unit)
   else pure (ForInStep.yield PUnit.unit) : Sem PUnit).run P w = .ok PUnit.unit w
 | [], _, _, _, _, _ => by simp
 | f :: fs, i, vs, h0, h1, h2 => by
  cases vs with
  | nil => unfold KFs at h1; exact h1.elim
  | cons v vs =>
  unfold KFs at h1;obtain ⟨⟨inf, d, g1, g2, g3, g4, g5, g6⟩, h1⟩ := h1;simp only [Ix, Bool.and_eq_true] at h0;have ho : f.offset = i := Nat.eq_of_beq_eq_true h0.1
  have hx : (part f.type a f.offset).run P w = .ok v w := by
   have := h2 0 (by simp)
   unfold part;simp only [Sem.run_bind, Ig g2, Result.andThen_ok, g4, Bool.false_eq_true, if_false, ho]
   simp at this; simp [this]
  have hc : (Instr.checkKey e (n + 1) f.type v).run P w = .ok () w := by
   unfold Instr.checkKey;simp only [Sem.run_bind, Af g2, Result.andThen_ok];unfold KS at g5
   split at g5
   ·obtain ⟨_, rfl⟩ := g5; rfl
   ·obtain ⟨_, rfl⟩ := g5; rfl
   ·obtain ⟨_, rfl⟩ := g5; rfl
   ·exact g5.elim
  have := Ja e n a fs (i + 1) vs h0.2 h1 (fun j hj => by have := h2 (j + 1) (by simpa using hj); rw [show i + 1 + j = i + (j + 1) by omega]; simpa using this)
  simp only [List.forIn_cons, Sem.run_bind, if_pos g6, hx, Result.andThen_ok, hc, Sem.run_pure];exact this
theorem Dc {kt : TypeId} {v : Value} (t : KT P kt v) (e : Bool) (n : Nat) : (Instr.checkKey e (n + 2) kt v).run P w = .ok () w := by
 rcases t with ⟨d, ht, t⟩ | ⟨fs, a, ht, rfl, t1, t2, t3⟩
 ·unfold Instr.checkKey;simp only [Sem.run_bind, Af ht, Result.andThen_ok];unfold KS at t
  split at t
  ·obtain ⟨_, rfl⟩ := t; rfl
  ·obtain ⟨_, rfl⟩ := t; rfl
  ·obtain ⟨_, rfl⟩ := t; rfl
  ·exact t.elim
 ·unfold Instr.checkKey;simp only [Sem.run_bind, Af ht, Result.andThen_ok];rw [← Array.forIn_toList]
  have := Ja (w := w) e n a fs.toList 0 a.toList t2 t1 (fun j _ => by simp)
  rw [this]
  rfl
end
end Go.AM
