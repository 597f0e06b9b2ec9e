/- A part of the proof; shortened by program. -/
import Derived.Orders
set_option maxRecDepth 100000
set_option maxHeartbeats 4000000
set_option linter.unusedSimpArgs false
set_option linter.unusedVariables false
namespace Go.AM
open Go
theorem nl {n : Nat} : n <= n := Nat.le_refl n
theorem Om {p : Prop} (h : p := by omega) : p := h
abbrev aa_ := @Nat.eq_of_beq_eq_true
abbrev ac_ := @Option.some.injEq
abbrev ad_ := @List.getElem?_eq_some_iff
abbrev ae_ := @Bool.and_eq_true
abbrev af_ := @List.mem_of_getElem?
abbrev ah_ := @List.drop_eq_nil_of_le
abbrev ai_ := @List.mem_cons
abbrev aj_ := @Int.ofNat_eq_natCast
abbrev ak_ := @Nat.le_of_ble_eq_true
abbrev al_ := @Bool.eq_false_or_eq_true
abbrev am_ := @List.mem_cons_of_mem
abbrev an_ := @List.mem_singleton
abbrev ao_ := @List.getElem?_eq_getElem
abbrev ap_ := @List.length_cons
abbrev aq_ := @Nat.lt_of_lt_of_le
abbrev ar_ := @List.take_of_length_le
abbrev at_ := @Array.getElem?_eq_some_iff
abbrev av_ := @List.cons_append
abbrev aw_ := @List.length_append
abbrev ax_ := @Prod.mk.injEq
abbrev ay_ := @List.drop_eq_getElem_cons
abbrev az_ := @List.getElem?_map
abbrev b_ := @List.length_take
abbrev ba_ := @Array.getD_eq_getD_getElem?
abbrev bb_ := @List.getElem?_append_left
abbrev bc_ := @Nat.le_trans
abbrev bd_ := @Nat.ble_eq_true_of_le
abbrev be_ := @Nat.zero_add
abbrev bf_ := @Bool.false_eq_true
abbrev bg_ := @Array.getElem?_toList
abbrev bh_ := @Bool.or_eq_true
abbrev bi_ := @List.getElem?_cons_succ
abbrev bj_ := @List.mem_singleton_self
abbrev bk_ := @List.eq_nil_of_length_eq_zero
abbrev bl_ := @Bool.not_eq_true'
abbrev bm_ := @Nat.beq_refl
abbrev bn_ := @List.mem_cons_self
abbrev bo_ := @Nat.lt_succ_self
abbrev bp_ := @Option.isSome_iff_exists
abbrev bq_ := @List.mem_append
abbrev br_ := @List.all_eq_true
abbrev bs_ := @List.pairwise_cons
abbrev bt_ := @List.nil_append
abbrev bu_ := @List.append_assoc
abbrev bv_ := @Array.length_toList
abbrev bw_ := @Bool.eq_false_iff
abbrev bx_ := @List.take_append_drop
abbrev by_ := @List.length_map
abbrev c_ := @Array.toList_map
abbrev ca_ := @Nat.zero_le
abbrev cb_ := @List.getElem?_append_right
abbrev cd_ := @List.map_cons
abbrev ce_ := @Array.getElem?_eq_getElem
abbrev cf_ := @List.mem_map
abbrev cg_ := @List.length_replicate
abbrev ch_ := @List.flatMap_cons
abbrev ci_ := @List.map_append
abbrev ck_ := @List.mem_map_of_mem
abbrev cl_ := @List.range'_succ
abbrev cm_ := @Array.getElem?_setIfInBounds_ne
abbrev cn_ := @List.append_nil
abbrev co_ := @List.length_filter_le
abbrev cq_ := @Nat.eq_zero_or_pos
abbrev cr_ := @List.mem_iff_getElem?
abbrev cs_ := @Array.toList_append
abbrev ct_ := @List.mem_of_mem_take
abbrev cu_ := @List.mem_append_left
abbrev cv_ := @Bool.or_eq_false_iff
abbrev cw_ := @Array.eq_empty_of_size_eq_zero
abbrev cx_ := @List.mem_filter
abbrev cy_ := @Bool.and_self
abbrev cz_ := @List.length_drop
abbrev d_ := @List.not_mem_nil
abbrev da_ := @List.flatMap_append
abbrev dc_ := @List.length_singleton
abbrev dd_ := @List.reverse_cons
abbrev de_ := @List.cons.injEq
abbrev df_ := @Option.map_some
abbrev dg_ := @List.all_cons
abbrev dh_ := @List.length_set
abbrev di_ := @Array.getElem?_append_left
abbrev dk_ := @List.foldl_cons
abbrev dm_ := @List.getElem?_take
abbrev dn_ := @List.range_eq_range'
abbrev dp_ := @List.foldl_append
abbrev dq_ := @List.any_eq_false
abbrev dr_ := @List.length_nil
abbrev ds_ := @Option.some.inj
abbrev dt_ := @Nat.min_eq_left
abbrev du_ := @Option.map_eq_some_iff
abbrev dw_ := @Array.getElem?_modify
abbrev dx_ := @Nat.add_zero
abbrev dy_ := @List.filter_append
abbrev dz_ := @List.mem_append_right
abbrev e_ := @List.mem_range
abbrev ea_ := @Nat.mul_le_mul_right
abbrev eb_ := @Nat.add_comm
abbrev ee_ := @List.length_eq_zero_iff
abbrev ef_ := @Option.getD_some
abbrev eg_ := @List.reverse_nil
abbrev eh_ := @List.take_length
abbrev ei_ := @Array.getElem?_push_lt
abbrev ej_ := @List.append_of_mem
abbrev ek_ := @Nat.lt_of_le_of_lt
abbrev em_ := @Nat.zero_mul
abbrev eq_ := @Int.toNat_natCast
abbrev er_ := @List.nodup_append
abbrev es_ := @List.mem_of_mem_drop
abbrev et_ := @List.nodup_nil
abbrev eu_ := @List.drop_zero
abbrev ev_ := @List.any_eq_true
abbrev ex_ := @Nat.mul_one
abbrev ey_ := @Nat.add_mul
abbrev ez_ := @List.filter_eq_self
abbrev f_ := @List.map_nil
abbrev fa_ := @Nat.sub_zero
abbrev fb_ := @Bool.eq_iff_iff
abbrev fc_ := @Bool.or_false
abbrev fd_ := @Array.foldl_toList
abbrev fe_ := @List.getElem?_drop
abbrev ff_ := @List.nodup_cons
abbrev fi_ := @Bool.not_eq_false'
abbrev fj_ := @Option.bind_eq_some_iff
abbrev fm_ := @Nat.le_succ
abbrev fn_ := @List.drop_take
abbrev fo_ := @List.drop_drop
abbrev fp_ := @Option.bind_some
abbrev fq_ := @List.drop_append_of_le_length
abbrev fr_ := @List.drop_length
abbrev fs_ := @Array.toArray_toList
abbrev ft_ := @List.take_succ_cons
abbrev fu_ := @Int.natCast_mul
abbrev fv_ := @Array.toList_modify
abbrev fw_ := @Nat.succ_mul
abbrev fz_ := @Option.isSome_some
abbrev ga_ := @Nat.le_of_lt
abbrev gi_ := @Nat.add_assoc
abbrev gj_ := @Nat.mod_eq_of_lt
abbrev gk_ := @List.range'_zero
abbrev gl_ := @Option.map_none
abbrev go_ := @Ne.symm
abbrev gq_ := @Nat.le_of_eq
abbrev gr_ := @List.mapM_cons
abbrev gs_ := @Bool.not_false
abbrev gt_ := @Nat.ble_eq
def Bt {β : Type} (n : Nat) (k : Nat -> β) : β := match n with | 0 => k 0 | m + 1 => k (m + 1)
theorem Ag {β : Type} (n : Nat) (k : Nat -> β) : Bt n k = k n := by cases n <;> rfl
inductive Tr (α : Type) where
 | e
 | n (v : Option α) (l r : Tr α)
def Tr.get {α : Type} : Tr α -> Nat -> Option α
 | .e,_ => none
 | .n v l r,k => match k with
  | 0 => v
  | k + 1 => cond (Nat.beq (k % 2) 0) (l.get (k / 2)) (r.get (k / 2))
def Tr.mkL {α : Type} (v : Option α) (l r : Tr α) : Tr α := match l with
 | .e => .n v .e r
 | .n a b c => .n v (.n a b c) r
def Tr.mkR {α : Type} (v : Option α) (l r : Tr α) : Tr α := match r with
 | .e => .n v l .e
 | .n a b c => .n v l (.n a b c)
def Tr.put {α : Type} : Nat -> Tr α -> Nat -> Option α -> Tr α
 | 0,t,_,_ => t
 | f + 1,.e,k,x => match k with
  | 0 => .n x .e .e
  | k + 1 => cond (Nat.beq (k % 2) 0) (Tr.mkL none (Tr.put f .e (k / 2) x) .e) (Tr.mkR none .e (Tr.put f .e (k / 2) x))
 | f + 1,.n v l r,k,x => match k with
  | 0 => .n x l r
  | k + 1 => cond (Nat.beq (k % 2) 0) (Tr.mkL v (Tr.put f l (k / 2) x) r) (Tr.mkR v l (Tr.put f r (k / 2) x))
inductive AV where
 | any
 | bool (b : Bool)
 | int (k : IntKind) (n : Int)
 | str (l : List Nat)
 | nil (v : Value)
 | pr (a off : Nat)
 | pv (cs : List AV)
 | sr (a off sz len : Nat) (cap : Option Nat)
 | sv (cs : List AV) (sz len : Nat) (cap : Option Nat)
 | mp (r : Nat)
 | it (r : Nat)
 | stp (a : Nat)
 | yl (a : Nat)
 | flt (k : FloatKind) (bits : Nat)
 | fn (f : Fn) (first cap : List AV)
 | ifc (t : Nat) (v : AV)
 | agg (cs : List AV)
 | tup (vs : List AV)
 deriving Inhabited
def Wf : Value -> Bool
 | .pointer none | .slice none 0 0 | .map none | .nilFunc | .nilIface => true
 | _ => false
def Bl (s : ByteArray) : List Nat := s.data.toList.map UInt8.toNat
def Ad5 {β : Type} : List Nat -> (List Nat -> β) -> β
 | [],k => k []
 | x :: r,k => Bt x fun x => Ad5 r fun r => k (x :: r)
def Xh (v : Value) : AV :=
 match v with
 | .bool true => .bool true
 | .bool false => .bool false
 | .int k (.ofNat n) => Bt n fun n => .int k (.ofNat n)
 | .int k n => .int k n
 | .string s => Ad5 (Bl s) .str
 | .float k n => Bt n fun n => .flt k n
 | v => cond (Wf v) (.nil v) .any
def Aig : List Value -> List AV
 | [] => []
 | v :: r => Xh v :: Aig r
def Ad6 : Value -> Bool
 | .bool _ | .int _ _ | .string _ | .float _ _ => true
 | v => Wf v
def P8 : List Value -> Bool
 | [] => true
 | v :: r => Ad6 v && P8 r
def ofV (v : Value) : AV :=
 match v with
 | .agg cs => cond (P8 cs.toList) (.agg (Aig cs.toList)) .any
 | .tuple vs => .tup (Aig vs.toList)
 | .iface t x => .ifc t (Xh x)
 | .func f a b => cond (a.isEmpty && b.isEmpty) (.fn f [] []) .any
 | v => Xh v
def AV.cellsN (v : AV) (n : Nat) : Option (List AV) :=
 match v with
 | .any => none
 | .tup _ => none
 | .agg cs => cond (Nat.beq cs.length n) (some cs) none
 | v => cond (Nat.beq n 1) (some [v]) none
inductive Key where
 | bool (b : Bool)
 | int (k : IntKind) (n : Int)
 | str (l : List Nat)
 | agg (cs : List Key)
inductive XE where
 | normal
 | exit (id : Nat)
 | ret
inductive LS where
 | ready
 | busy
 | done (x : XE)
inductive AO where
 | cells (vs : List AV)
 | map (kt : Nat) (es : List (Key × AV)) (ver : Nat)
 | iter (m : Option Nat) (ver : Nat) (left : List (Key × AV)) (cur : Option (Key × AV))
 | stamp (m ver : Nat) (k : Key)
 | loop (st : LS)
 deriving Inhabited
structure Sto where
 objs : Tr AO
 next : Nat
def nx (J : Sto) : Nat := match J with | ⟨_,n⟩ => n
def Sto.get (J : Sto) (a : Nat) : Option AO := match J with | ⟨o,_⟩ => o.get a
def Sz {α β : Type} (t : Tr α) (k : Tr α -> β) : β := match t with | .e => k .e | .n a b c => k (.n a b c)
def Sto.set (J : Sto) (a : Nat) (o : AO) : Sto := match J with | ⟨t,n⟩ => Sz (t.put (a + 1) a (some o)) fun t => ⟨t,n⟩
def Sto.kill (J : Sto) (a : Nat) : Sto := match J with | ⟨t,n⟩ => Sz (t.put (a + 1) a none) fun t => ⟨t,n⟩
def Sto.new (J : Sto) (o : AO) : Sto := match J with | ⟨t,n⟩ => Sz (t.put (n + 1) n (some o)) fun t => Bt (n + 1) fun n => ⟨t,n⟩
def Sto.cells (J : Sto) (a : Nat) : Option (List AV) := match J.get a with | some (.cells vs) => some vs | _ => none
structure TI where
 desc : TypeDesc
 size : Nat
 bytes : Nat
 zero : Option (List AV)
 isAgg : Bool
def Li : TypeDesc -> Bool
 | .struct _ | .array _ _ => true
 | _ => false
def Aj5 (agg : Bool) (z : Option Value) : Option (List AV) :=
 match z with
 | some z => match z with
  | .agg cs => match agg && P8 cs.toList with | true => some (Aig cs.toList) | false => none
  | v => match !agg && Ad6 v with | true => some [Xh v] | false => none
 | none => none
def Aw (P : Program) (t : Nat) : Option TI :=
 match P.info? t,P.underlying t with
 | some i,some d => some { desc := d,size := i.size,bytes := i.bytes,zero := Aj5 (Li d) i.zero,isAgg := Li d }
 | _,_ => none
abbrev Res := Option (AV × Sto)
structure RF where
 aY : Nat
 tm : Tr AV
 nt : Nat
 ps : Array Tmp
 assign : Code
 body : Code
structure St where
 tm : Tr AV
 nt : Nat
 df : List (Nat × List AV)
 sto : Sto
inductive Tgt where
 | fn (f : Nat)
 | yl (a : Nat)
abbrev Hnd := List AV -> Sto -> Res
abbrev Rec := Tgt -> Hnd
structure Env where
 P : Program
 gl : Nat -> Option (List AV)
 sum : Nat -> Option (List AV -> Sto -> Res)
 dsum : Nat -> Option (List AV -> Sto -> Option Sto)
 byref : Nat -> Bool
 hold : Nat -> Option (Array Value -> Prop) := fun _ => none
 loops : List RF := []
 rg : Nat -> Bool := fun _ => false
 pu : Nat -> Bool := fun _ => false
def setAt : List AV -> Nat -> List AV -> Option (List AV)
 | l,0,[] => some l
 | _ :: r,0,x :: xs => match setAt r 0 xs with | some l => some (x :: l) | none => none
 | y :: r,k + 1,xs => match setAt r k xs with | some l => some (y :: l) | none => none
 | _,_,_ => none
def Di : Nat -> List AV -> Option (List AV)
 | 0,_ => some []
 | n + 1,x :: r => match Di n r with | some l => some (x :: l) | none => none
 | _ + 1,[] => none
def rep (z : List AV) : Nat -> List AV
 | 0 => []
 | n + 1 => z ++ rep z n
def Eh (ti : TI) (l : List AV) : Option AV :=
 match ti.isAgg with
 | true => match Di ti.size l with | some cs => some (.agg cs) | none => none
 | false => match l with | v :: _ => some v | [] => none
def S0 : List AV -> List (Nat × Nat × AV) -> Option (List AV)
 | cs,[] => some cs
 | cs,(off,size,v) :: r => match v.cellsN size with
  | some l => match setAt cs off l with
   | some cs' => S0 cs' r
   | none => none
  | none => none
def Lj : AV -> Option Nat
 | .int _ (.ofNat n) => some n
 | _ => none
def Hr (ti : TI) : Option AV :=
 match ti.zero with
 | some z => match ti.isAgg with | true => some (.agg z) | false => match z with | [v] => some v | _ => none
 | none => none
def Q6 (ti : TI) (v : AV) : Bool := match v with
 | .any => false
 | .tup _ => false
 | .agg cs => ti.isAgg && Nat.beq cs.length ti.size
 | _ => !ti.isAgg
def Fl : List Nat -> List Nat -> Bool
 | [],[] => true
 | x :: r,y :: s => cond (Nat.beq x y) (Fl r s) false
 | _,_ => false
def Cq : List Nat -> List Nat -> Bool
 | _,[] => false
 | [],_ :: _ => true
 | a :: x,b :: y => cond (Nat.blt a b) true (cond (Nat.beq a b) (Cq x y) false)
def Ot : Int -> Int -> Bool
 | .ofNat a,.ofNat b => Nat.beq a b
 | .negSucc a,.negSucc b => Nat.beq a b
 | _,_ => false
def S1 : Int -> Int -> Bool
 | .ofNat a,.ofNat b => Nat.ble a b
 | .negSucc a,.negSucc b => Nat.ble b a
 | .negSucc _,.ofNat _ => true
 | .ofNat _,.negSucc _ => false
def Es (a b : IntKind) : Bool := match a,b with
 | .i64,.i64 => true
 | .u8,.u8 => true
 | a,b => decide (a = b)
mutual
def Key.eq : Key -> Key -> Bool
 | .bool a,.bool b => cond a b (!b)
 | .int k a,.int k' b => Es k k' && Ot a b
 | .str a,.str b => Fl a b
 | .agg a,.agg b => Key.eqs a b
 | _,_ => false
def Key.eqs : List Key -> List Key -> Bool
 | [],[] => true
 | x :: r,y :: s => cond (Key.eq x y) (Key.eqs r s) false
 | _,_ => false
end
mutual
def Key.lt : Key -> Key -> Bool
 | .bool a,.bool b => !a && b
 | .int _ a,.int _ b => !S1 b a
 | .str a,.str b => Cq a b
 | .agg a,.agg b => Key.lts a b
 | _,_ => false
def Key.lts : List Key -> List Key -> Bool
 | x :: r,y :: s => cond (Key.lt x y) true (cond (Key.eq x y) (Key.lts r s) false)
 | _,_ => false
end
def Ani (d : TypeDesc) (v : AV) : Option Key :=
 match d,v with
 | .int j,.int k n => cond (Es j k) (some (.int k n)) none
 | .string,.str l => some (.str l)
 | .bool,.bool b => some (.bool b)
 | _,_ => none
def Yf (P : Program) : List Field -> List AV -> Option (List Key)
 | [],[] => some []
 | f :: fs,v :: vs => match Aw P f.type with
  | some ti => match Ani ti.desc v,Yf P fs vs with
   | some k, some ks => cond (f.name != "_" && Nat.beq ti.size 1) (some (k :: ks)) none
   | _,_ => none
  | none => none
 | _,_ => none
def Iv : List Field -> Nat -> Bool
 | [],_ => true
 | f :: fs,i => Nat.beq f.offset i && Iv fs (i + 1)
def Anj (P : Program) (fs : List Field) (v : AV) : Option Key :=
 match v with
 | .agg cs => match Yf P fs cs with | some l => some (.agg l) | none => none
 | _ => none
def Afw (d : TypeDesc) : List AV -> Option (List Key)
 | [] => some []
 | v :: vs => match Ani d v,Afw d vs with
  | some k,some ks => some (k :: ks)
  | _,_ => none
def Ank (d : TypeDesc) (n : Nat) (v : AV) : Option Key :=
 match v with
 | .agg cs => match Nat.beq cs.length n && !Nat.beq n 0 with
  | true => match Afw d cs with | some l => some (.agg l) | none => none
  | false => none
 | _ => none
def Hi (P : Program) (t : Nat) (v : AV) : Option Key :=
 match Aw P t with
 | some ti => match ti.desc with
  | .struct fs => match Iv fs.toList 0 && !P.stoodInHeld t with
   | true => Anj P fs.toList v
   | false => none
  | .array n e => match Aw P e with
   | some te => match Nat.beq te.size 1 && !te.isAgg with
    | true => Ank te.desc n v
    | false => none
   | none => none
  | d => Ani d v
 | none => none
def Rb : Key -> AV
 | .bool b => .bool b
 | .int k n => .int k n
 | .str l => .str l
 | .agg cs => .agg (cs.map fun | .bool b => .bool b | .int k n => .int k n | .str l => .str l | .agg _ => .any)
def Dl (k : Key) : List (Key × AV) -> Option AV
 | [] => none
 | (k',v) :: r => cond (Key.eq k k') (some v) (Dl k r)
def Q7 (k : Key) (v : AV) : List (Key × AV) -> List (Key × AV)
 | [] => []
 | (k',v') :: r => cond (Key.eq k k') ((k',v) :: r) ((k',v') :: Q7 k v r)
def Ov (k : Key) (v : AV) : List (Key × AV) -> List (Key × AV)
 | [] => [(k,v)]
 | (k',v') :: r => cond (Key.lt k k') ((k,v) :: (k',v') :: r) ((k',v') :: Ov k v r)
def Abe (k : Key) : List (Key × AV) -> List (Key × AV)
 | [] => []
 | (k',v') :: r => cond (Key.eq k k') r ((k',v') :: Abe k r)
def Fm {α : Type} : List α -> List (α × List α)
 | [] => []
 | x :: r => (x,r) :: (Fm r).map fun (y,s) => (y,x :: s)
def Ow (len : Nat) (cap : Option Nat) (n : Nat) : Bool := cond (Nat.ble n len) true (match cap with | some q => Nat.ble n q | none => false)
def Ox (cap : Option Nat) (l : Nat) : Option Nat := match cap with | some q => some (q - l) | none => none
def C1 (len : Nat) (cap : Option Nat) (lo hi mx : Option AV) : Option (Nat × Nat × Option Nat) :=
 match (match lo with | none => some 0 | some v => Lj v),(match hi with | none => some len | some v => Lj v) with
 | some l,some h =>
  match mx with
  | none => cond (Nat.ble l h && Ow len cap h) (some (l,h,Ox cap l)) none
  | some mv => match Lj mv,hi with
   | some m,some _ => cond (Nat.ble l h && Nat.ble h m && Ow len cap m) (some (l,h,some (m - l))) none
   | _,_ => none
 | _,_ => none
def Hs : List Nat -> List AV
 | [] => []
 | b :: r => .int .u8 (.ofNat b) :: Hs r
def S2 : List AV -> Option (List Nat)
 | [] => some []
 | .int .u8 (.ofNat n) :: r => match S2 r with | some l => cond (Nat.blt n 256) (some (n :: l)) none | none => none
 | _ => none
def Dj (J : Sto) (sz : Nat) (v : AV) (n : Nat) : Option (List AV) :=
 match v with
 | .sr a off _ _ _ => match J.cells a with | some vs => Di (n * sz) (vs.drop off) | none => none
 | .sv cs _ _ _ => Di (n * sz) cs
 | .nil (.slice none 0 0) => match n with | 0 => some [] | _ => none
 | .str l => match sz with | 1 => Di n (Hs l) | _ => none
 | _ => none
def lenA : AV -> Option Nat
 | .sr _ _ _ len _ => some len
 | .sv _ _ len _ => some len
 | .nil (.slice none 0 0) => some 0
 | .str l => some l.length
 | _ => none
def sizeLim : Nat := 1099511627776
def Aih : Nat := 9223372036854775807
def Jw (sz bytes n : Nat) (new old : List AV) (len : Nat) (J : Sto) : Res :=
 cond (Nat.ble ((len + n) * (bytes + 1)) sizeLim) (Bt (len + n) fun m => some (.sr (nx J) 0 sz m none,J.new (.cells (old ++ new)))) none
def Cf (J : Sto) (sz bytes : Nat) (d : AV) (n : Nat) (new : List AV) : Res :=
 match n with
 | 0 => match d with
  | .nil (.slice none 0 0) => some (d,J)
  | .sv _ _ _ _ => some (d,J)
  | .sr _ _ _ _ _ => some (d,J)
  | _ => none
 | n' + 1 => match d with
  | .nil (.slice none 0 0) => Jw sz bytes (n' + 1) new [] 0 J
  | .sv cs sz' len (some q) => cond (Nat.beq sz' sz && !Nat.ble (len + (n' + 1)) q) (Jw sz bytes (n' + 1) new cs len J) none
  | .sr a off sz' len cap => cond (Nat.beq sz' sz)
    (match J.cells a with
    | none => none
    | some vs => match Di (len * sz) (vs.drop off) with
     | none => none
     | some old => match cap with
      | some q => match Nat.ble (len + (n' + 1)) q with
       | true => match setAt vs (off + len * sz) new with
        | some vs' => Bt (len + (n' + 1)) fun m => some (.sr a off sz m (some q),J.set a (.cells vs'))
        | none => none
       | false => Jw sz bytes (n' + 1) new old len J
      | none => Jw sz bytes (n' + 1) new old len (J.kill a)) none
  | _ => none
def Mj (k : IntKind) : Int -> Bool
 | .ofNat n => match k with
  | .i64 => Nat.ble n 9223372036854775807
  | .u64 => Nat.ble n 18446744073709551615
  | .u8 => Nat.ble n 255
  | .i32 => Nat.ble n 2147483647
  | .u32 => Nat.ble n 4294967295
  | .i8 => Nat.ble n 127
  | .i16 => Nat.ble n 32767
  | .u16 => Nat.ble n 65535
 | .negSucc n => match k with
  | .i64 => Nat.ble n 9223372036854775807
  | .i32 => Nat.ble n 2147483647
  | .i8 => Nat.ble n 127
  | .i16 => Nat.ble n 32767
  | _ => false
def N3 (k : IntKind) (n : Int) : AV :=
 match n with
 | .ofNat m => Bt m fun m => cond (Mj k (.ofNat m)) (.int k (.ofNat m)) (.int k (k.wrap (.ofNat m)))
 | .negSucc m => Bt m fun m => cond (Mj k (.negSucc m)) (.int k (.negSucc m)) (.int k (k.wrap (.negSucc m)))
def Aii : Int -> Int -> Int
 | .ofNat a,.ofNat b => .ofNat (a + b)
 | a,b => a + b
def Ad7 : Int -> Int -> Int
 | .ofNat a,.ofNat b => cond (Nat.ble b a) (.ofNat (a - b)) (.ofNat a - .ofNat b)
 | a,b => a - b
def Gq (op : BinOp) (k : IntKind) (a b : Int) : Option AV :=
 match op with
 | .add => some (N3 k (Aii a b))
 | .sub => some (N3 k (Ad7 a b))
 | .mul => some (N3 k (a * b))
 | .eql => some (.bool (Ot a b))
 | .neq => some (.bool (!Ot a b))
 | .leq => some (.bool (S1 a b))
 | .lss => some (.bool (!S1 b a))
 | .gtr => some (.bool (!S1 a b))
 | .geq => some (.bool (S1 b a))
 | .quo => match a,b with
  | .ofNat a,.ofNat (b + 1) => some (N3 k (.ofNat (a / (b + 1))))
  | _,_ => none
 | .rem => match a,b with
  | .ofNat a,.ofNat (b + 1) => Bt (a % (b + 1)) fun m => some (.int k (.ofNat m))
  | _,_ => none
 | _ => none
def Wg (op : BinOp) (a b : List Nat) : Option AV :=
 match op with
 | .eql => some (.bool (Fl a b))
 | .neq => some (.bool (!Fl a b))
 | .lss => some (.bool (Cq a b))
 | .leq => some (.bool (Cq a b || Fl a b))
 | .gtr => some (.bool (!(Cq a b || Fl a b)))
 | .geq => some (.bool (!Cq a b))
 | .add => cond (Nat.ble (a.length + b.length) Aih) (some (.str (a ++ b))) none
 | _ => none
def Rm (d : TypeDesc) (x y : AV) : Bool :=
 match y with
 | .nil (.slice none 0 0) => match d,x with | .slice _,.sr _ _ _ _ _ => true | .slice _,.sv _ _ (_ + 1) _ => true | _,_ => false
 | .nil (.pointer none) => match d,x with | .pointer _,.pr _ _ => true | .pointer _,.pv _ => true | _,_ => false
 | .nil (.map none) => match d,x with | .map _ _,.mp _ => true | _,_ => false
 | .nil .nilFunc => match d,x with | .func _ _ _,.fn _ _ _ => true | _,_ => false
 | .nil .nilIface => match d,x with | .interface _,.ifc _ _ => true | _,_ => false
 | _ => false
def S3 (d : TypeDesc) (x y : AV) : Bool :=
 match d,x,y with
 | .slice _,.nil (.slice none 0 0),.nil (.slice none 0 0) => true
 | .pointer _,.nil (.pointer none),.nil (.pointer none) => true
 | .map _ _,.nil (.map none),.nil (.map none) => true
 | .func _ _ _,.nil .nilFunc,.nil .nilFunc => true
 | .interface _,.nil .nilIface,.nil .nilIface => true
 | _,_,_ => false
def Afx (d : TypeDesc) (x y : AV) : Option Bool :=
 cond (S3 d x y) (some true) (cond (Rm d x y || Rm d y x) (some false) none)
def Ck : Operand -> Bool
 | .const _ => true
 | _ => false
def S4 (P : Program) (t : Nat) (x y : AV) : Option Bool :=
 match x,y with
 | .agg l,.agg m => match Hi P t (.agg l),Hi P t (.agg m) with
  | some a,some b => some (Key.eq a b)
  | _,_ => none
 | _,_ => none
def Jk (P : Program) (ti : TI) (t : Nat) (cst : Bool) (x y : AV) : Option Bool :=
 match cond cst (Afx ti.desc x y) none with
 | some b => some b
 | none => S4 P t x y
def S5 (o : Option Ordering) (x : Ordering) : Bool := match o,x with
 | some .lt,.lt => true
 | some .eq,.eq => true
 | some .gt,.gt => true
 | _,_ => false
def Rn (k : FloatKind) (r : Option Nat) : Option AV := match r with | some n => Bt n fun n => some (.flt k n) | none => none
def Anl (op : BinOp) (k : FloatKind) (a b : Nat) : Option AV :=
 match op with
 | .add => Rn k (k.format.add a b)
 | .sub => Rn k (k.format.sub a b)
 | .mul => Rn k (k.format.mul a b)
 | .quo => Rn k (k.format.div a b)
 | .eql => some (.bool (S5 (k.format.order a b) .eq))
 | .neq => some (.bool (!S5 (k.format.order a b) .eq))
 | .lss => some (.bool (S5 (k.format.order a b) .lt))
 | .leq => some (.bool (S5 (k.format.order a b) .lt || S5 (k.format.order a b) .eq))
 | .gtr => some (.bool (S5 (k.format.order a b) .gt))
 | .geq => some (.bool (S5 (k.format.order a b) .gt || S5 (k.format.order a b) .eq))
 | _ => none
def Yg (P : Program) (op : BinOp) (t : Nat) (cst : Bool) (x y : AV) : Option AV :=
 match Aw P t with
 | some ti => match x,y with
  | .int k a,.int k' b => cond (Es k k') (Gq op k a b) none
  | .str a,.str b => Wg op a b
  | .flt k a,.flt k' b => match decide (k = k') with | true => Anl op k a b | false => none
  | .bool a,.bool b => match op,ti.desc with
   | .eql,.bool => some (.bool (cond a b (!b)))
   | .neq,.bool => some (.bool (!cond a b (!b)))
   | _,_ => none
  | x,y => match op with
   | .eql => match Jk P ti t cst x y with
    | some b => some (.bool b)
    | none => none
   | .neq => match Jk P ti t cst x y with
    | some b => some (.bool (!b))
    | none => none
   | _ => none
 | none => none
def unA (op : UnOp) (x : AV) : Option AV :=
 match op,x with
 | .not,.bool b => some (.bool (!b))
 | .neg,.int k n => some (N3 k (Ad7 0 n))
 | _,_ => none
def Ro (x : AV) (n : Nat) : Option AV :=
 match x with
 | .pr a off => Bt (off + n) fun o => some (.pr a o)
 | .pv cs => some (.pv (cs.drop n))
 | _ => none
def opd (E : Env) (tm : Tr AV) : Operand -> AV
 | .tmp t => match tm.get t with | some v => v | none => .any
 | .const v => ofV v
 | .global g => match E.gl g with | some cs => .pv cs | none => .any
 | .func f => .fn (.func f) [] []
def opds (E : Env) (tm : Tr AV) : List Operand -> List AV
 | [] => []
 | x :: r => opd E tm x :: opds E tm r
def opdO (E : Env) (tm : Tr AV) : Option Operand -> Option AV
 | none => none
 | some x => some (opd E tm x)
def Ab2 (c a b : AV) (J : Sto) : Res := match c with
 | .bool true => some (a,J)
 | .bool false => some (b,J)
 | _ => none
def Ib (x : AV) (J : Sto) : Res := match x with
 | .pr a off => some (.pr a off,J)
 | .pv cs => some (.pv cs,J)
 | .fn (.func f) p q => some (.fn (.func f) p q,J)
 | _ => none
def Yh (z : List AV) (J : Sto) : Res := some (.pr (nx J) 0,J.new (.cells z))
def sBox (size : Nat) (x : AV) (J : Sto) : Res := match x.cellsN size with
 | some cs => some (.pr (nx J) 0,J.new (.cells cs))
 | none => none
def Ir (P : Program) (E : Env) (tm : Tr AV) (fs : List Field) : List (Nat × Operand) -> Option (List (Nat × Nat × AV))
 | [] => some []
 | (i,x) :: r => match fs[i]?,Ir P E tm fs r with
  | some f,some l => match Aw P f.type with
   | some ti => some ((f.offset,ti.size,opd E tm x) :: l)
   | none => none
  | _,_ => none
def P9 (P : Program) : List Field -> Bool
 | [] => true
 | f :: r => match P.info? f.type with | some _ => P9 P r | none => false
def Ht (E : Env) (tm : Tr AV) (size : Nat) : List (Nat × Operand) -> List (Nat × Nat × AV)
 | [] => []
 | (i,x) :: r => (i * size,size,opd E tm x) :: Ht E tm size r
def Lk (z : List AV) (ps : List (Nat × Nat × AV)) (J : Sto) : Res := match S0 z ps with
 | some cs => some (.agg cs,J)
 | none => none
def Hj (z : List AV) (size len : Nat) (byref : Bool) (ps : List (Nat × Nat × AV)) (J : Sto) : Res := match S0 (rep z len) ps with
 | some cs => match byref with
  | true => some (.sr (nx J) 0 size len (some len),J.new (.cells cs))
  | false => some (.sv cs size len (some len),J)
 | none => none
def Lx (ti : TI) (x : AV) (J : Sto) : Res := match x with
 | .pr a off => match J.cells a with
  | some vs => match Eh ti (vs.drop off) with | some v => some (v,J) | none => none
  | none => none
 | .pv cs => match Eh ti cs with | some v => some (v,J) | none => none
 | _ => none
def An : AV := .tup []
def Uy (size : Nat) (x v : AV) (J : Sto) : Res := match x,v.cellsN size with
 | .pr a off,some l => match J.cells a with
  | some vs => match setAt vs off l with
   | some vs' => some (An,J.set a (.cells vs'))
   | none => none
  | none => none
 | _,_ => none
def Uz (r : Option AV) (J : Sto) : Res := match r with | some v => some (v,J) | none => none
def S6 (k : IntKind) (x : AV) (J : Sto) : Res := match x with
 | .int _ n => some (N3 k n,J)
 | _ => none
def S7 (k : FloatKind) (x : AV) (J : Sto) : Res := match x with
 | .int _ n => Bt (k.nearest n) fun m => some (.flt k m,J)
 | _ => none
def S8 (x : AV) (J : Sto) : Res := match x with
 | .str l => some (.str l,J)
 | _ => none
def Jl (x : AV) (J : Sto) : Res := match x with
 | .str l => match l with
  | [] => some (.sv [] 1 0 none,J)
  | l => some (.sv (Hs l) 1 l.length none,J)
 | _ => none
def Wh : AV -> Bool
 | .str _ => false
 | _ => true
def Jm (x : AV) (J : Sto) : Res := match Wh x,lenA x with
 | true,some n => match Dj J 1 x n with
  | some cs => match S2 cs with
   | some l => some (.str l,J)
   | none => none
  | none => none
 | _,_ => none
def Yi (x : AV) (J : Sto) : Res := some (x,J)
def sIfc (t : Nat) (x : AV) (J : Sto) : Res := some (.ifc t x,J)
def Aj6 (f : Fn) (a b : List AV) (J : Sto) : Res := some (.fn f a b,J)
def S9 (kt : Nat) (J : Sto) : Res := some (.mp (nx J),J.new (.map kt [] 0))
def Va (kt : Nat) (x : AV) (J : Sto) : Res := match x with
 | .int _ _ => some (.mp (nx J),J.new (.map kt [] 0))
 | _ => none
def Mk (z : List AV) (size bytes : Nat) (l c : AV) (J : Sto) : Res := match l,c with
 | .int .i64 (.ofNat l),.int .i64 (.ofNat c) => cond (Nat.ble l c && Nat.ble (c * (bytes + 1)) sizeLim)
   (some (.sr (nx J) 0 size l (some c),J.new (.cells (rep z c)))) none
 | _,_ => none
def Ly (x : AV) (lo hi : Option AV) (J : Sto) : Res := match x with
 | .str l => match C1 l.length (some l.length) lo hi none with
  | some (a,b,_) => some (.str ((l.take b).drop a),J)
  | none => none
 | _ => none
def Ml (size : Nat) (x : AV) (lo hi mx : Option AV) (J : Sto) : Res := match x with
 | .sr a off sz len cap => match Nat.beq sz size with
  | true => match C1 len cap lo hi mx with
   | some (l,h,c) => Bt (off + l * sz) fun o => Bt (h - l) fun m => some (.sr a o sz m c,J)
   | none => none
  | false => none
 | .sv cs sz len cap => match Nat.beq sz size with
  | true => match C1 len cap lo hi mx with
   | some (l,h,c) => match Di ((h - l) * sz) (cs.drop (l * sz)) with
    | some cs' => Bt (h - l) fun m => some (.sv cs' sz m c,J)
    | none => none
   | none => none
  | false => none
 | .nil (.slice none 0 0) => match C1 0 (some 0) lo hi mx with
  | some _ => some (.nil (.slice none 0 0),J)
  | none => none
 | _ => none
def Lz (n size : Nat) (x : AV) (lo hi mx : Option AV) (J : Sto) : Res := match x with
 | .pr a off => match J.cells a with
  | some vs => match Nat.ble 1 vs.length && Nat.ble (off + n * size) vs.length with
   | true => match C1 n (some n) lo hi mx with
    | some (l,h,c) => Bt (off + l * size) fun o => Bt (h - l) fun m => some (.sr a o size m c,J)
    | none => none
   | false => none
  | none => none
 | _ => none
def Anm (n : Nat) (x : AV) (J : Sto) : Res := match Ro x n with | some v => some (v,J) | none => none
def Yj (ti : TI) (off : Nat) (x : AV) (J : Sto) : Res := match x with
 | .agg cs => match Eh ti (cs.drop off) with | some v => some (v,J) | none => none
 | _ => none
def Ha (size : Nat) (x i : AV) (J : Sto) : Res := match i with
 | .int _ (.ofNat n) => match x with
  | .sr a off _ len _ => cond (Nat.blt n len) (Bt (off + n * size) fun o => some (.pr a o,J)) none
  | .sv cs _ len _ => cond (Nat.blt n len) (some (.pv (cs.drop (n * size)),J)) none
  | _ => none
 | _ => none
def E7 (len size : Nat) (x i : AV) (J : Sto) : Res := match i with
 | .int _ (.ofNat n) => cond (Nat.blt n len) (match Ro x (n * size) with | some v => some (v,J) | none => none) none
 | _ => none
def Jt (x i : AV) (J : Sto) : Res := match x,i with
 | .str l,.int _ (.ofNat n) => match l[n]? with
  | some b => some (.int .u8 (.ofNat b),J)
  | none => none
 | _,_ => none
def Ju (te : TI) (len : Nat) (x i : AV) (J : Sto) : Res := match x,i with
 | .agg cs,.int _ (.ofNat n) => cond (Nat.blt n len) (match Eh te (cs.drop (n * te.size)) with | some v => some (v,J) | none => none) none
 | _,_ => none
def Ta (ok : Bool) (v : AV) (b : Bool) : AV := match ok with | true => .tup [v,.bool b] | false => v
def Jn (kt : Nat) (key : Option Key) (z : AV) (ok : Bool) (m : AV) (J : Sto) : Res := match key with
 | some kv => match m with
  | .mp r => match J.get r with
   | some (.map kt' es _) => match Nat.beq kt' kt with
    | true => match Dl kv es with
     | some v => some (Ta ok v true,J)
     | none => some (Ta ok z false,J)
    | false => none
   | _ => none
  | .nil (.map none) => some (Ta ok z false,J)
  | _ => none
 | none => none
def Mm (kt : Nat) (key : Option Key) (te : TI) (m v : AV) (J : Sto) : Res := match key,m with
 | some kv,.mp r => match J.get r with
  | some (.map kt' es ver) => match Nat.beq kt' kt && Q6 te v with
   | true => match Dl kv es with
    | some _ => Bt (ver + 1) fun w => some (An,J.set r (.map kt (Q7 kv v es) w))
    | none => Bt (ver + 1) fun w => some (An,J.set r (.map kt (Ov kv v es) w))
   | false => none
  | _ => none
 | _,_ => none
def Qa (kt : Nat) (key : Option Key) (z : AV) (m : AV) (J : Sto) : Res := match key,m with
 | some kv,.mp r => match J.get r with
  | some (.map kt' es ver) => match Nat.beq kt' kt with
   | true => Bt (ver + 1) fun w => match Dl kv es with
    | some v => some (.tup [v,.stp (nx J)],(J.set r (.map kt es w)).new (.stamp r w kv))
    | none => some (.tup [z,.stp (nx J)],(J.set r (.map kt (Ov kv z es) w)).new (.stamp r w kv))
   | false => none
  | _ => none
 | _,_ => none
def K2 (te : TI) (m st v : AV) (J : Sto) : Res := match m,st with
 | .mp r,.stp a => match J.get a,J.get r with
  | some (.stamp r' w kv),some (.map kt es w') => match Nat.beq r r' && Nat.beq w w' && Q6 te v with
   | true => match Dl kv es with
    | some _ => Bt (w + 1) fun w => some (An,J.set r (.map kt (Q7 kv v es) w))
    | none => none
   | false => none
  | _,_ => none
 | _,_ => none
def Ad8 (x : AV) (J : Sto) : Res := match x with
 | .nil (.map none) => some (.it (nx J),J.new (.iter none 0 [] none))
 | .mp r => match J.get r with
  | some (.map _ es ver) => some (.it (nx J),J.new (.iter (some r) ver es none))
  | _ => none
 | _ => none
def Yk (x : AV) (J : Sto) : Res := match x with
 | .it a => match J.get a with
  | some (.iter (some r) ver _ (some (k,v))) => match J.get r with
   | some (.map _ _ ver') => cond (Nat.beq ver ver') (some (.tup [Rb k,v],J)) none
   | _ => none
  | _ => none
 | _ => none
def L0 (i : Nat) (x : AV) (J : Sto) : Res := match x with
 | .tup vs => match vs[i]? with
  | some v => some (v,J)
  | none => none
 | _ => none
def Mo (t : Nat) (z : Option AV) (ok : Bool) (x : AV) (J : Sto) : Res := match x with
 | .ifc t' v => match Nat.beq t' t with
  | true => some (Ta ok v true,J)
  | false => match ok,z with | true,some z => some (.tup [z,.bool false],J) | _,_ => none
 | .nil .nilIface => match ok,z with | true,some z => some (.tup [z,.bool false],J) | _,_ => none
 | _ => none
def sLen (x : AV) (J : Sto) : Res := match x with
 | .sr _ _ _ len _ => some (.int .i64 (.ofNat len),J)
 | .sv _ _ len _ => some (.int .i64 (.ofNat len),J)
 | .nil (.slice none 0 0) => some (.int .i64 0,J)
 | _ => none
def Xy (x : AV) (J : Sto) : Res := match x with
 | .str l => Bt l.length fun n => some (.int .i64 (.ofNat n),J)
 | _ => none
def Tb (x : AV) (J : Sto) : Res := match x with
 | .mp r => match J.get r with
  | some (.map _ es _) => Bt es.length fun n => some (.int .i64 (.ofNat n),J)
  | _ => none
 | .nil (.map none) => some (.int .i64 0,J)
 | _ => none
def I6 (x : AV) (J : Sto) : Res := match x with
 | .sr _ _ _ _ (some q) => some (.int .i64 (.ofNat q),J)
 | .sv _ _ _ (some q) => some (.int .i64 (.ofNat q),J)
 | .nil (.slice none 0 0) => some (.int .i64 0,J)
 | _ => none
def Tc (size bytes : Nat) (d s : AV) (J : Sto) : Res := match lenA s with
 | some n => match Dj J size s n with
  | some new => Cf J size bytes d n new
  | none => none
 | none => none
def Td (z : List AV) (size bytes : Nat) (d s : AV) (J : Sto) : Res := match s with
 | .int .i64 (.ofNat n) => cond (Nat.ble (n * (bytes + 1)) sizeLim) (Cf J size bytes d n (rep z n)) none
 | _ => none
def Qb (x : AV) (J : Sto) : Res := match x with
 | .mp r => match J.get r with
  | some (.map kt _ ver) => Bt (ver + 1) fun w => some (An,J.set r (.map kt [] w))
  | _ => none
 | .nil (.map none) => some (An,J)
 | _ => none
def Ad9 (z : List AV) (size : Nat) (x : AV) (J : Sto) : Res := match x with
 | .sr a off sz len _ => match Nat.beq sz size,J.cells a with
  | true,some vs => match setAt vs off (rep z len) with
   | some vs' => some (An,J.set a (.cells vs'))
   | none => none
  | _,_ => none
 | .nil (.slice none 0 0) => some (An,J)
 | .sv _ _ 0 _ => some (An,J)
 | _ => none
def Aj7 (size : Nat) (d s : AV) (J : Sto) : Res := match lenA d,lenA s with
 | some dl,some sl => match Dj J size s (Nat.min sl dl) with
  | some cs => match d with
   | .sr a off sz _ _ => match Nat.beq sz size,J.cells a with
    | true,some vs => match setAt vs off cs with
     | some vs' => Bt (Nat.min sl dl) fun n => some (.int .i64 (.ofNat n),J.set a (.cells vs'))
     | none => none
    | _,_ => none
   | .nil (.slice none 0 0) => some (.int .i64 0,J)
   | _ => none
  | none => none
 | _,_ => none
def Aea (kt : Nat) (key : Option Key) (m : AV) (J : Sto) : Res := match key,m with
 | some kv,.mp r => match J.get r with
  | some (.map kt' es ver) => match Nat.beq kt' kt with
   | true => Bt (ver + 1) fun w => some (An,J.set r (.map kt (Abe kv es) w))
   | false => none
  | _ => none
 | some _,.nil (.map none) => some (An,J)
 | _,_ => none
def Aij (a b : Int) : Int := cond (S1 a b) a b
def Jx (a b : Int) : Int := cond (S1 b a) a b
def Yl (f : Int -> Int -> Int) (x y : AV) (J : Sto) : Res := match x,y with
 | .int k a,.int k' b => cond (Es k k') (some (.int k (f a b),J)) none
 | _,_ => none
def Aj8 (x y z : AV) (J : Sto) : Res := match x,y,z with
 | .int k a,.int k' b,.int k'' c => cond (Es k k' && Es k k'') (some (.int k (Jx (Jx a b) c),J)) none
 | _,_,_ => none
def Dp (E : Env) (b : Builtin) (ti : TI) (ts : List Nat) (x : AV) (xs : List AV) (J : Sto) : Res :=
 match b with
 | .len => match ti.desc with
  | .slice _ => sLen x J
  | .string => Xy x J
  | .map _ _ => Tb x J
  | .array n _ => some (.int .i64 (.ofNat n),J)
  | _ => none
 | .cap => match ti.desc with
  | .slice _ => I6 x J
  | _ => none
 | .clear => match ti.desc with
  | .map _ _ => Qb x J
  | .slice e => match Aw E.P e with
   | some te => match te.zero with
    | some z => match Nat.beq z.length te.size with
     | true => Ad9 z te.size x J
     | false => none
    | none => none
   | none => none
  | _ => none
 | .append => match ti.desc,ts,xs with
  | .slice e,t2 :: _,y :: _ => match Aw E.P e,Aw E.P t2 with
   | some te,some tx => match te.zero with
    | some z => match Nat.beq z.length te.size with
     | true => match tx.desc with
      | .slice _ => Tc te.size te.bytes x y J
      | .string => Tc te.size te.bytes x y J
      | .int _ => Td z te.size te.bytes x y J
      | _ => none
     | false => none
    | none => none
   | _,_ => none
  | _,_,_ => none
 | .copy => match ti.desc,xs with
  | .slice e,y :: _ => match Aw E.P e with
   | some te => Aj7 te.size x y J
   | none => none
  | _,_ => none
 | .delete => match ti.desc,xs with
  | .map kt _,y :: _ => Aea kt (Hi E.P kt y) x J
  | _,_ => none
 | .min => match xs with
  | [y] => Yl Aij x y J
  | _ => none
 | .max => match xs with
  | [y] => Yl Jx x y J
  | [y,z] => Aj8 x y z J
  | _ => none
 | _ => none
def Ar (E : Env) (op : Op) (tm : Tr AV) (J : Sto) : Res :=
 match op with
 | .move x => Yi (opd E tm x) J
 | .assign x => Yi (opd E tm x) J
 | .pick c a b => Ab2 (opd E tm c) (opd E tm a) (opd E tm b) J
 | .nilCheck x => Ib (opd E tm x) J
 | .alloc t => match Aw E.P t with
  | some ti => match ti.zero with | some z => Yh z J | none => none
  | none => none
 | .box t x => match Aw E.P t with
  | some ti => sBox ti.size (opd E tm x) J
  | none => none
 | .build t parts => match Aw E.P t with
  | some ti => match ti.zero,ti.desc with
   | some z,.struct fs => match P9 E.P fs.toList,Ir E.P E tm fs.toList parts.toList with
    | true,some ps => Lk z ps J
    | _,_ => none
   | some z,.array _ e => match Aw E.P e with
    | some te => Lk z (Ht E tm te.size parts.toList) J
    | none => none
   | _,_ => none
  | none => none
 | .buildSlice t len parts => match Aw E.P t with
  | some ti => match ti.desc with
   | .slice e => match Aw E.P e with
    | some te => match te.zero with
     | some z => match Nat.ble (len * te.size) 16777216 && Nat.beq z.length te.size with
      | true => Hj z te.size len (E.byref e) (Ht E tm te.size parts.toList) J
      | false => none
     | none => none
    | none => none
   | _ => none
  | none => none
 | .load t x => match Aw E.P t with
  | some ti => Lx ti (opd E tm x) J
  | none => none
 | .store t x v => match Aw E.P t with
  | some ti => Uy ti.size (opd E tm x) (opd E tm v) J
  | none => none
 | .binOp op t x y _ => Uz (Yg E.P op t (Ck x || Ck y) (opd E tm x) (opd E tm y)) J
 | .unOp op _ x => Uz (unA op (opd E tm x)) J
 | .convert s d x => match Aw E.P s,Aw E.P d with
  | some ts,some td => match td.desc with
   | .int k => S6 k (opd E tm x) J
   | .float k => S7 k (opd E tm x) J
   | .string => match ts.desc with
    | .string => S8 (opd E tm x) J
    | .slice e => match Aw E.P e with
     | some te => match te.desc with
      | .int .u8 => Jm (opd E tm x) J
      | _ => none
     | none => none
    | _ => none
   | .slice e => match ts.desc,Aw E.P e with
    | .string,some te => match te.desc with
     | .int .u8 => Jl (opd E tm x) J
     | _ => none
    | _,_ => none
   | _ => none
  | _,_ => none
 | .makeInterface t x => match Aw E.P t with
  | some ti => match ti.desc with
   | .interface _ => none
   | _ => sIfc t (opd E tm x) J
  | none => none
 | .makeFunc f first captured => Aj6 f (opds E tm first.toList) (opds E tm captured.toList) J
 | .makeMap t r => match Aw E.P t with
  | some ti => match ti.desc,r with
   | .map kt _,none => S9 kt J
   | .map kt _,some h => Va kt (opd E tm h) J
   | _,_ => none
  | none => none
 | .makeSlice t l c => match Aw E.P t with
  | some ti => match ti.desc with
   | .slice e => match Aw E.P e with
    | some te => match te.zero with
     | some z => match Nat.beq z.length te.size with
      | true => Mk z te.size te.bytes (opd E tm l) (opd E tm c) J
      | false => none
     | none => none
    | none => none
   | _ => none
  | none => none
 | .slice t x lo hi mx => match Aw E.P t with
  | some ti => match ti.desc with
   | .string => match mx with | none => Ly (opd E tm x) (opdO E tm lo) (opdO E tm hi) J | some _ => none
   | .slice e => match Aw E.P e with
    | some te => Ml te.size (opd E tm x) (opdO E tm lo) (opdO E tm hi) (opdO E tm mx) J
    | none => none
   | .array n ee => match Aw E.P ee with
    | some te => Lz n te.size (opd E tm x) (opdO E tm lo) (opdO E tm hi) (opdO E tm mx) J
    | none => none
   | _ => none
  | none => none
 | .fieldAddr t x i => match Aw E.P t with
  | some ti => match ti.desc with
   | .struct fs => match fs.toList[i]? with
    | some f => match Aw E.P f.type with
     | some tf => match tf.size with
      | 0 => none
      | _ + 1 => Anm f.offset (opd E tm x) J
     | none => none
    | none => none
   | _ => none
  | none => none
 | .field t x i => match Aw E.P t with
  | some ti => match ti.desc with
   | .struct fs => match fs.toList[i]? with
    | some f => match Aw E.P f.type with
     | some tf => Yj tf f.offset (opd E tm x) J
     | none => none
    | none => none
   | _ => none
  | none => none
 | .indexAddr t x i => match Aw E.P t with
  | some ti => match ti.desc with
   | .slice e => match Aw E.P e with
    | some te => Ha te.size (opd E tm x) (opd E tm i) J
    | none => none
   | .array len e => match Aw E.P e with
    | some te => E7 len te.size (opd E tm x) (opd E tm i) J
    | none => none
   | _ => none
  | none => none
 | .index t x i => match Aw E.P t with
  | some ti => match ti.desc with
   | .string => Jt (opd E tm x) (opd E tm i) J
   | .array len e => match Aw E.P e with
    | some te => Ju te len (opd E tm x) (opd E tm i) J
    | none => none
   | _ => none
  | none => none
 | .lookup t m k ok => match Aw E.P t with
  | some ti => match ti.desc with
   | .map kt et => match Aw E.P et with
    | some te => match Hr te with
     | some z => Jn kt (Hi E.P kt (opd E tm k)) z ok (opd E tm m) J
     | none => none
    | none => none
   | _ => none
  | none => none
 | .mapUpdate t m k v => match Aw E.P t with
  | some ti => match ti.desc with
   | .map kt et => match Aw E.P et with
    | some te => Mm kt (Hi E.P kt (opd E tm k)) te (opd E tm m) (opd E tm v) J
    | none => none
   | _ => none
  | none => none
 | .mapEntry t m k => match Aw E.P t with
  | some ti => match ti.desc with
   | .map kt et => match Aw E.P et with
    | some te => match Hr te with
     | some z => Qa kt (Hi E.P kt (opd E tm k)) z (opd E tm m) J
     | none => none
    | none => none
   | _ => none
  | none => none
 | .entryStore t m st v => match Aw E.P t with
  | some ti => match ti.desc with
   | .map _ et => match Aw E.P et with
    | some te => K2 te (opd E tm m) (opd E tm st) (opd E tm v) J
    | none => none
   | _ => none
  | none => none
 | .range t x => match Aw E.P t with
  | some ti => match ti.desc with
   | .map _ _ => Ad8 (opd E tm x) J
   | _ => none
  | none => none
 | .entry x => Yk (opd E tm x) J
 | .extract x i => L0 i (opd E tm x) J
 | .typeAssert x _ t ok => match Aw E.P t with
  | some ti => match ti.desc with
   | .interface _ => none
   | _ => Mo t (Hr ti) ok (opd E tm x) J
  | none => none
 | .call c => match c.callee with
  | .builtin b => match c.argTypes.toList,c.args.toList with
   | t :: ts,x :: xs => match Aw E.P t with
    | some ti => Dp E b ti ts (opd E tm x) (opds E tm xs) J
    | none => none
   | _,_ => none
  | _ => none
 | _ => none
inductive Cls where
 | pure | read | eff
 deriving DecidableEq
def A5 (E : Env) : Op -> Cls
 | .move _ | .assign _ | .pick .. | .nilCheck _ | .build .. | .fieldAddr .. | .field .. | .indexAddr .. | .index .. | .binOp .. | .unOp .. | .makeInterface .. | .makeFunc .. | .extract .. | .typeAssert .. => .pure
 | .slice t _ _ _ _ => match Aw E.P t with
  | some ti => match ti.desc with
   | .array _ _ => .read
   | _ => .pure
  | none => .read
 | .load .. | .lookup .. | .entry _ | .convert .. => .read
 | .buildSlice t _ _ => match Aw E.P t with
  | some ti => match ti.desc with
   | .slice e => match E.byref e with | true => .eff | false => .pure
   | _ => .eff
  | none => .eff
 | .call c => match c.callee with
  | .builtin .len => .read
  | .builtin .cap => .pure
  | .builtin .min => .pure
  | .builtin .max => .pure
  | .value (.func f) => match E.pu f with | true => .pure | false => .eff
  | _ => .eff
 | _ => .eff
def Gh : Nat := 4294967295
def Hu (d : Option Nat) (tm : Tr AV) (nt : Nat) (v : AV) : Option (Tr AV) :=
 match d with
 | none => some tm
 | some d => cond (Nat.blt d nt) (Sz (tm.put (d + 1) d (some v)) some) none
def Aik (a b : Value) : Bool :=
 match a,b with
 | .pointer none,.pointer none => true
 | .slice none 0 0,.slice none 0 0 => true
 | .map none,.map none => true
 | .nilFunc,.nilFunc => true
 | .nilIface,.nilIface => true
 | _,_ => false
def Ano : Fn -> Fn -> Bool
 | .func a,.func b => Nat.beq a b
 | _,_ => false
def beqO (a b : Option Nat) : Bool := match a,b with | none,none => true | some x,some y => Nat.beq x y | _,_ => false
mutual
def AV.beq : AV -> AV -> Bool
 | .any,.any => true
 | .bool a,.bool b => cond a b (!b)
 | .int k a,.int k' b => Es k k' && Ot a b
 | .str a,.str b => Fl a b
 | .nil a,.nil b => Aik a b
 | .pr a o,.pr b p => Nat.beq a b && Nat.beq o p
 | .pv l,.pv m => AV.beqs l m
 | .sr a o s n c,.sr b p t m d => Nat.beq a b && Nat.beq o p && Nat.beq s t && Nat.beq n m && beqO c d
 | .sv l s n c,.sv m t k d => AV.beqs l m && Nat.beq s t && Nat.beq n k && beqO c d
 | .mp a,.mp b => Nat.beq a b
 | .it a,.it b => Nat.beq a b
 | .stp a,.stp b => Nat.beq a b
 | .yl a,.yl b => Nat.beq a b
 | .flt k a,.flt k' b => decide (k = k') && Nat.beq a b
 | .fn f a b,.fn h c d => Ano f h && AV.beqs a c && AV.beqs b d
 | .ifc t a,.ifc u b => Nat.beq t u && AV.beq a b
 | .agg l,.agg m => AV.beqs l m
 | .tup l,.tup m => AV.beqs l m
 | _,_ => false
def AV.beqs : List AV -> List AV -> Bool
 | [],[] => true
 | x :: r,y :: s => AV.beq x y && AV.beqs r s
 | _,_ => false
end
def AV.join (a b : AV) : AV := cond (AV.beq a b) a .any
def Ic : List AV -> List AV -> Option (List AV)
 | [],[] => some []
 | x :: r,y :: s => match Ic r s with | some l => some (AV.join x y :: l) | none => none
 | _,_ => none
def Rp : List (Key × AV) -> List (Key × AV) -> Option (List (Key × AV))
 | [],[] => some []
 | (k,x) :: r,(l,y) :: s => cond (Key.eq k l) (match Rp r s with | some t => some ((k,AV.join x y) :: t) | none => none) none
 | _,_ => none
def Anp : AO -> AO -> Option AO
 | .cells a,.cells b => match Ic a b with | some l => some (.cells l) | none => none
 | .map k a v,.map l b w => cond (Nat.beq v w && Nat.beq k l) (match Rp a b with | some l => some (.map k l v) | none => none) none
 | _,_ => none
def Gi : Tr AV -> Tr AV -> Tr AV
 | .n (some x) l r,.n (some y) l' r' => .n (some (AV.join x y)) (Gi l l') (Gi r r')
 | .n _ l r,.n _ l' r' => .n none (Gi l l') (Gi r r')
 | _,_ => .e
def C3 : Tr AO -> Tr AO -> Tr AO
 | .n (some x) l r,.n (some y) l' r' => .n (Anp x y) (C3 l l') (C3 r r')
 | .n _ l r,.n _ l' r' => .n none (C3 l l') (C3 r r')
 | _,_ => .e
def Te (a b : Sto) : Option Sto := cond (Nat.beq a.next b.next) (some ⟨C3 a.objs b.objs,a.next⟩) none
def Ail (a b : St) : Option St :=
 match a.df,b.df with
 | [],[] => cond (Nat.beq a.nt b.nt) (match Te a.sto b.sto with | some J => some ⟨Gi a.tm b.tm,a.nt,[],J⟩ | none => none) none
 | _,_ => none
def XE.beq : XE -> XE -> Bool
 | .normal,.normal => true
 | .exit a,.exit b => Nat.beq a b
 | .ret,.ret => true
 | _,_ => false
def Tf : List (XE × St) -> Option (List (XE × St))
 | [] => none
 | x :: r => match r with
  | [] => some [x]
  | y :: s => match Tf (y :: s) with
   | some [z] => cond (XE.beq x.1 z.1) (match Ail x.2 z.2 with | some t => some [(x.1,t)] | none => none) none
   | _ => none
def Tg : Op -> Bool
 | .defer _ => true
 | _ => false
def E4 (l : List Oper) : Bool := l.all fun o => !Tg o.op
def Hb : Code -> Bool
 | .region _ ops _ => E4 ops.toList
 | .seq a b => Hb a && Hb b
 | .cond _ a b => Hb a && Hb b
 | .block _ a => Hb a
 | .loop a => Hb a
 | .scope a => Hb a
 | _ => true
def B7 (ops : List Oper) (o : Oper) (tm : Tr AV) : Option Bool :=
 match o.guard with
 | none => some true
 | some (j,want) => match ops[j]? with
  | some oj => match oj.dst with
   | some d => match tm.get d with
    | some (.bool b) => some (cond b want (!want))
    | some .any => none
    | some _ => some false
    | none => none
   | none => none
  | none => none
def Qc (v : AV) (args : List AV) : Option (Nat × List AV) :=
 match v with
 | .fn (.func k) first cap => some (k,first ++ args ++ cap)
 | _ => none
def Aeb (E : Env) (t : Nat) (name : String) (v : AV) (J : Sto) : Option (Nat × AV) :=
 match E.P.info? t with
 | some i => match i.methods.find? (·.name == name) with
  | some m => match m.path.toList with
   | [] => match m.func with
    | some (f,ptr) => match E.P.underlying t with
     | some d => match d with
      | .pointer e => match ptr with
       | true => some (f,v)
       | false => match Aw E.P e with
        | some te => match Lx te v J with
         | some (u,_) => some (f,u)
         | none => none
        | none => none
      | _ => match ptr with
       | true => none
       | false => some (f,v)
     | none => none
    | none => none
   | _ => none
  | none => none
 | none => none
def opA (E : Env) (op : Op) (R : Rec) (tm : Tr AV) (J : Sto) : Res :=
 match op with
 | .call c => match c.callee with
  | .value v => match opd E tm v with
   | .yl a => R (.yl a) (opds E tm c.args.toList) J
   | u => match Qc u (opds E tm c.args.toList) with
    | some (k,args) => R (.fn k) args J
    | none => none
  | .invoke x name => match opd E tm x with
   | .ifc t v => match Aeb E t name v J with
    | some (f,rv) => R (.fn f) (rv :: opds E tm c.args.toList) J
    | none => none
   | _ => none
  | _ => Ar E (.call c) tm J
 | op => Ar E op tm J
def Vb (E : Env) (ops : List Oper) (o : Oper) (R : Rec) (s : St) : Option St :=
 match B7 ops o s.tm with
 | some true => match o.op with
  | .defer c => match c.callee,o.dst with
   | .value v,none => match Qc (opd E s.tm v) (opds E s.tm c.args.toList) with
    | some ka => cond (Nat.beq ka.1 Gh) none (some ⟨s.tm,s.nt,ka :: s.df,s.sto⟩)
    | none => none
   | _,_ => none
  | op => match opA E op R s.tm s.sto with
   | some (v,J) => match Hu o.dst s.tm s.nt v with
    | some tm => some ⟨tm,s.nt,s.df,J⟩
    | none => none
   | none => none
 | some false => match Hu o.dst s.tm s.nt An with
  | some tm => some ⟨tm,s.nt,s.df,s.sto⟩
  | none => none
 | none => none
def Qd (E : Env) (ops : List Oper) (R : Rec) : List Oper -> St -> Option St
 | [],s => some s
 | o :: r,s => match Vb E ops o R s with
  | some s' => Qd E ops R r s'
  | none => none
def Vc {α : Type} : List (Option α) -> Option (List α)
 | [] => some []
 | x :: r => match x with
  | some x => match Vc r with | some l => some (x :: l) | none => none
  | none => none
def Aec (E : Env) (ops : List Oper) (dst : Option Nat) (r : List Oper) (s : St) (a : Nat) (m : Option Nat) (ver : Nat) (v : AV) (left : List (Key × AV)) (cur : Option (Key × AV)) : Option St :=
 match Hu dst s.tm s.nt v with
 | some tm => Qd E ops (fun _ _ _ => none) r ⟨tm,s.nt,s.df,s.sto.set a (.iter m ver left cur)⟩
 | none => none
def Xz (J : Sto) (m : Option Nat) (ver : Nat) : Bool :=
 match m with
 | none => true
 | some r => match J.get r with | some (.map _ _ v) => Nat.beq v ver | _ => false
def Anq (E : Env) (ops : List Oper) (s : St) : Option (List St) :=
 match ops with
 | o :: r => match o.op,o.guard with
  | .next x false,none => match opd E s.tm x with
   | .it a => match s.sto.get a with
    | some (.iter m ver left _) => match Xz s.sto m ver with
     | true => match left with
      | [] => match Aec E ops o.dst r s a m ver (.tup [.bool false]) [] none with | some s' => some [s'] | none => none
      | _ :: _ => Vc ((Fm left).map fun x => Aec E ops o.dst r s a m ver (.tup [.bool true,Rb x.1.1,x.1.2]) x.2 (some x.1))
     | false => none
    | _ => none
   | _ => none
  | _,_ => none
 | [] => none
structure Ann where
 cls : Cls
 lo : Nat
 hi : Nat
def Bv : Cls -> Bool
 | .eff => true
 | _ => false
def Bw (E : Env) : List Oper -> Nat -> List Nat
 | [],_ => []
 | o :: r,i => match Bv (A5 E o.op) with
  | true => i :: Bw E r (i + 1)
  | false => Bw E r (i + 1)
def K3 (b : List Nat) : List Nat -> Bool
 | [] => true
 | i :: r => match r with
  | [] => true
  | j :: s => (b.getD j 0).testBit i && K3 b (j :: s)
def Ba (p : Nat -> Bool) : List Nat -> Nat
 | [] => 0
 | i :: r => match p i with | true => Ba p r + 1 | false => 0
def Iw (E : Env) (b effs : List Nat) : List Oper -> Nat -> List Ann
 | [],_ => []
 | o :: r,i => Bt (Ba (fun e => (b.getD i 0).testBit e) effs) fun lo =>
   Bt (Ba (fun e => !(b.getD e 0).testBit i) effs) fun hi =>
   match A5 E o.op with
   | .pure => ⟨.pure,lo,hi⟩ :: Iw E b effs r (i + 1)
   | .read => ⟨.read,lo,hi⟩ :: Iw E b effs r (i + 1)
   | .eff => ⟨.eff,lo,hi⟩ :: Iw E b effs r (i + 1)
def Hv (ops : Array Oper) (b : List Nat) : Bool :=
 (List.range ops.size).all fun j => (List.range j).all fun i => (b.getD j 0).testBit i || match ops[i]?,ops[j]? with
  | some x,some y => Oper.apart ops x y
  | _,_ => true
def Jo (ops : Array Oper) : Bool :=
 (List.range ops.size).all fun j => match ops[j]? with
  | some o => o.after.all fun e => !Region.binds .any e || decide (e.on < j)
  | none => true
def Id (E : Env) (ops : Array Oper) : Option (List Ann) :=
 let b := (Region.before ops).toList
 let effs := Bw E ops.toList 0
 match Hv ops b && Jo ops && K3 b effs && Region.noSelect ops with
 | true => some (Iw E b effs ops.toList 0)
 | false => none
structure DS where
 s : St
 eps : List Sto
 log : List (Tr AV × AV)
def Qe (E : Env) (ops : List Oper) (o : Oper) (R : Rec) (d : DS) : Option DS :=
 match B7 ops o d.s.tm with
 | some true => match opA E o.op R d.s.tm d.s.sto with
  | some (v,J) => match Hu o.dst d.s.tm d.s.nt v with
   | some tm => match Bv (A5 E o.op) with
    | true => some ⟨⟨tm,d.s.nt,d.s.df,J⟩,J :: d.eps,(d.s.tm,v) :: d.log⟩
    | false => some ⟨⟨tm,d.s.nt,d.s.df,d.s.sto⟩,d.eps,(d.s.tm,v) :: d.log⟩
   | none => none
  | none => none
 | some false => match Hu o.dst d.s.tm d.s.nt An with
  | some tm => match Bv (A5 E o.op) with
   | true => some ⟨⟨tm,d.s.nt,d.s.df,d.s.sto⟩,d.s.sto :: d.eps,(d.s.tm,An) :: d.log⟩
   | false => some ⟨⟨tm,d.s.nt,d.s.df,d.s.sto⟩,d.eps,(d.s.tm,An) :: d.log⟩
  | none => none
 | none => none
def L1 (E : Env) (ops : List Oper) (R : Rec) : List Oper -> DS -> Option DS
 | [],d => some d
 | o :: r,d => match Qe E ops o R d with
  | some d' => L1 E ops R r d'
  | none => none
def steady (E : Env) (ops : List Oper) (o : Oper) (tm : Tr AV) (v : AV) (l : List Sto) : Bool :=
 match B7 ops o tm with
 | some true => l.all fun J => match Ar E o.op tm J with
  | some (u,_) => AV.beq u v
  | none => false
 | _ => true
def F5 (E : Env) (ops : List Oper) (eps : List Sto) : List Ann -> List Oper -> List (Tr AV × AV) -> Bool
 | [],[],[] => true
 | a :: r,o :: os,(tm,v) :: l => (match a.cls with
  | .read => steady E ops o tm v ((eps.drop a.lo).take (a.hi + 1 - a.lo))
  | _ => true) && F5 E ops eps r os l
 | _,_,_ => false
def Afy (b es D : List Nat) (k : Nat) : Bool := es.all fun e => match D.contains e with
 | true => !(b.getD e 0).testBit k
 | false => !(b.getD k 0).testBit e
structure Nd where
 D : List Nat
 J : Sto
 U : List (Nat × AV)
def ovr (U : List (Nat × AV)) (V : Nat -> AV) (k : Nat) : AV := match U with
 | [] => V k
 | (p,v) :: _ => if k = p then v else V k
abbrev NL := List (Nd × List Nat)
def Aim (nt : Nat) : List Oper -> List AV -> Tr AV -> Option (List (Tr AV))
 | [],[],tm => some [tm]
 | o :: r,v :: vs,tm => match Hu o.dst tm nt v with
  | some tm' => match Aim nt r vs tm' with
   | some l => some (tm :: l)
   | none => none
  | none => none
 | _,_,_ => none
def Al1 (E : Env) (ops : List Oper) (R : Rec) (o : Oper) (tm : Tr AV) (J : Sto) : Res := match B7 ops o tm with
 | some true => opA E o.op R tm J
 | _ => none
def Aed (E : Env) (ops : List Oper) (R : Rec) (T : Nat -> Tr AV) (V : Nat -> AV) (i j : Nat) (D : List Nat) (J : Sto) : Option (NL × Sto) :=
 match ops[i]?,ops[j]? with
 | some oi,some oj => match Al1 E ops R oi (T i) J,Al1 E ops R oj (T j) J with
  | some (v1,Ji),some (v3,Jj) => match oi.op,oj.op with
   | .makeSlice _ _ _,.makeSlice _ _ _ => match v1,v3 with
    | .sr _ _ s1 l1 c1,.sr _ _ s2 l2 c2 => match Ji.get (nx J),Jj.get (nx J) with
     | some (.cells A),some (.cells B) =>
      cond (!Nat.beq i j && AV.beq (V i) (.sr (nx J + 2) 0 s1 l1 c1) && AV.beq (V j) (.sr (nx J + 3) 0 s2 l2 c2))
       (some ([(⟨D,J,[]⟩,[i,j]),(⟨i :: D,Ji,[(i,v1)]⟩,[j]),(⟨j :: D,Jj,[(j,v3)]⟩,[i])],((((Ji.new (.cells B)).kill (nx J)).kill (nx J + 1)).new (.cells A)).new (.cells B))) none
     | _,_ => none
    | _,_ => none
   | .store _ x _,.store _ y _ => match opd E (T i) x,opd E (T j) y with
    | .pr a _,.pr b _ => cond (!Nat.beq i j && !Nat.beq a b && AV.beq (V i) An && AV.beq (V j) An)
      (match Al1 E ops R oj (T j) Ji with
       | some (_,Jij) => some ([(⟨D,J,[]⟩,[i,j]),(⟨i :: D,Ji,[]⟩,[j]),(⟨j :: D,Jj,[]⟩,[i])],Jij)
       | none => none) none
    | _,_ => none
   | _,_ => none
  | _,_ => none
 | _,_ => none
def Aee (E : Env) (ops : List Oper) (R : Rec) (T : Nat -> Tr AV) (V : Nat -> AV) (e : Nat) (J : Sto) : Option Sto :=
 match ops[e]? with
 | some o => match Al1 E ops R o (T e) J with
  | some (v,J') => cond (AV.beq (V e) v) (some J') none
  | none => none
 | none => none
def Ym (E : Env) (ops : List Oper) (R : Rec) (T : Nat -> Tr AV) (V : Nat -> AV) (b : List Nat) : List Nat -> List Nat -> Sto -> Option (NL × Nd)
 | [],D,J => some ([],⟨D,J,[]⟩)
 | [e],D,J => match Aee E ops R T V e J with
  | some J' => some ([(⟨D,J,[]⟩,[e])],⟨e :: D,J',[]⟩)
  | none => none
 | e :: j :: r,D,J => match (b.getD j 0).testBit e with
  | true => match Aee E ops R T V e J with
   | some J' => match Ym E ops R T V b (j :: r) (e :: D) J' with
    | some (m,nf) => some ((⟨D,J,[]⟩,[e]) :: m,nf)
    | none => none
   | none => none
  | false => match Aed E ops R T V e j D J with
   | some (l,J') => match Ym E ops R T V b r (j :: e :: D) J' with
    | some (m,nf) => some (l ++ m,nf)
    | none => none
   | none => none
def Ain (E : Env) (ops : List Oper) (R : Rec) (T : Nat -> Tr AV) (V : Nat -> AV) (J : Sto) (k : Nat) : Bool := match ops[k]? with
 | none => true
 | some o => match B7 ops o (T k) with
  | some true => match opA E o.op R (T k) J with
   | some (v,_) => AV.beq v (V k)
   | none => false
  | some false => AV.beq (V k) An
  | none => false
def Anr (b : List Nat) (U : List (Nat × AV)) (k : Nat) : Bool := match U with
 | [] => true
 | (p,_) :: _ => !(b.getD k 0).testBit p
def Yn (E : Env) (ops : List Oper) (R : Rec) (T : Nat -> Tr AV) (V : Nat -> AV) (b es : List Nat) (x : Nd × List Nat) : Bool :=
 (es.all fun e => x.1.D.contains e || !Afy b es x.1.D e || x.2.contains e) &&
 (List.range ops.length).all fun k => x.1.D.contains k || !Afy b es x.1.D k || (Anr b x.1.U k && (es.contains k || Ain E ops R T V x.1.J k))
def Aef (E : Env) (ops : Array Oper) (R : Rec) (s : St) (vl : List AV) : Option St :=
 match Aim s.nt ops.toList vl s.tm with
 | none => none
 | some tl => match Hv ops (Region.before ops).toList && Jo ops with
  | false => none
  | true => match Ym E ops.toList R (fun k => tl.getD k .e) (fun k => vl.getD k .any) (Region.before ops).toList (Bw E ops.toList 0) [] s.sto with
   | none => none
   | some (nl,nf) => cond ((nl ++ [(nf,[])]).all (Yn E ops.toList R (fun k => tl.getD k .e) (fun k => vl.getD k .any) (Region.before ops).toList (Bw E ops.toList 0)) &&
      nl.all fun x => (Bw E ops.toList 0).any fun e => !x.1.D.contains e)
     (some ⟨tl.getD ops.size .e,s.nt,s.df,nf.J⟩) none
def Afz (b : List Nat) : List Nat -> Option (Nat × Nat)
 | [] => none
 | i :: r => match r with
  | [] => none
  | j :: s => match (b.getD j 0).testBit i with
   | true => Afz b (j :: s)
   | false => some (i,j)
def isMk : Option Oper -> Bool
 | some o => match o.op with | .makeSlice .. => true | _ => false
 | none => false
def Ans (d : DS) : List AV := d.log.reverse.map (·.2)
def Asv (E : Env) (ops : Array Oper) (R : Rec) (s : St) : Option (List AV) :=
 match Afz (Region.before ops).toList (Bw E ops.toList 0) with
 | none => none
 | some (i,j) => match isMk ops.toList[i]? with
  | false => match L1 E ops.toList R ops.toList ⟨s,[s.sto],[]⟩ with
   | some d => some (Ans d)
   | none => none
  | true => match L1 E ops.toList R (ops.toList.take (j + 1)) ⟨s,[s.sto],[]⟩ with
   | some d => match (Ans d)[i]?,(Ans d)[j]?,ops.toList[i]?,ops.toList[j]? with
    | some (.sr a o1 s1 l1 c1),some (.sr a' o2 s2 l2 c2),some oi,some oj => Bt (a + 2) fun p => Bt (a + 3) fun q =>
     match d.s.sto.get a,d.s.sto.get a',Hu oi.dst d.s.tm s.nt (.sr p o1 s1 l1 c1) with
     | some A,some B,some tm => match Hu oj.dst tm s.nt (.sr q o2 s2 l2 c2) with
      | some tm => match L1 E ops.toList R (ops.toList.drop (j + 1)) ⟨⟨tm,s.nt,s.df,(((d.s.sto.kill a).kill a').new A).new B⟩,[],[]⟩ with
       | some d2 => some ((((Ans d).set i (.sr p o1 s1 l1 c1)).set j (.sr q o2 s2 l2 c2)) ++ Ans d2)
       | none => none
      | none => none
     | _,_,_ => none
    | _,_,_,_ => none
   | none => none
def Ant (E : Env) (ops : Array Oper) (R : Rec) (s : St) : Option St := match Asv E ops R s with
 | some vl => Aef E ops R s vl
 | none => none
def Oy (E : Env) (ops : Array Oper) (R : Rec) (s : St) : Option St :=
 match Id E ops with
 | none => Ant E ops R s
 | some anns => match L1 E ops.toList R ops.toList ⟨s,[s.sto],[]⟩ with
  | some d => cond (F5 E ops.toList d.eps.reverse anns ops.toList d.log.reverse) (some d.s) none
  | none => none
def Asw (ops : Array Oper) : Bool := match ops.toList with | o :: _ => (match o.op with | .next _ false => true | _ => false) | [] => false
abbrev Out := Option (List (XE × St))
def Wi (k : St -> Out) : List (XE × St) -> Out
 | [] => some []
 | (.normal,s) :: r => match k s with
  | some a => match Wi k r with
   | some b => some (a ++ b)
   | none => none
  | none => none
 | (x,s) :: r => match Wi k r with | some b => some ((x,s) :: b) | none => none
def Af0 (body : St -> Out) : Nat -> St -> Out
 | 0,_ => none
 | n + 1,s => match body s with
  | some l => Wi (Af0 body n) l
  | none => none
def I7 (id : Nat) : List (XE × St) -> List (XE × St)
 | [] => []
 | (.exit j,s) :: r => (cond (Nat.beq j id) .normal (.exit j),s) :: I7 id r
 | x :: r => x :: I7 id r
abbrev RG := Operand -> Array Tmp -> Code -> Code -> St -> Out
def noG : RG := fun _ _ _ _ _ => none
def Fh (E : Env) (lf : Nat) (R : Rec) (G : RG) : Code -> St -> Out
 | .skip,s => some [(.normal,s)]
 | .label _,s => some [(.normal,s)]
 | .region _ ops draw,s => match draw with
  | true => match Oy E ops R s with | some s' => some [(.normal,s')] | none => none
  | false => match Asw ops with
   | true => match Anq E ops.toList s with | some l => some (l.map fun s' => (.normal,s')) | none => none
   | false => match Qd E ops.toList R ops.toList s with | some s' => some [(.normal,s')] | none => none
 | .seq a b,s => match Fh E lf R G a s with
  | some l => Wi (Fh E lf R G b) l
  | none => none
 | .cond c a b,s => match opd E s.tm c with
  | .bool true => Fh E lf R G a s
  | .bool false => Fh E lf R G b s
  | _ => none
 | .block id a,s => match Fh E lf R G a s with | some l => some (I7 id l) | none => none
 | .loop a,s => match Af0 (Fh E lf R G a) lf s with
  | some l => Tf l
  | none => none
 | .scope a,s => Fh E lf R G a s
 | .exit id,s => some [(.exit id,s)]
 | .ret,s => some [(.ret,s)]
 | .rangeFunc f ps a b,s => G f ps a b s
 | _,_ => none
def Yo (P : Program) (tm : Tr AV) (J : Sto) : ResultVar -> Option AV
 | .tmp t => tm.get t
 | .cell a t => match Aw P t with
  | some ti => match tm.get a with
   | some (.pr b off) => match J.cells b with
    | some vs => Eh ti (vs.drop off)
    | none => none
   | _ => none
  | none => none
def Th (P : Program) (tm : Tr AV) (J : Sto) : List ResultVar -> Option (List AV)
 | [] => some []
 | r :: rs => match Yo P tm J r,Th P tm J rs with
  | some v,some l => some (v :: l)
  | _,_ => none
def Vd (E : Env) : List (Nat × List AV) -> Sto -> Option Sto
 | [],J => some J
 | (f,args) :: r,J => match E.dsum f with
  | some d => match d args J with
   | some J' => Vd E r J'
   | none => none
  | none => none
def Tk : List AV -> AV
 | [v] => v
 | vs => .tup vs
def finA (E : Env) (rs : List ResultVar) (x : XE × St) : Res :=
 match x with
 | (.exit _,_) => none
 | (_,s) => match Vd E s.df s.sto with
  | some J => match Th E.P s.tm J rs with
   | some vs => some (Tk vs,J)
   | none => none
  | none => none
def Yp : List (AV × Sto) -> Res
 | [] => none
 | x :: r => match r with
  | [] => some x
  | _ => match Yp r with
   | some z => match Te x.2 z.2 with | some J => some (AV.join x.1 z.1,J) | none => none
   | none => none
def Hw : List AV -> Nat -> Tr AV -> Tr AV
 | [],_,t => t
 | x :: r,i,t => Hw r (i + 1) (t.put (i + 1) i (some x))
def Sto.bump (J : Sto) : Sto := match J with | ⟨t,n⟩ => Bt (n + 1) fun n => ⟨t,n⟩
def Aio (nt : Nat) : List Nat -> List AV -> Tr AV -> Option (Tr AV)
 | [],[],tm => some tm
 | [p],[x],tm => Hu (some p) tm nt x
 | _,_,_ => none
def X1 (J : Sto) (a : Nat) : Bool := match J.get a with | some (.loop .ready) => true | _ => false
def Aip (J : Sto) (a : Nat) : Bool := match J.get a with | some (.loop .busy) => true | _ => false
def Asx : XE -> LS
 | .normal => .ready
 | x => .done x
def Aeg : XE -> Bool
 | .normal => true
 | _ => false
def Aeh (E : Env) (lf : Nat) (R : Rec) (L : RF) : Hnd := fun args J =>
 match X1 J L.aY && Hb L.assign && Hb L.body with
 | true => match Aio L.nt L.ps.toList args L.tm with
  | some tm' => match Fh E lf R noG L.assign ⟨tm',L.nt,[],J⟩ with
   | some [(.normal,s₁)] => match X1 s₁.sto L.aY with
    | true => match Fh E lf R noG L.body ⟨s₁.tm,s₁.nt,s₁.df,s₁.sto.set L.aY (.loop .busy)⟩ with
     | some [(x,s₂)] => match Aip s₂.sto L.aY with
      | true => some (.bool (Aeg x),s₂.sto.set L.aY (.loop (Asx x)))
      | false => none
     | _ => none
    | false => none
   | _ => none
  | none => none
 | false => none
abbrev Anu := Env -> (Nat -> Option Hnd) -> Rec
def Aiq (E : Env) (lf : Nat) (RE : Anu) (Y : Nat -> Option Hnd) (b : Nat) : RG := fun f ps assign body s =>
 match opd E s.tm f with
 | .fn (.func k) [] cap => Bt (nx s.sto) fun aD => Bt (aD + 1) fun aY =>
   match RE { E with loops := ⟨aY,s.tm,s.nt,ps,assign,body⟩ :: E.loops } (fun a => cond (Nat.beq a aY) (some (Aeh E lf (RE E Y) ⟨aY,s.tm,s.nt,ps,assign,body⟩)) (Y a)) (.fn k) (.yl aY :: cap) (s.sto.bump.new (.loop .ready)) with
   | some (_,J) => match J.get aY with
    | some (.loop st) => match st with
     | .ready => some [(.normal,⟨s.tm,s.nt,(Gh,[.yl aD,.yl b]) :: s.df,J.kill aY⟩)]
     | .done x => match x with
      | .normal => none
      | .ret => some [(.ret,⟨s.tm,s.nt,(Gh,[.yl aD,.yl b]) :: s.df,J.kill aY⟩)]
      | .exit id => some [(.exit id,⟨s.tm,s.nt,(Gh,[.yl aD,.yl b]) :: s.df,J.kill aY⟩)]
     | .busy => none
    | _ => none
   | none => none
 | _ => none
def Mp (b : Nat) : List (Nat × List AV) -> Bool
 | [] => true
 | (k,[.yl _,.yl b']) :: r => Nat.beq k Gh && Nat.beq b' b && Mp b r
 | _ => false
def finM (E : Env) (b : Nat) (rs : List ResultVar) (x : XE × St) : Res :=
 match x with
 | (.exit _,_) => none
 | (_,s) => match Th E.P s.tm s.sto rs with
  | some vs => cond (Mp b s.df) (some (Tk vs,s.sto)) none
  | none => none
def Asa (E : Env) (b : Nat) (fn : Func) (l : List (XE × St)) : Res :=
 match Vc (l.map (finM E b fn.results.toList)) with
 | some rs => Yp rs
 | none => none
def Anv (E : Env) (lf : Nat) (RE : Anu) (Y : Nat -> Option Hnd) (fn : Func) : Hnd := fun args J =>
 match fn.body with
 | some c => cond (Nat.ble args.length fn.ntmps)
   (Bt (nx J) fun b => match Fh E lf (RE E Y) (Aiq E lf RE Y b) c ⟨Hw args 0 .e,fn.ntmps,[],J.bump⟩ with
   | some l => Asa E b fn l
   | none => none) none
 | none => none
def Anw (E : Env) (lf : Nat) (R : Rec) (fn : Func) : Hnd := fun args J =>
 match fn.body with
 | some c => cond (Nat.ble args.length fn.ntmps)
   (match Fh E lf R noG c ⟨Hw args 0 .e,fn.ntmps,[],J⟩ with
   | some l => match Vc (l.map (finA E fn.results.toList)) with
    | some rs => Yp rs
    | none => none
   | none => none) none
 | none => none
def Oz (lf : Nat) : Nat -> Anu
 | 0 => fun _ _ _ _ _ => none
 | n + 1 => fun E Y t args J => match t with
  | .yl a => match Y a with
   | some h => h args J
   | none => none
  | .fn f => match E.sum f with
   | some s => s args J
   | none => match E.P.funcs[f]? with
    | some fn => match E.rg f with
     | true => Anv E lf (Oz lf n) Y fn args J
     | false => Anw E lf (Oz lf n E Y) fn args J
    | none => none
def Dy (E : Env) (lf n : Nat) : Rec := Oz lf n E fun _ => none
end Go.AM
