/- A part of the proof; shortened by program. -/
import Derived.Orders
import Derived.Wp
import Derived.Laws.Sem
import Derived.Laws.Strings
import Derived.IntWalk
import Derived.Laws.StructEq
set_option maxRecDepth 100000
set_option maxHeartbeats 4000000
set_option linter.unusedSimpArgs false
set_option linter.unusedVariables false
namespace Go.AM
open Go
theorem nl {n : Nat} : n <= n := Nat.le_refl n
theorem Om {p : Prop} (h : p := by omega) : p := h
abbrev aa_ := @List.getElem?_eq_some_iff
abbrev ac_ := @Nat.eq_of_beq_eq_true
abbrev ad_ := @Option.some.injEq
abbrev ae_ := @List.mem_of_getElem?
abbrev af_ := @Bool.and_eq_true
abbrev ah_ := @List.drop_eq_nil_of_le
abbrev ai_ := @Int.ofNat_eq_natCast
abbrev aj_ := @Nat.le_of_ble_eq_true
abbrev ak_ := @List.mem_cons_of_mem
abbrev al_ := @Nat.lt_of_lt_of_le
abbrev am_ := @List.mem_singleton
abbrev an_ := @List.getElem?_eq_getElem
abbrev ao_ := @List.length_append
abbrev ap_ := @Nat.ble_eq_true_of_le
abbrev aq_ := @List.mem_cons
abbrev ar_ := @List.mem_cons_self
abbrev at_ := @List.length_cons
abbrev au_ := @Bool.eq_false_or_eq_true
abbrev av_ := @List.take_of_length_le
abbrev aw_ := @List.drop_eq_getElem_cons
abbrev ax_ := @Nat.le_trans
abbrev az_ := @List.cons_append
abbrev b_ := @List.mem_append
abbrev ba_ := @Array.getElem?_eq_some_iff
abbrev bb_ := @Array.getElem?_toList
abbrev bc_ := @Prod.mk.injEq
abbrev bd_ := @Array.getD_eq_getD_getElem?
abbrev be_ := @List.getElem?_cons_succ
abbrev bf_ := @Nat.beq_refl
abbrev bg_ := @List.nil_append
abbrev bh_ := @Nat.zero_le
abbrev bi_ := @List.append_nil
abbrev bj_ := @Nat.lt_succ_self
abbrev bk_ := @List.getElem?_append_left
abbrev bl_ := @List.eq_nil_of_length_eq_zero
abbrev bm_ := @List.pairwise_cons
abbrev bn_ := @List.length_take
abbrev bo_ := @Bool.false_eq_true
abbrev bp_ := @List.getElem?_map
abbrev bq_ := @Nat.zero_add
abbrev br_ := @Option.isSome_iff_exists
abbrev bs_ := @List.length_map
abbrev bt_ := @Bool.or_eq_false_iff
abbrev bu_ := @List.mem_singleton_self
abbrev bv_ := @List.length_singleton
abbrev bw_ := @Bool.eq_false_iff
abbrev bx_ := @Array.length_toList
abbrev bz_ := @List.length_set
abbrev c_ := @List.take_append_drop
abbrev ca_ := @List.flatMap_cons
abbrev cb_ := @Array.toList_map
abbrev cc_ := @List.append_assoc
abbrev cd_ := @List.mem_append_left
abbrev ce_ := @Bool.or_eq_true
abbrev cf_ := @Option.some.inj
abbrev ch_ := @List.getElem?_append_right
abbrev ck_ := @List.map_cons
abbrev cl_ := @Bool.and_self
abbrev cm_ := @List.drop_append_of_le_length
abbrev cn_ := @Array.getElem?_eq_getElem
abbrev co_ := @Bool.not_eq_true'
abbrev cq_ := @List.cons.injEq
abbrev cr_ := @List.mem_map
abbrev cs_ := @List.length_nil
abbrev ct_ := @List.flatMap_append
abbrev cu_ := @List.length_drop
abbrev cv_ := @Array.getElem?_setIfInBounds_ne
abbrev cw_ := @Array.getElem?_append_left
abbrev cx_ := @List.getElem?_set_ne
abbrev cy_ := @Nat.eq_zero_or_pos
abbrev cz_ := @List.map_append
abbrev d_ := @List.range'_succ
abbrev da_ := @List.all_eq_true
abbrev db_ := @Array.toList_append
abbrev dc_ := @List.mem_map_of_mem
abbrev dd_ := @Nat.lt_of_le_of_lt
abbrev df_ := @List.pairwise_append
abbrev dg_ := @List.getElem?_set_self
abbrev dh_ := @List.drop_drop
abbrev di_ := @Int.ofNat.inj
abbrev dj_ := @List.mem_iff_getElem?
abbrev dk_ := @Nat.mul_le_mul_right
abbrev dl_ := @List.range_eq_range'
abbrev dm_ := @List.length_eq_zero_iff
abbrev dn_ := @List.reverse_cons
abbrev do_ := @Option.map_eq_some_iff
abbrev dp_ := @Array.getElem?_modify
abbrev dq_ := @List.map_nil
abbrev dt_ := @List.length_filter_le
abbrev du_ := @List.drop_zero
abbrev dv_ := @List.mem_of_mem_take
abbrev dw_ := @Option.map_some
abbrev dx_ := @Array.eq_empty_of_size_eq_zero
abbrev dy_ := @List.all_cons
abbrev dz_ := @List.pairwise_singleton
abbrev e_ := @Array.getElem?_push_lt
abbrev eb_ := @List.append_of_mem
abbrev ec_ := @Bool.not_eq_false'
abbrev ed_ := @Nat.sub_zero
abbrev ee_ := @List.mem_append_right
abbrev ef_ := @Nat.le_of_lt
abbrev eg_ := @List.mem_filter
abbrev eh_ := @List.length_replicate
abbrev ek_ := @Bool.or_false
abbrev el_ := @List.nodup_append
abbrev em_ := @List.any_eq_false
abbrev en_ := @List.mem_of_mem_drop
abbrev eo_ := @List.reverse_nil
abbrev ep_ := @List.take_length
abbrev eq_ := @List.drop_length
abbrev et_ := @List.filter_eq_self
abbrev eu_ := @Nat.le_succ
abbrev ev_ := @Nat.add_zero
abbrev ew_ := @Nat.zero_mul
abbrev ex_ := @Bool.eq_iff_iff
abbrev ey_ := @Array.foldl_toList
abbrev f_ := @List.getElem?_take
abbrev fa_ := @List.getElem?_drop
abbrev fd_ := @Option.isSome_some
abbrev fe_ := @Nat.not_lt_zero
abbrev fg_ := @Option.bind_eq_some_iff
abbrev fi_ := @Ne.symm
abbrev fk_ := @Option.isSome_map
abbrev fl_ := @Int.toNat_natCast
abbrev fm_ := @List.drop_take
abbrev fn_ := @Option.bind_some
abbrev fo_ := @List.any_eq_true
abbrev fq_ := @List.take_succ_cons
abbrev fr_ := @Nat.add_mul
abbrev fs_ := @List.foldl_cons
abbrev ft_ := @Array.toList_modify
abbrev fv_ := @Nat.succ_mul
abbrev fx_ := @List.zip_cons_cons
abbrev fy_ := @List.filter_append
abbrev fz_ := @Nat.add_comm
abbrev g_ := @Bool.or_true
abbrev gb_ := @Nat.le_of_eq
abbrev gc_ := @List.nodup_nil
abbrev gd_ := @Bool.not_false
abbrev gi_ := @List.foldl_append
abbrev gk_ := @Nat.add_assoc
abbrev gl_ := @Nat.lt_irrefl
abbrev gn_ := @Option.getD_some
abbrev go_ := @List.range'_zero
abbrev gp_ := @List.not_mem_nil
abbrev gq_ := @List.flatMap_nil
abbrev gr_ := @Option.map_none
abbrev gu_ := @List.nodup_cons
abbrev gw_ := @Nat.min_eq_left
abbrev gx_ := @List.take_zero
abbrev gy_ := @List.mapM_cons
abbrev gz_ := @List.mem_range
def B9 {β : Type} (n : Nat) (k : Nat -> β) : β := match n with | 0 => k 0 | m + 1 => k (m + 1)
theorem Ai {β : Type} (n : Nat) (k : Nat -> β) : B9 n k = k n := by cases n <;> rfl
inductive Tr (α : Type) where
 | e
 | n (v : Option α) (l r : Tr α)
def Tr.get {α : Type} : Tr α -> Nat -> Option α
 | .e,_ => none
 | .n v l r,k => match k with
  | 0 => v
  | k + 1 => cond (Nat.beq (k % 2) 0) (l.get (k / 2)) (r.get (k / 2))
def Tr.mkL {α : Type} (v : Option α) (l r : Tr α) : Tr α := match l with
 | .e => .n v .e r
 | .n a b c => .n v (.n a b c) r
def Tr.mkR {α : Type} (v : Option α) (l r : Tr α) : Tr α := match r with
 | .e => .n v l .e
 | .n a b c => .n v l (.n a b c)
def Tr.put {α : Type} : Nat -> Tr α -> Nat -> Option α -> Tr α
 | 0,t,_,_ => t
 | f + 1,.e,k,x => match k with
  | 0 => .n x .e .e
  | k + 1 => cond (Nat.beq (k % 2) 0) (Tr.mkL none (Tr.put f .e (k / 2) x) .e) (Tr.mkR none .e (Tr.put f .e (k / 2) x))
 | f + 1,.n v l r,k,x => match k with
  | 0 => .n x l r
  | k + 1 => cond (Nat.beq (k % 2) 0) (Tr.mkL v (Tr.put f l (k / 2) x) r) (Tr.mkR v l (Tr.put f r (k / 2) x))
inductive AV where
 | any
 | bool (b : Bool)
 | int (k : IntKind) (n : Int)
 | str (l : List Nat)
 | nil (v : Value)
 | pr (a off : Nat)
 | pv (cs : List AV)
 | sr (a off sz len : Nat) (cap : Option Nat)
 | sv (cs : List AV) (sz len : Nat) (cap : Option Nat)
 | mp (r : Nat)
 | it (r : Nat)
 | stp (a : Nat)
 | yl (a : Nat)
 | flt (k : FloatKind) (bits : Nat)
 | fn (f : Fn) (first cap : List AV)
 | ifc (t : Nat) (v : AV)
 | agg (cs : List AV)
 | tup (vs : List AV)
 deriving Inhabited
def Ut : Value -> Bool
 | .pointer none | .slice none 0 0 | .map none | .nilFunc | .nilIface => true
 | _ => false
def Bx (s : ByteArray) : List Nat := s.data.toList.map UInt8.toNat
def Adr {β : Type} : List Nat -> (List Nat -> β) -> β
 | [],k => k []
 | x :: r,k => B9 x fun x => Adr r fun r => k (x :: r)
def Vw (v : Value) : AV :=
 match v with
 | .bool true => .bool true
 | .bool false => .bool false
 | .int k (.ofNat n) => B9 n fun n => .int k (.ofNat n)
 | .int k n => .int k n
 | .string s => Adr (Bx s) .str
 | .float k n => B9 n fun n => .flt k n
 | v => cond (Ut v) (.nil v) .any
def Ah0 : List Value -> List AV
 | [] => []
 | v :: r => Vw v :: Ah0 r
def Ads : Value -> Bool
 | .bool _ | .int _ _ | .string _ | .float _ _ => true
 | v => Ut v
def Pb : List Value -> Bool
 | [] => true
 | v :: r => Ads v && Pb r
def ofV (v : Value) : AV :=
 match v with
 | .agg cs => cond (Pb cs.toList) (.agg (Ah0 cs.toList)) .any
 | .tuple vs => .tup (Ah0 vs.toList)
 | .iface t x => .ifc t (Vw x)
 | .func f a b => cond (a.isEmpty && b.isEmpty) (.fn f [] []) .any
 | v => Vw v
def AV.cellsN (v : AV) (n : Nat) : Option (List AV) :=
 match v with
 | .any => none
 | .tup _ => none
 | .agg cs => cond (Nat.beq cs.length n) (some cs) none
 | v => cond (Nat.beq n 1) (some [v]) none
inductive Key where
 | bool (b : Bool)
 | int (k : IntKind) (n : Int)
 | str (l : List Nat)
 | agg (cs : List Key)
inductive XE where
 | normal
 | exit (id : Nat)
 | ret
inductive LS where
 | ready
 | busy
 | done (x : XE)
inductive AO where
 | cells (vs : List AV)
 | map (kt : Nat) (es : List (Key × AV)) (ver : Nat)
 | iter (m : Option Nat) (ver : Nat) (left : List (Key × AV)) (cur : Option (Key × AV))
 | stamp (m ver : Nat) (k : Key)
 | loop (st : LS)
 deriving Inhabited
structure Sto where
 objs : Tr AO
 next : Nat
def nx (U : Sto) : Nat := match U with | ⟨_,n⟩ => n
def Sto.get (U : Sto) (a : Nat) : Option AO := match U with | ⟨o,_⟩ => o.get a
def Ru {α β : Type} (t : Tr α) (k : Tr α -> β) : β := match t with | .e => k .e | .n a b c => k (.n a b c)
def Sto.set (U : Sto) (a : Nat) (o : AO) : Sto := match U with | ⟨t,n⟩ => Ru (t.put (a + 1) a (some o)) fun t => ⟨t,n⟩
def Sto.kill (U : Sto) (a : Nat) : Sto := match U with | ⟨t,n⟩ => Ru (t.put (a + 1) a none) fun t => ⟨t,n⟩
def Sto.new (U : Sto) (o : AO) : Sto := match U with | ⟨t,n⟩ => Ru (t.put (n + 1) n (some o)) fun t => B9 (n + 1) fun n => ⟨t,n⟩
def Sto.cells (U : Sto) (a : Nat) : Option (List AV) := match U.get a with | some (.cells vs) => some vs | _ => none
structure TI where
 desc : TypeDesc
 size : Nat
 bytes : Nat
 zero : Option (List AV)
 isAgg : Bool
def Qq : TypeDesc -> Bool
 | .struct _ | .array _ _ => true
 | _ => false
def Ajx (agg : Bool) (z : Option Value) : Option (List AV) :=
 match z with
 | some z => match z with
  | .agg cs => match agg && Pb cs.toList with | true => some (Ah0 cs.toList) | false => none
  | v => match !agg && Ads v with | true => some [Vw v] | false => none
 | none => none
def A4 (P : Program) (t : Nat) : Option TI :=
 match P.info? t,P.underlying t with
 | some i,some d => some { desc := d,size := i.size,bytes := i.bytes,zero := Ajx (Qq d) i.zero,isAgg := Qq d }
 | _,_ => none
abbrev Res := Option (AV × Sto)
structure Env where
 P : Program
 gl : Nat -> Option (List AV)
 sum : Nat -> Option (List AV -> Sto -> Res)
 dsum : Nat -> Option (List AV -> Sto -> Option Sto)
 byref : Nat -> Bool
 hold : Nat -> Option (Array Value -> Prop) := fun _ => none
def setAt : List AV -> Nat -> List AV -> Option (List AV)
 | l,0,[] => some l
 | _ :: r,0,x :: xs => match setAt r 0 xs with | some l => some (x :: l) | none => none
 | y :: r,k + 1,xs => match setAt r k xs with | some l => some (y :: l) | none => none
 | _,_,_ => none
def C7 : Nat -> List AV -> Option (List AV)
 | 0,_ => some []
 | n + 1,x :: r => match C7 n r with | some l => some (x :: l) | none => none
 | _ + 1,[] => none
def rep (z : List AV) : Nat -> List AV
 | 0 => []
 | n + 1 => z ++ rep z n
def Et (ti : TI) (l : List AV) : Option AV :=
 match ti.isAgg with
 | true => match C7 ti.size l with | some cs => some (.agg cs) | none => none
 | false => match l with | v :: _ => some v | [] => none
def Qc : List AV -> List (Nat × Nat × AV) -> Option (List AV)
 | cs,[] => some cs
 | cs,(off,size,v) :: r => match v.cellsN size with
  | some l => match setAt cs off l with
   | some cs' => Qc cs' r
   | none => none
  | none => none
def Ik : AV -> Option Nat
 | .int _ (.ofNat n) => some n
 | _ => none
def Km (ti : TI) : Option AV :=
 match ti.zero with
 | some z => match ti.isAgg with | true => some (.agg z) | false => match z with | [v] => some v | _ => none
 | none => none
def Nu (ti : TI) (v : AV) : Bool := match v with
 | .any => false
 | .tup _ => false
 | .agg cs => ti.isAgg && Nat.beq cs.length ti.size
 | _ => !ti.isAgg
def Ft : List Nat -> List Nat -> Bool
 | [],[] => true
 | x :: r,y :: s => cond (Nat.beq x y) (Ft r s) false
 | _,_ => false
def Cw : List Nat -> List Nat -> Bool
 | _,[] => false
 | [],_ :: _ => true
 | a :: x,b :: y => cond (Nat.blt a b) true (cond (Nat.beq a b) (Cw x y) false)
def Rv : Int -> Int -> Bool
 | .ofNat a,.ofNat b => Nat.beq a b
 | .negSucc a,.negSucc b => Nat.beq a b
 | _,_ => false
def Rw : Int -> Int -> Bool
 | .ofNat a,.ofNat b => Nat.ble a b
 | .negSucc a,.negSucc b => Nat.ble b a
 | .negSucc _,.ofNat _ => true
 | .ofNat _,.negSucc _ => false
def He (a b : IntKind) : Bool := match a,b with
 | .i64,.i64 => true
 | .u8,.u8 => true
 | a,b => decide (a = b)
mutual
def Key.eq : Key -> Key -> Bool
 | .bool a,.bool b => cond a b (!b)
 | .int k a,.int k' b => He k k' && Rv a b
 | .str a,.str b => Ft a b
 | .agg a,.agg b => Key.eqs a b
 | _,_ => false
def Key.eqs : List Key -> List Key -> Bool
 | [],[] => true
 | x :: r,y :: s => cond (Key.eq x y) (Key.eqs r s) false
 | _,_ => false
end
mutual
def Key.lt : Key -> Key -> Bool
 | .bool a,.bool b => !a && b
 | .int _ a,.int _ b => !Rw b a
 | .str a,.str b => Cw a b
 | .agg a,.agg b => Key.lts a b
 | _,_ => false
def Key.lts : List Key -> List Key -> Bool
 | x :: r,y :: s => cond (Key.lt x y) true (cond (Key.eq x y) (Key.lts r s) false)
 | _,_ => false
end
def key0 (d : TypeDesc) (v : AV) : Option Key :=
 match d,v with
 | .int j,.int k n => cond (He j k) (some (.int k n)) none
 | .string,.str l => some (.str l)
 | .bool,.bool b => some (.bool b)
 | _,_ => none
def X7 (P : Program) : List Field -> List AV -> Option (List Key)
 | [],[] => some []
 | f :: fs,v :: vs => match A4 P f.type with
  | some ti => match key0 ti.desc v,X7 P fs vs with
   | some k, some ks => cond (f.name != "_" && Nat.beq ti.size 1) (some (k :: ks)) none
   | _,_ => none
  | none => none
 | _,_ => none
def I8 : List Field -> Nat -> Bool
 | [],_ => true
 | f :: fs,i => Nat.beq f.offset i && I8 fs (i + 1)
def Anm (P : Program) (fs : List Field) (v : AV) : Option Key :=
 match v with
 | .agg cs => match X7 P fs cs with | some l => some (.agg l) | none => none
 | _ => none
def Er (P : Program) (t : Nat) (v : AV) : Option Key :=
 match A4 P t with
 | some ti => match ti.desc with
  | .struct fs => match I8 fs.toList 0 && !P.stoodInHeld t with
   | true => Anm P fs.toList v
   | false => none
  | d => key0 d v
 | none => none
def Qd : Key -> AV
 | .bool b => .bool b
 | .int k n => .int k n
 | .str l => .str l
 | .agg cs => .agg (cs.map fun | .bool b => .bool b | .int k n => .int k n | .str l => .str l | .agg _ => .any)
def De (k : Key) : List (Key × AV) -> Option AV
 | [] => none
 | (k',v) :: r => cond (Key.eq k k') (some v) (De k r)
def Np (k : Key) (v : AV) : List (Key × AV) -> List (Key × AV)
 | [] => []
 | (k',v') :: r => cond (Key.eq k k') ((k',v) :: r) ((k',v') :: Np k v r)
def Mm (k : Key) (v : AV) : List (Key × AV) -> List (Key × AV)
 | [] => [(k,v)]
 | (k',v') :: r => cond (Key.lt k k') ((k,v) :: (k',v') :: r) ((k',v') :: Mm k v r)
def Vx (k : Key) : List (Key × AV) -> List (Key × AV)
 | [] => []
 | (k',v') :: r => cond (Key.eq k k') r ((k',v') :: Vx k r)
def Fu {α : Type} : List α -> List (α × List α)
 | [] => []
 | x :: r => (x,r) :: (Fu r).map fun (y,s) => (y,x :: s)
def Lf (len : Nat) (cap : Option Nat) (n : Nat) : Bool := cond (Nat.ble n len) true (match cap with | some q => Nat.ble n q | none => false)
def Il (cap : Option Nat) (l : Nat) : Option Nat := match cap with | some q => some (q - l) | none => none
def Ci (len : Nat) (cap : Option Nat) (lo hi mx : Option AV) : Option (Nat × Nat × Option Nat) :=
 match (match lo with | none => some 0 | some v => Ik v),(match hi with | none => some len | some v => Ik v) with
 | some l,some h =>
  match mx with
  | none => cond (Nat.ble l h && Lf len cap h) (some (l,h,Il cap l)) none
  | some mv => match Ik mv,hi with
   | some m,some _ => cond (Nat.ble l h && Nat.ble h m && Lf len cap m) (some (l,h,some (m - l))) none
   | _,_ => none
 | _,_ => none
def H1 : List Nat -> List AV
 | [] => []
 | b :: r => .int .u8 (.ofNat b) :: H1 r
def Aqk : List AV -> Option (List Nat)
 | [] => some []
 | .int .u8 (.ofNat n) :: r => match Aqk r with | some l => cond (Nat.blt n 256) (some (n :: l)) none | none => none
 | _ => none
def I9 (U : Sto) (sz : Nat) (v : AV) (n : Nat) : Option (List AV) :=
 match v with
 | .sr a off _ _ _ => match U.cells a with | some vs => C7 (n * sz) (vs.drop off) | none => none
 | .sv cs _ _ _ => C7 (n * sz) cs
 | .nil (.slice none 0 0) => match n with | 0 => some [] | _ => none
 | .str l => match sz with | 1 => C7 n (H1 l) | _ => none
 | _ => none
def lenA : AV -> Option Nat
 | .sr _ _ _ len _ => some len
 | .sv _ _ len _ => some len
 | .nil (.slice none 0 0) => some 0
 | .str l => some l.length
 | _ => none
def sizeLim : Nat := 1099511627776
def Nv : Nat := 9223372036854775807
def Ja (sz bytes n : Nat) (new old : List AV) (len : Nat) (U : Sto) : Res :=
 cond (Nat.ble ((len + n) * (bytes + 1)) sizeLim) (B9 (len + n) fun m => some (.sr (nx U) 0 sz m none,U.new (.cells (old ++ new)))) none
def Bm (U : Sto) (sz bytes : Nat) (d : AV) (n : Nat) (new : List AV) : Res :=
 match n with
 | 0 => match d with
  | .nil (.slice none 0 0) => some (d,U)
  | .sv _ _ _ _ => some (d,U)
  | .sr _ _ _ _ _ => some (d,U)
  | _ => none
 | n' + 1 => match d with
  | .nil (.slice none 0 0) => Ja sz bytes (n' + 1) new [] 0 U
  | .sv cs sz' len (some q) => cond (Nat.beq sz' sz && !Nat.ble (len + (n' + 1)) q) (Ja sz bytes (n' + 1) new cs len U) none
  | .sr a off sz' len cap => cond (Nat.beq sz' sz)
    (match U.cells a with
    | none => none
    | some vs => match C7 (len * sz) (vs.drop off) with
     | none => none
     | some old => match cap with
      | some q => match Nat.ble (len + (n' + 1)) q with
       | true => match setAt vs (off + len * sz) new with
        | some vs' => B9 (len + (n' + 1)) fun m => some (.sr a off sz m (some q),U.set a (.cells vs'))
        | none => none
       | false => Ja sz bytes (n' + 1) new old len U
      | none => Ja sz bytes (n' + 1) new old len (U.kill a)) none
  | _ => none
def Ls (k : IntKind) : Int -> Bool
 | .ofNat n => match k with
  | .i64 => Nat.ble n 9223372036854775807
  | .u64 => Nat.ble n 18446744073709551615
  | .u8 => Nat.ble n 255
  | .i32 => Nat.ble n 2147483647
  | .u32 => Nat.ble n 4294967295
  | .i8 => Nat.ble n 127
  | .i16 => Nat.ble n 32767
  | .u16 => Nat.ble n 65535
 | .negSucc n => match k with
  | .i64 => Nat.ble n 9223372036854775807
  | .i32 => Nat.ble n 2147483647
  | .i8 => Nat.ble n 127
  | .i16 => Nat.ble n 32767
  | _ => false
def L5 (k : IntKind) (n : Int) : AV :=
 match n with
 | .ofNat m => B9 m fun m => cond (Ls k (.ofNat m)) (.int k (.ofNat m)) (.int k (k.wrap (.ofNat m)))
 | .negSucc m => B9 m fun m => cond (Ls k (.negSucc m)) (.int k (.negSucc m)) (.int k (k.wrap (.negSucc m)))
def Ah1 : Int -> Int -> Int
 | .ofNat a,.ofNat b => .ofNat (a + b)
 | a,b => a + b
def X8 : Int -> Int -> Int
 | .ofNat a,.ofNat b => cond (Nat.ble b a) (.ofNat (a - b)) (.ofNat a - .ofNat b)
 | a,b => a - b
def Gm (op : BinOp) (k : IntKind) (a b : Int) : Option AV :=
 match op with
 | .add => some (L5 k (Ah1 a b))
 | .sub => some (L5 k (X8 a b))
 | .mul => some (L5 k (a * b))
 | .eql => some (.bool (Rv a b))
 | .neq => some (.bool (!Rv a b))
 | .leq => some (.bool (Rw a b))
 | .lss => some (.bool (!Rw b a))
 | .gtr => some (.bool (!Rw a b))
 | .geq => some (.bool (Rw b a))
 | .quo => match a,b with
  | .ofNat a,.ofNat (b + 1) => some (L5 k (.ofNat (a / (b + 1))))
  | _,_ => none
 | .rem => match a,b with
  | .ofNat a,.ofNat (b + 1) => B9 (a % (b + 1)) fun m => some (.int k (.ofNat m))
  | _,_ => none
 | _ => none
def Rx (op : BinOp) (a b : List Nat) : Option AV :=
 match op with
 | .eql => some (.bool (Ft a b))
 | .neq => some (.bool (!Ft a b))
 | .lss => some (.bool (Cw a b))
 | .leq => some (.bool (Cw a b || Ft a b))
 | .gtr => some (.bool (!(Cw a b || Ft a b)))
 | .geq => some (.bool (!Cw a b))
 | .add => cond (Nat.ble (a.length + b.length) Nv) (some (.str (a ++ b))) none
 | _ => none
def Qr (d : TypeDesc) (x y : AV) : Bool :=
 match y with
 | .nil (.slice none 0 0) => match d,x with | .slice _,.sr _ _ _ _ _ => true | .slice _,.sv _ _ (_ + 1) _ => true | _,_ => false
 | .nil (.pointer none) => match d,x with | .pointer _,.pr _ _ => true | .pointer _,.pv _ => true | _,_ => false
 | .nil (.map none) => match d,x with | .map _ _,.mp _ => true | _,_ => false
 | .nil .nilFunc => match d,x with | .func _ _ _,.fn _ _ _ => true | _,_ => false
 | .nil .nilIface => match d,x with | .interface _,.ifc _ _ => true | _,_ => false
 | _ => false
def Xj (d : TypeDesc) (x y : AV) : Bool :=
 match d,x,y with
 | .slice _,.nil (.slice none 0 0),.nil (.slice none 0 0) => true
 | .pointer _,.nil (.pointer none),.nil (.pointer none) => true
 | .map _ _,.nil (.map none),.nil (.map none) => true
 | .func _ _ _,.nil .nilFunc,.nil .nilFunc => true
 | .interface _,.nil .nilIface,.nil .nilIface => true
 | _,_,_ => false
def Ajy (d : TypeDesc) (x y : AV) : Option Bool :=
 cond (Xj d x y) (some true) (cond (Qr d x y || Qr d y x) (some false) none)
def Dk : Operand -> Bool
 | .const _ => true
 | _ => false
def Ry (P : Program) (t : Nat) (x y : AV) : Option Bool :=
 match x,y with
 | .agg l,.agg m => match Er P t (.agg l),Er P t (.agg m) with
  | some a,some b => some (Key.eq a b)
  | _,_ => none
 | _,_ => none
def Lg (P : Program) (ti : TI) (t : Nat) (cst : Bool) (x y : AV) : Option Bool :=
 match cond cst (Ajy ti.desc x y) none with
 | some b => some b
 | none => Ry P t x y
def isOrd (o : Option Ordering) (x : Ordering) : Bool := match o,x with
 | some .lt,.lt => true
 | some .eq,.eq => true
 | some .gt,.gt => true
 | _,_ => false
def fltRes (k : FloatKind) (r : Option Nat) : Option AV := match r with | some n => B9 n fun n => some (.flt k n) | none => none
def Ano (op : BinOp) (k : FloatKind) (a b : Nat) : Option AV := none
def Aba (P : Program) (op : BinOp) (t : Nat) (cst : Bool) (x y : AV) : Option AV :=
 match A4 P t with
 | some ti => match x,y with
  | .int k a,.int k' b => cond (He k k') (Gm op k a b) none
  | .str a,.str b => Rx op a b
  | .flt k a,.flt k' b => match decide (k = k') with | true => Ano op k a b | false => none
  | .bool a,.bool b => match op,ti.desc with
   | .eql,.bool => some (.bool (cond a b (!b)))
   | .neq,.bool => some (.bool (!cond a b (!b)))
   | _,_ => none
  | x,y => match op with
   | .eql => match Lg P ti t cst x y with
    | some b => some (.bool b)
    | none => none
   | .neq => match Lg P ti t cst x y with
    | some b => some (.bool (!b))
    | none => none
   | _ => none
 | none => none
def unA (op : UnOp) (x : AV) : Option AV :=
 match op,x with
 | .not,.bool b => some (.bool (!b))
 | .neg,.int k n => some (L5 k (X8 0 n))
 | _,_ => none
def Qt (x : AV) (n : Nat) : Option AV :=
 match x with
 | .pr a off => B9 (off + n) fun o => some (.pr a o)
 | .pv cs => some (.pv (cs.drop n))
 | _ => none
def opd (E : Env) (tm : Tr AV) : Operand -> AV
 | .tmp t => match tm.get t with | some v => v | none => .any
 | .const v => ofV v
 | .global g => match E.gl g with | some cs => .pv cs | none => .any
 | .func f => .fn (.func f) [] []
def opds (E : Env) (tm : Tr AV) : List Operand -> List AV
 | [] => []
 | x :: r => opd E tm x :: opds E tm r
def opdO (E : Env) (tm : Tr AV) : Option Operand -> Option AV
 | none => none
 | some x => some (opd E tm x)
def Abx (c a b : AV) (U : Sto) : Res := match c with
 | .bool true => some (a,U)
 | .bool false => some (b,U)
 | _ => none
def Im (x : AV) (U : Sto) : Res := match x with
 | .pr a off => some (.pr a off,U)
 | .pv cs => some (.pv cs,U)
 | .fn (.func f) p q => some (.fn (.func f) p q,U)
 | _ => none
def X9 (z : List AV) (U : Sto) : Res := some (.pr (nx U) 0,U.new (.cells z))
def sBox (size : Nat) (x : AV) (U : Sto) : Res := match x.cellsN size with
 | some cs => some (.pr (nx U) 0,U.new (.cells cs))
 | none => none
def I1 (P : Program) (E : Env) (tm : Tr AV) (fs : List Field) : List (Nat × Operand) -> Option (List (Nat × Nat × AV))
 | [] => some []
 | (i,x) :: r => match fs[i]?,I1 P E tm fs r with
  | some f,some l => match A4 P f.type with
   | some ti => some ((f.offset,ti.size,opd E tm x) :: l)
   | none => none
  | _,_ => none
def Pc (P : Program) : List Field -> Bool
 | [] => true
 | f :: r => match P.info? f.type with | some _ => Pc P r | none => false
def G0 (E : Env) (tm : Tr AV) (size : Nat) : List (Nat × Operand) -> List (Nat × Nat × AV)
 | [] => []
 | (i,x) :: r => (i * size,size,opd E tm x) :: G0 E tm size r
def Lt (z : List AV) (ps : List (Nat × Nat × AV)) (U : Sto) : Res := match Qc z ps with
 | some cs => some (.agg cs,U)
 | none => none
def Fv (z : List AV) (size len : Nat) (byref : Bool) (ps : List (Nat × Nat × AV)) (U : Sto) : Res := match Qc (rep z len) ps with
 | some cs => match byref with
  | true => some (.sr (nx U) 0 size len (some len),U.new (.cells cs))
  | false => some (.sv cs size len (some len),U)
 | none => none
def L6 (ti : TI) (x : AV) (U : Sto) : Res := match x with
 | .pr a off => match U.cells a with
  | some vs => match Et ti (vs.drop off) with | some v => some (v,U) | none => none
  | none => none
 | .pv cs => match Et ti cs with | some v => some (v,U) | none => none
 | _ => none
def Au : AV := .tup []
def Adt (size : Nat) (x v : AV) (U : Sto) : Res := match x,v.cellsN size with
 | .pr a off,some l => match U.cells a with
  | some vs => match setAt vs off l with
   | some vs' => some (Au,U.set a (.cells vs'))
   | none => none
  | none => none
 | _,_ => none
def Vy (r : Option AV) (U : Sto) : Res := match r with | some v => some (v,U) | none => none
def Nw (k : IntKind) (x : AV) (U : Sto) : Res := match x with
 | .int _ n => some (L5 k n,U)
 | _ => none
def Ya (k : FloatKind) (x : AV) (U : Sto) : Res := none
def Rz (x : AV) (U : Sto) : Res := match x with
 | .str l => some (.str l,U)
 | _ => none
def Jv (x : AV) (U : Sto) : Res := match x with
 | .str l => match l with
  | [] => some (.sv [] 1 0 none,U)
  | l => some (.sv (H1 l) 1 l.length none,U)
 | _ => none
def Yb : AV -> Bool
 | .str _ => false
 | _ => true
def Mn (x : AV) (U : Sto) : Res := none
def Yc (x : AV) (U : Sto) : Res := some (x,U)
def sIfc (t : Nat) (x : AV) (U : Sto) : Res := some (.ifc t x,U)
def Ajz (f : Fn) (a b : List AV) (U : Sto) : Res := some (.fn f a b,U)
def R0 (kt : Nat) (U : Sto) : Res := some (.mp (nx U),U.new (.map kt [] 0))
def Ty (kt : Nat) (x : AV) (U : Sto) : Res := match x with
 | .int _ _ => some (.mp (nx U),U.new (.map kt [] 0))
 | _ => none
def Qu (z : List AV) (size bytes : Nat) (l c : AV) (U : Sto) : Res := none
def Kh (x : AV) (lo hi : Option AV) (U : Sto) : Res := match x with
 | .str l => match Ci l.length (some l.length) lo hi none with
  | some (a,b,_) => some (.str ((l.take b).drop a),U)
  | none => none
 | _ => none
def Lu (size : Nat) (x : AV) (lo hi mx : Option AV) (U : Sto) : Res := match x with
 | .sr a off sz len cap => match Nat.beq sz size with
  | true => match Ci len cap lo hi mx with
   | some (l,h,c) => B9 (off + l * sz) fun o => B9 (h - l) fun m => some (.sr a o sz m c,U)
   | none => none
  | false => none
 | .sv cs sz len cap => match Nat.beq sz size with
  | true => match Ci len cap lo hi mx with
   | some (l,h,c) => match C7 ((h - l) * sz) (cs.drop (l * sz)) with
    | some cs' => B9 (h - l) fun m => some (.sv cs' sz m c,U)
    | none => none
   | none => none
  | false => none
 | .nil (.slice none 0 0) => match Ci 0 (some 0) lo hi mx with
  | some _ => some (.nil (.slice none 0 0),U)
  | none => none
 | _ => none
def Tz (n size : Nat) (x : AV) (lo hi mx : Option AV) (U : Sto) : Res := none
def Anp (n : Nat) (x : AV) (U : Sto) : Res := match Qt x n with | some v => some (v,U) | none => none
def Yd (ti : TI) (off : Nat) (x : AV) (U : Sto) : Res := match x with
 | .agg cs => match Et ti (cs.drop off) with | some v => some (v,U) | none => none
 | _ => none
def Hf (size : Nat) (x i : AV) (U : Sto) : Res := match i with
 | .int _ (.ofNat n) => match x with
  | .sr a off _ len _ => cond (Nat.blt n len) (B9 (off + n * size) fun o => some (.pr a o,U)) none
  | .sv cs _ len _ => cond (Nat.blt n len) (some (.pv (cs.drop (n * size)),U)) none
  | _ => none
 | _ => none
def Fh (len size : Nat) (x i : AV) (U : Sto) : Res := match i with
 | .int _ (.ofNat n) => cond (Nat.blt n len) (match Qt x (n * size) with | some v => some (v,U) | none => none) none
 | _ => none
def Ki (x i : AV) (U : Sto) : Res := match x,i with
 | .str l,.int _ (.ofNat n) => match l[n]? with
  | some b => some (.int .u8 (.ofNat b),U)
  | none => none
 | _,_ => none
def Io (te : TI) (len : Nat) (x i : AV) (U : Sto) : Res := match x,i with
 | .agg cs,.int _ (.ofNat n) => cond (Nat.blt n len) (match Et te (cs.drop (n * te.size)) with | some v => some (v,U) | none => none) none
 | _,_ => none
def Ye (ok : Bool) (v : AV) (b : Bool) : AV := match ok with | true => .tup [v,.bool b] | false => v
def Jw (kt : Nat) (key : Option Key) (z : AV) (ok : Bool) (m : AV) (U : Sto) : Res := match key with
 | some kv => match m with
  | .mp r => match U.get r with
   | some (.map kt' es _) => match Nat.beq kt' kt with
    | true => match De kv es with
     | some v => some (Ye ok v true,U)
     | none => some (Ye ok z false,U)
    | false => none
   | _ => none
  | .nil (.map none) => some (Ye ok z false,U)
  | _ => none
 | none => none
def Mo (kt : Nat) (key : Option Key) (te : TI) (m v : AV) (U : Sto) : Res := match key,m with
 | some kv,.mp r => match U.get r with
  | some (.map kt' es ver) => match Nat.beq kt' kt && Nu te v with
   | true => match De kv es with
    | some _ => B9 (ver + 1) fun w => some (Au,U.set r (.map kt (Np kv v es) w))
    | none => B9 (ver + 1) fun w => some (Au,U.set r (.map kt (Mm kv v es) w))
   | false => none
  | _ => none
 | _,_ => none
def Pd (kt : Nat) (key : Option Key) (z : AV) (m : AV) (U : Sto) : Res := match key,m with
 | some kv,.mp r => match U.get r with
  | some (.map kt' es ver) => match Nat.beq kt' kt with
   | true => B9 (ver + 1) fun w => match De kv es with
    | some v => some (.tup [v,.stp (nx U)],(U.set r (.map kt es w)).new (.stamp r w kv))
    | none => some (.tup [z,.stp (nx U)],(U.set r (.map kt (Mm kv z es) w)).new (.stamp r w kv))
   | false => none
  | _ => none
 | _,_ => none
def Lh (te : TI) (m st v : AV) (U : Sto) : Res := match m,st with
 | .mp r,.stp a => match U.get a,U.get r with
  | some (.stamp r' w kv),some (.map kt es w') => match Nat.beq r r' && Nat.beq w w' && Nu te v with
   | true => match De kv es with
    | some _ => B9 (w + 1) fun w => some (Au,U.set r (.map kt (Np kv v es) w))
    | none => none
   | false => none
  | _,_ => none
 | _,_ => none
def Adu (x : AV) (U : Sto) : Res := match x with
 | .nil (.map none) => some (.it (nx U),U.new (.iter none 0 [] none))
 | .mp r => match U.get r with
  | some (.map _ es ver) => some (.it (nx U),U.new (.iter (some r) ver es none))
  | _ => none
 | _ => none
def Yf (x : AV) (U : Sto) : Res := match x with
 | .it a => match U.get a with
  | some (.iter (some r) ver _ (some (k,v))) => match U.get r with
   | some (.map _ _ ver') => cond (Nat.beq ver ver') (some (.tup [Qd k,v],U)) none
   | _ => none
  | _ => none
 | _ => none
def L7 (i : Nat) (x : AV) (U : Sto) : Res := match x with
 | .tup vs => match vs[i]? with
  | some v => some (v,U)
  | none => none
 | _ => none
def Xk (t : Nat) (z : Option AV) (ok : Bool) (x : AV) (U : Sto) : Res := none
def sLen (x : AV) (U : Sto) : Res := match x with
 | .sr _ _ _ len _ => some (.int .i64 (.ofNat len),U)
 | .sv _ _ len _ => some (.int .i64 (.ofNat len),U)
 | .nil (.slice none 0 0) => some (.int .i64 0,U)
 | _ => none
def Xl (x : AV) (U : Sto) : Res := match x with
 | .str l => B9 l.length fun n => some (.int .i64 (.ofNat n),U)
 | _ => none
def Pe (x : AV) (U : Sto) : Res := match x with
 | .mp r => match U.get r with
  | some (.map _ es _) => B9 es.length fun n => some (.int .i64 (.ofNat n),U)
  | _ => none
 | .nil (.map none) => some (.int .i64 0,U)
 | _ => none
def Jk (x : AV) (U : Sto) : Res := match x with
 | .sr _ _ _ _ (some q) => some (.int .i64 (.ofNat q),U)
 | .sv _ _ _ (some q) => some (.int .i64 (.ofNat q),U)
 | .nil (.slice none 0 0) => some (.int .i64 0,U)
 | _ => none
def Sc (size bytes : Nat) (d s : AV) (U : Sto) : Res := match lenA s with
 | some n => match I9 U size s n with
  | some new => Bm U size bytes d n new
  | none => none
 | none => none
def Se (z : List AV) (size bytes : Nat) (d s : AV) (U : Sto) : Res := match s with
 | .int .i64 (.ofNat n) => cond (Nat.ble (n * (bytes + 1)) sizeLim) (Bm U size bytes d n (rep z n)) none
 | _ => none
def Pf (x : AV) (U : Sto) : Res := match x with
 | .mp r => match U.get r with
  | some (.map kt _ ver) => B9 (ver + 1) fun w => some (Au,U.set r (.map kt [] w))
  | _ => none
 | .nil (.map none) => some (Au,U)
 | _ => none
def Adv (z : List AV) (size : Nat) (x : AV) (U : Sto) : Res := match x with
 | .sr a off sz len _ => match Nat.beq sz size,U.cells a with
  | true,some vs => match setAt vs off (rep z len) with
   | some vs' => some (Au,U.set a (.cells vs'))
   | none => none
  | _,_ => none
 | .nil (.slice none 0 0) => some (Au,U)
 | .sv _ _ 0 _ => some (Au,U)
 | _ => none
def Anq (size : Nat) (d s : AV) (U : Sto) : Res := none
def Xm (kt : Nat) (key : Option Key) (m : AV) (U : Sto) : Res := match key,m with
 | some kv,.mp r => match U.get r with
  | some (.map kt' es ver) => match Nat.beq kt' kt with
   | true => B9 (ver + 1) fun w => some (Au,U.set r (.map kt (Vx kv es) w))
   | false => none
  | _ => none
 | some _,.nil (.map none) => some (Au,U)
 | _,_ => none
def Yg (a b : Int) : Int := cond (Rw a b) a b
def Yh (a b : Int) : Int := cond (Rw b a) a b
def Uu (f : Int -> Int -> Int) (x y : AV) (U : Sto) : Res := match x,y with
 | .int k a,.int k' b => cond (He k k') (some (.int k (f a b),U)) none
 | _,_ => none
def C8 (E : Env) (b : Builtin) (ti : TI) (ts : List Nat) (x : AV) (xs : List AV) (U : Sto) : Res :=
 match b with
 | .len => match ti.desc with
  | .slice _ => sLen x U
  | .string => Xl x U
  | .map _ _ => Pe x U
  | .array n _ => some (.int .i64 (.ofNat n),U)
  | _ => none
 | .cap => match ti.desc with
  | .slice _ => Jk x U
  | _ => none
 | .clear => match ti.desc with
  | .map _ _ => Pf x U
  | .slice e => match A4 E.P e with
   | some te => match te.zero with
    | some z => match Nat.beq z.length te.size with
     | true => Adv z te.size x U
     | false => none
    | none => none
   | none => none
  | _ => none
 | .append => match ti.desc,ts,xs with
  | .slice e,t2 :: _,y :: _ => match A4 E.P e,A4 E.P t2 with
   | some te,some tx => match te.zero with
    | some z => match Nat.beq z.length te.size with
     | true => match tx.desc with
      | .slice _ => Sc te.size te.bytes x y U
      | .string => Sc te.size te.bytes x y U
      | .int _ => Se z te.size te.bytes x y U
      | _ => none
     | false => none
    | none => none
   | _,_ => none
  | _,_,_ => none
 | .copy => match ti.desc,xs with
  | .slice e,y :: _ => match A4 E.P e with
   | some te => Anq te.size x y U
   | none => none
  | _,_ => none
 | .delete => match ti.desc,xs with
  | .map kt _,y :: _ => Xm kt (Er E.P kt y) x U
  | _,_ => none
 | .min => match xs with
  | [y] => Uu Yg x y U
  | _ => none
 | .max => match xs with
  | [y] => Uu Yh x y U
  | _ => none
 | _ => none
def Az (E : Env) (op : Op) (tm : Tr AV) (U : Sto) : Res :=
 match op with
 | .move x => Yc (opd E tm x) U
 | .assign x => Yc (opd E tm x) U
 | .pick c a b => Abx (opd E tm c) (opd E tm a) (opd E tm b) U
 | .nilCheck x => Im (opd E tm x) U
 | .alloc t => match A4 E.P t with
  | some ti => match ti.zero with | some z => X9 z U | none => none
  | none => none
 | .box t x => match A4 E.P t with
  | some ti => sBox ti.size (opd E tm x) U
  | none => none
 | .build t parts => match A4 E.P t with
  | some ti => match ti.zero,ti.desc with
   | some z,.struct fs => match Pc E.P fs.toList,I1 E.P E tm fs.toList parts.toList with
    | true,some ps => Lt z ps U
    | _,_ => none
   | some z,.array _ e => match A4 E.P e with
    | some te => Lt z (G0 E tm te.size parts.toList) U
    | none => none
   | _,_ => none
  | none => none
 | .buildSlice t len parts => match A4 E.P t with
  | some ti => match ti.desc with
   | .slice e => match A4 E.P e with
    | some te => match te.zero with
     | some z => match Nat.ble (len * te.size) 16777216 && Nat.beq z.length te.size with
      | true => Fv z te.size len (E.byref e) (G0 E tm te.size parts.toList) U
      | false => none
     | none => none
    | none => none
   | _ => none
  | none => none
 | .load t x => match A4 E.P t with
  | some ti => L6 ti (opd E tm x) U
  | none => none
 | .store t x v => match A4 E.P t with
  | some ti => Adt ti.size (opd E tm x) (opd E tm v) U
  | none => none
 | .binOp op t x y _ => Vy (Aba E.P op t (Dk x || Dk y) (opd E tm x) (opd E tm y)) U
 | .unOp op _ x => Vy (unA op (opd E tm x)) U
 | .convert s d x => match A4 E.P s,A4 E.P d with
  | some ts,some td => match td.desc with
   | .int k => Nw k (opd E tm x) U
   | .float k => Ya k (opd E tm x) U
   | .string => match ts.desc with
    | .string => Rz (opd E tm x) U
    | .slice e => match A4 E.P e with
     | some te => match te.desc with
      | .int .u8 => Mn (opd E tm x) U
      | _ => none
     | none => none
    | _ => none
   | .slice e => match ts.desc,A4 E.P e with
    | .string,some te => match te.desc with
     | .int .u8 => Jv (opd E tm x) U
     | _ => none
    | _,_ => none
   | _ => none
  | _,_ => none
 | .makeInterface t x => match A4 E.P t with
  | some ti => match ti.desc with
   | .interface _ => none
   | _ => sIfc t (opd E tm x) U
  | none => none
 | .makeFunc f first captured => Ajz f (opds E tm first.toList) (opds E tm captured.toList) U
 | .makeMap t r => match A4 E.P t with
  | some ti => match ti.desc,r with
   | .map kt _,none => R0 kt U
   | .map kt _,some h => Ty kt (opd E tm h) U
   | _,_ => none
  | none => none
 | .makeSlice t l c => match A4 E.P t with
  | some ti => match ti.desc with
   | .slice e => match A4 E.P e with
    | some te => match te.zero with
     | some z => match Nat.beq z.length te.size with
      | true => Qu z te.size te.bytes (opd E tm l) (opd E tm c) U
      | false => none
     | none => none
    | none => none
   | _ => none
  | none => none
 | .slice t x lo hi mx => match A4 E.P t with
  | some ti => match ti.desc with
   | .string => match mx with | none => Kh (opd E tm x) (opdO E tm lo) (opdO E tm hi) U | some _ => none
   | .slice e => match A4 E.P e with
    | some te => Lu te.size (opd E tm x) (opdO E tm lo) (opdO E tm hi) (opdO E tm mx) U
    | none => none
   | .array n ee => match A4 E.P ee with
    | some te => Tz n te.size (opd E tm x) (opdO E tm lo) (opdO E tm hi) (opdO E tm mx) U
    | none => none
   | _ => none
  | none => none
 | .fieldAddr t x i => match A4 E.P t with
  | some ti => match ti.desc with
   | .struct fs => match fs.toList[i]? with
    | some f => match A4 E.P f.type with
     | some tf => match tf.size with
      | 0 => none
      | _ + 1 => Anp f.offset (opd E tm x) U
     | none => none
    | none => none
   | _ => none
  | none => none
 | .field t x i => match A4 E.P t with
  | some ti => match ti.desc with
   | .struct fs => match fs.toList[i]? with
    | some f => match A4 E.P f.type with
     | some tf => Yd tf f.offset (opd E tm x) U
     | none => none
    | none => none
   | _ => none
  | none => none
 | .indexAddr t x i => match A4 E.P t with
  | some ti => match ti.desc with
   | .slice e => match A4 E.P e with
    | some te => Hf te.size (opd E tm x) (opd E tm i) U
    | none => none
   | .array len e => match A4 E.P e with
    | some te => Fh len te.size (opd E tm x) (opd E tm i) U
    | none => none
   | _ => none
  | none => none
 | .index t x i => match A4 E.P t with
  | some ti => match ti.desc with
   | .string => Ki (opd E tm x) (opd E tm i) U
   | .array len e => match A4 E.P e with
    | some te => Io te len (opd E tm x) (opd E tm i) U
    | none => none
   | _ => none
  | none => none
 | .lookup t m k ok => match A4 E.P t with
  | some ti => match ti.desc with
   | .map kt et => match A4 E.P et with
    | some te => match Km te with
     | some z => Jw kt (Er E.P kt (opd E tm k)) z ok (opd E tm m) U
     | none => none
    | none => none
   | _ => none
  | none => none
 | .mapUpdate t m k v => match A4 E.P t with
  | some ti => match ti.desc with
   | .map kt et => match A4 E.P et with
    | some te => Mo kt (Er E.P kt (opd E tm k)) te (opd E tm m) (opd E tm v) U
    | none => none
   | _ => none
  | none => none
 | .mapEntry t m k => match A4 E.P t with
  | some ti => match ti.desc with
   | .map kt et => match A4 E.P et with
    | some te => match Km te with
     | some z => Pd kt (Er E.P kt (opd E tm k)) z (opd E tm m) U
     | none => none
    | none => none
   | _ => none
  | none => none
 | .entryStore t m st v => match A4 E.P t with
  | some ti => match ti.desc with
   | .map _ et => match A4 E.P et with
    | some te => Lh te (opd E tm m) (opd E tm st) (opd E tm v) U
    | none => none
   | _ => none
  | none => none
 | .range t x => match A4 E.P t with
  | some ti => match ti.desc with
   | .map _ _ => Adu (opd E tm x) U
   | _ => none
  | none => none
 | .entry x => Yf (opd E tm x) U
 | .extract x i => L7 i (opd E tm x) U
 | .typeAssert x _ t ok => match A4 E.P t with
  | some ti => match ti.desc with
   | .interface _ => none
   | _ => Xk t (Km ti) ok (opd E tm x) U
  | none => none
 | .call c => match c.callee with
  | .builtin b => match c.argTypes.toList,c.args.toList with
   | t :: ts,x :: xs => match A4 E.P t with
    | some ti => C8 E b ti ts (opd E tm x) (opds E tm xs) U
    | none => none
   | _,_ => none
  | _ => none
 | _ => none
inductive Cls where
 | pure | read | eff
 deriving DecidableEq
def Bl (E : Env) : Op -> Cls
 | .move _ | .assign _ | .pick .. | .nilCheck _ | .build .. | .fieldAddr .. | .field .. | .indexAddr .. | .index .. | .binOp .. | .unOp .. | .makeInterface .. | .makeFunc .. | .extract .. | .typeAssert .. => .pure
 | .slice t _ _ _ _ => match A4 E.P t with
  | some ti => match ti.desc with
   | .array _ _ => .read
   | _ => .pure
  | none => .read
 | .load .. | .lookup .. | .entry _ | .convert .. => .read
 | .buildSlice t _ _ => match A4 E.P t with
  | some ti => match ti.desc with
   | .slice e => match E.byref e with | true => .eff | false => .pure
   | _ => .eff
  | none => .eff
 | .call c => match c.callee with
  | .builtin .len => .read
  | .builtin .cap => .pure
  | .builtin .min => .pure
  | .builtin .max => .pure
  | _ => .eff
 | _ => .eff
def Fo : Nat := 4294967295
structure St where
 tm : Tr AV
 nt : Nat
 df : List (Nat × List AV)
 sto : Sto
def Jx (d : Option Nat) (tm : Tr AV) (nt : Nat) (v : AV) : Option (Tr AV) :=
 match d with
 | none => some tm
 | some d => cond (Nat.blt d nt) (Ru (tm.put (d + 1) d (some v)) some) none
def Ah2 (a b : Value) : Bool :=
 match a,b with
 | .pointer none,.pointer none => true
 | .slice none 0 0,.slice none 0 0 => true
 | .map none,.map none => true
 | .nilFunc,.nilFunc => true
 | .nilIface,.nilIface => true
 | _,_ => false
def Anr : Fn -> Fn -> Bool
 | .func a,.func b => Nat.beq a b
 | _,_ => false
def beqO (a b : Option Nat) : Bool := match a,b with | none,none => true | some x,some y => Nat.beq x y | _,_ => false
mutual
def AV.beq : AV -> AV -> Bool
 | .any,.any => true
 | .bool a,.bool b => cond a b (!b)
 | .int k a,.int k' b => He k k' && Rv a b
 | .str a,.str b => Ft a b
 | .nil a,.nil b => Ah2 a b
 | .pr a o,.pr b p => Nat.beq a b && Nat.beq o p
 | .pv l,.pv m => AV.beqs l m
 | .sr a o s n c,.sr b p t m d => Nat.beq a b && Nat.beq o p && Nat.beq s t && Nat.beq n m && beqO c d
 | .sv l s n c,.sv m t k d => AV.beqs l m && Nat.beq s t && Nat.beq n k && beqO c d
 | .mp a,.mp b => Nat.beq a b
 | .it a,.it b => Nat.beq a b
 | .stp a,.stp b => Nat.beq a b
 | .yl a,.yl b => Nat.beq a b
 | .flt k a,.flt k' b => decide (k = k') && Nat.beq a b
 | .fn f a b,.fn h c d => Anr f h && AV.beqs a c && AV.beqs b d
 | .ifc t a,.ifc u b => Nat.beq t u && AV.beq a b
 | .agg l,.agg m => AV.beqs l m
 | .tup l,.tup m => AV.beqs l m
 | _,_ => false
def AV.beqs : List AV -> List AV -> Bool
 | [],[] => true
 | x :: r,y :: s => AV.beq x y && AV.beqs r s
 | _,_ => false
end
def AV.join (a b : AV) : AV := cond (AV.beq a b) a .any
def Ip : List AV -> List AV -> Option (List AV)
 | [],[] => some []
 | x :: r,y :: s => match Ip r s with | some l => some (AV.join x y :: l) | none => none
 | _,_ => none
def Qv : List (Key × AV) -> List (Key × AV) -> Option (List (Key × AV))
 | [],[] => some []
 | (k,x) :: r,(l,y) :: s => cond (Key.eq k l) (match Qv r s with | some t => some ((k,AV.join x y) :: t) | none => none) none
 | _,_ => none
def Ans : AO -> AO -> Option AO
 | .cells a,.cells b => match Ip a b with | some l => some (.cells l) | none => none
 | .map k a v,.map l b w => cond (Nat.beq v w && Nat.beq k l) (match Qv a b with | some l => some (.map k l v) | none => none) none
 | _,_ => none
def Gq : Tr AV -> Tr AV -> Tr AV
 | .n (some x) l r,.n (some y) l' r' => .n (some (AV.join x y)) (Gq l l') (Gq r r')
 | .n _ l r,.n _ l' r' => .n none (Gq l l') (Gq r r')
 | _,_ => .e
def C9 : Tr AO -> Tr AO -> Tr AO
 | .n (some x) l r,.n (some y) l' r' => .n (Ans x y) (C9 l l') (C9 r r')
 | .n _ l r,.n _ l' r' => .n none (C9 l l') (C9 r r')
 | _,_ => .e
def Sf (a b : Sto) : Option Sto := cond (Nat.beq a.next b.next) (some ⟨C9 a.objs b.objs,a.next⟩) none
def Ah3 (a b : St) : Option St :=
 match a.df,b.df with
 | [],[] => cond (Nat.beq a.nt b.nt) (match Sf a.sto b.sto with | some U => some ⟨Gq a.tm b.tm,a.nt,[],U⟩ | none => none) none
 | _,_ => none
def XE.beq : XE -> XE -> Bool
 | .normal,.normal => true
 | .exit a,.exit b => Nat.beq a b
 | .ret,.ret => true
 | _,_ => false
def Pg : List (XE × St) -> Option (List (XE × St))
 | [] => none
 | x :: r => match r with
  | [] => some [x]
  | y :: s => match Pg (y :: s) with
   | some [z] => cond (XE.beq x.1 z.1) (match Ah3 x.2 z.2 with | some t => some [(x.1,t)] | none => none) none
   | _ => none
def Co (ops : List Oper) (o : Oper) (tm : Tr AV) : Option Bool :=
 match o.guard with
 | none => some true
 | some (j,want) => match ops[j]? with
  | some oj => match oj.dst with
   | some d => match tm.get d with
    | some (.bool b) => some (cond b want (!want))
    | some .any => none
    | some _ => some false
    | none => none
   | none => none
  | none => none
abbrev Rec := Nat -> List AV -> Sto -> Res
def Ph (v : AV) (args : List AV) : Option (Nat × List AV) :=
 match v with
 | .fn (.func k) first cap => some (k,first ++ args ++ cap)
 | _ => none
def Adw (E : Env) (t : Nat) (name : String) (v : AV) (U : Sto) : Option (Nat × AV) :=
 match E.P.info? t with
 | some i => match i.methods.find? (·.name == name) with
  | some m => match m.path.toList with
   | [] => match m.func with
    | some (f,ptr) => match E.P.underlying t with
     | some d => match d with
      | .pointer e => match ptr with
       | true => some (f,v)
       | false => match A4 E.P e with
        | some te => match L6 te v U with
         | some (u,_) => some (f,u)
         | none => none
        | none => none
      | _ => match ptr with
       | true => none
       | false => some (f,v)
     | none => none
    | none => none
   | _ => none
  | none => none
 | none => none
def opA (E : Env) (op : Op) (R : Rec) (tm : Tr AV) (U : Sto) : Res :=
 match op with
 | .call c => match c.callee with
  | .value v => match Ph (opd E tm v) (opds E tm c.args.toList) with
   | some (k,args) => R k args U
   | none => none
  | .invoke x name => match opd E tm x with
   | .ifc t v => match Adw E t name v U with
    | some (f,rv) => R f (rv :: opds E tm c.args.toList) U
    | none => none
   | _ => none
  | _ => Az E (.call c) tm U
 | op => Az E op tm U
def Nq (E : Env) (ops : List Oper) (o : Oper) (R : Rec) (s : St) : Option St :=
 match Co ops o s.tm with
 | some true => match o.op with
  | .defer c => match c.callee,o.dst with
   | .value v,none => match Ph (opd E s.tm v) (opds E s.tm c.args.toList) with
    | some ka => cond (Nat.beq ka.1 Fo) none (some ⟨s.tm,s.nt,ka :: s.df,s.sto⟩)
    | none => none
   | _,_ => none
  | op => match opA E op R s.tm s.sto with
   | some (v,U) => match Jx o.dst s.tm s.nt v with
    | some tm => some ⟨tm,s.nt,s.df,U⟩
    | none => none
   | none => none
 | some false => match Jx o.dst s.tm s.nt Au with
  | some tm => some ⟨tm,s.nt,s.df,s.sto⟩
  | none => none
 | none => none
def Jy (E : Env) (ops : List Oper) (R : Rec) : List Oper -> St -> Option St
 | [],s => some s
 | o :: r,s => match Nq E ops o R s with
  | some s' => Jy E ops R r s'
  | none => none
def Qw {α : Type} : List (Option α) -> Option (List α)
 | [] => some []
 | x :: r => match x with
  | some x => match Qw r with | some l => some (x :: l) | none => none
  | none => none
def Adx (E : Env) (ops : List Oper) (dst : Option Nat) (r : List Oper) (s : St) (a : Nat) (m : Option Nat) (ver : Nat) (v : AV) (left : List (Key × AV)) (cur : Option (Key × AV)) : Option St :=
 match Jx dst s.tm s.nt v with
 | some tm => Jy E ops (fun _ _ _ => none) r ⟨tm,s.nt,s.df,s.sto.set a (.iter m ver left cur)⟩
 | none => none
def Xo (U : Sto) (m : Option Nat) (ver : Nat) : Bool :=
 match m with
 | none => true
 | some r => match U.get r with | some (.map _ _ v) => Nat.beq v ver | _ => false
def Ant (E : Env) (ops : List Oper) (s : St) : Option (List St) :=
 match ops with
 | o :: r => match o.op,o.guard with
  | .next x false,none => match opd E s.tm x with
   | .it a => match s.sto.get a with
    | some (.iter m ver left _) => match Xo s.sto m ver with
     | true => match left with
      | [] => match Adx E ops o.dst r s a m ver (.tup [.bool false]) [] none with | some s' => some [s'] | none => none
      | _ :: _ => Qw ((Fu left).map fun x => Adx E ops o.dst r s a m ver (.tup [.bool true,Qd x.1.1,x.1.2]) x.2 (some x.1))
     | false => none
    | _ => none
   | _ => none
  | _,_ => none
 | [] => none
structure Ann where
 cls : Cls
 lo : Nat
 hi : Nat
def Bz : Cls -> Bool
 | .eff => true
 | _ => false
def Eh (E : Env) : List Oper -> Nat -> List Nat
 | [],_ => []
 | o :: r,i => match Bz (Bl E o.op) with
  | true => i :: Eh E r (i + 1)
  | false => Eh E r (i + 1)
def Mp (b : List Nat) : List Nat -> Bool
 | [] => true
 | i :: r => match r with
  | [] => true
  | j :: s => (b.getD j 0).testBit i && Mp b (j :: s)
def Bv (p : Nat -> Bool) : List Nat -> Nat
 | [] => 0
 | i :: r => match p i with | true => Bv p r + 1 | false => 0
def Jb (E : Env) (b effs : List Nat) : List Oper -> Nat -> List Ann
 | [],_ => []
 | o :: r,i => B9 (Bv (fun e => (b.getD i 0).testBit e) effs) fun lo =>
   B9 (Bv (fun e => !(b.getD e 0).testBit i) effs) fun hi =>
   match Bl E o.op with
   | .pure => ⟨.pure,lo,hi⟩ :: Jb E b effs r (i + 1)
   | .read => ⟨.read,lo,hi⟩ :: Jb E b effs r (i + 1)
   | .eff => ⟨.eff,lo,hi⟩ :: Jb E b effs r (i + 1)
def Pi (ops : Array Oper) (b : List Nat) : Bool :=
 (List.range ops.size).all fun j => (List.range j).all fun i => (b.getD j 0).testBit i || match ops[i]?,ops[j]? with
  | some x,some y => Oper.apart ops x y
  | _,_ => true
def Pj (ops : Array Oper) : Bool :=
 (List.range ops.size).all fun j => match ops[j]? with
  | some o => o.after.all fun e => !Region.binds .any e || decide (e.on < j)
  | none => true
def Ko (E : Env) (ops : Array Oper) : Option (List Ann) :=
 let b := (Region.before ops).toList
 let effs := Eh E ops.toList 0
 match Pi ops b && Pj ops && Mp b effs && Region.noSelect ops with
 | true => some (Jb E b effs ops.toList 0)
 | false => none
structure DS where
 s : St
 eps : List Sto
 log : List (Tr AV × AV)
def Pk (E : Env) (ops : List Oper) (o : Oper) (R : Rec) (d : DS) : Option DS :=
 match Co ops o d.s.tm with
 | some true => match opA E o.op R d.s.tm d.s.sto with
  | some (v,U) => match Jx o.dst d.s.tm d.s.nt v with
   | some tm => match Bz (Bl E o.op) with
    | true => some ⟨⟨tm,d.s.nt,d.s.df,U⟩,U :: d.eps,(d.s.tm,v) :: d.log⟩
    | false => some ⟨⟨tm,d.s.nt,d.s.df,d.s.sto⟩,d.eps,(d.s.tm,v) :: d.log⟩
   | none => none
  | none => none
 | some false => match Jx o.dst d.s.tm d.s.nt Au with
  | some tm => match Bz (Bl E o.op) with
   | true => some ⟨⟨tm,d.s.nt,d.s.df,d.s.sto⟩,d.s.sto :: d.eps,(d.s.tm,Au) :: d.log⟩
   | false => some ⟨⟨tm,d.s.nt,d.s.df,d.s.sto⟩,d.eps,(d.s.tm,Au) :: d.log⟩
  | none => none
 | none => none
def Sg (E : Env) (ops : List Oper) (R : Rec) : List Oper -> DS -> Option DS
 | [],d => some d
 | o :: r,d => match Pk E ops o R d with
  | some d' => Sg E ops R r d'
  | none => none
def steady (E : Env) (ops : List Oper) (o : Oper) (tm : Tr AV) (v : AV) (l : List Sto) : Bool :=
 match Co ops o tm with
 | some true => l.all fun U => match Az E o.op tm U with
  | some (u,_) => AV.beq u v
  | none => false
 | _ => true
def Ga (E : Env) (ops : List Oper) (eps : List Sto) : List Ann -> List Oper -> List (Tr AV × AV) -> Bool
 | [],[],[] => true
 | a :: r,o :: os,(tm,v) :: l => (match a.cls with
  | .read => steady E ops o tm v ((eps.drop a.lo).take (a.hi + 1 - a.lo))
  | _ => true) && Ga E ops eps r os l
 | _,_,_ => false
def Nx (E : Env) (ops : Array Oper) (R : Rec) (s : St) : Option St :=
 match Ko E ops with
 | none => none
 | some anns => match Sg E ops.toList R ops.toList ⟨s,[s.sto],[]⟩ with
  | some d => cond (Ga E ops.toList d.eps.reverse anns ops.toList d.log.reverse) (some d.s) none
  | none => none
def Aso (ops : Array Oper) : Bool := match ops.toList with | o :: _ => (match o.op with | .next _ false => true | _ => false) | [] => false
abbrev Out := Option (List (XE × St))
def Qe (k : St -> Out) : List (XE × St) -> Out
 | [] => some []
 | (.normal,s) :: r => match k s with
  | some a => match Qe k r with
   | some b => some (a ++ b)
   | none => none
  | none => none
 | (x,s) :: r => match Qe k r with | some b => some ((x,s) :: b) | none => none
def Aby (body : St -> Out) : Nat -> St -> Out
 | 0,_ => none
 | n + 1,s => match body s with
  | some l => Qe (Aby body n) l
  | none => none
def H2 (id : Nat) : List (XE × St) -> List (XE × St)
 | [] => []
 | (.exit j,s) :: r => (cond (Nat.beq j id) .normal (.exit j),s) :: H2 id r
 | x :: r => x :: H2 id r
def Fp (E : Env) (lf : Nat) (R : Rec) : Code -> St -> Out
 | .skip,s => some [(.normal,s)]
 | .label _,s => some [(.normal,s)]
 | .region _ ops draw,s => match draw with
  | true => match Nx E ops R s with | some s' => some [(.normal,s')] | none => none
  | false => match Aso ops with
   | true => match Ant E ops.toList s with | some l => some (l.map fun s' => (.normal,s')) | none => none
   | false => match Jy E ops.toList R ops.toList s with | some s' => some [(.normal,s')] | none => none
 | .seq a b,s => match Fp E lf R a s with
  | some l => Qe (Fp E lf R b) l
  | none => none
 | .cond c a b,s => match opd E s.tm c with
  | .bool true => Fp E lf R a s
  | .bool false => Fp E lf R b s
  | _ => none
 | .block id a,s => match Fp E lf R a s with | some l => some (H2 id l) | none => none
 | .loop a,s => match Aby (Fp E lf R a) lf s with
  | some l => Pg l
  | none => none
 | .scope a,s => Fp E lf R a s
 | .exit id,s => some [(.exit id,s)]
 | .ret,s => some [(.ret,s)]
 | _,_ => none
def Yi (P : Program) (tm : Tr AV) (U : Sto) : ResultVar -> Option AV
 | .tmp t => tm.get t
 | .cell a t => match A4 P t with
  | some ti => match tm.get a with
   | some (.pr b off) => match U.cells b with
    | some vs => Et ti (vs.drop off)
    | none => none
   | _ => none
  | none => none
def Vz (P : Program) (tm : Tr AV) (U : Sto) : List ResultVar -> Option (List AV)
 | [] => some []
 | r :: rs => match Yi P tm U r,Vz P tm U rs with
  | some v,some l => some (v :: l)
  | _,_ => none
def T0 (E : Env) : List (Nat × List AV) -> Sto -> Option Sto
 | [],U => some U
 | (f,args) :: r,U => match E.dsum f with
  | some d => match d args U with
   | some U' => T0 E r U'
   | none => none
  | none => none
def Wa : List AV -> AV
 | [v] => v
 | vs => .tup vs
def finA (E : Env) (rs : List ResultVar) (x : XE × St) : Res :=
 match x with
 | (.exit _,_) => none
 | (_,s) => match T0 E s.df s.sto with
  | some U => match Vz E.P s.tm U rs with
   | some vs => some (Wa vs,U)
   | none => none
  | none => none
def Yj : List (AV × Sto) -> Res
 | [] => none
 | x :: r => match r with
  | [] => some x
  | _ => match Yj r with
   | some z => match Sf x.2 z.2 with | some U => some (AV.join x.1 z.1,U) | none => none
   | none => none
def Fq : List AV -> Nat -> Tr AV -> Tr AV
 | [],_,t => t
 | x :: r,i,t => Fq r (i + 1) (t.put (i + 1) i (some x))
def Ary (E : Env) (lf : Nat) (R : Rec) (fn : Func) (args : List AV) (U : Sto) : Res :=
 match fn.body with
 | some c => cond (Nat.ble args.length fn.ntmps)
   (match Fp E lf R c ⟨Fq args 0 .e,fn.ntmps,[],U⟩ with
   | some l => match Qw (l.map (finA E fn.results.toList)) with
    | some rs => Yj rs
    | none => none
   | none => none) none
 | none => none
def Jq (E : Env) (lf : Nat) : Nat -> Rec
 | 0 => fun _ _ _ => none
 | n + 1 => fun f args U => match E.sum f with
  | some s => s args U
  | none => match E.P.funcs[f]? with
   | some fn => Ary E lf (Jq E lf n) fn args U
   | none => none
section
structure Ctx where
 loc : Nat -> Option (Nat × Nat)
 stm : Nat -> Int
 res : Nat -> Prop
 lr : Nat -> Option Loop
def Ctx.own (C : Ctx) (c : Nat) : Prop := C.res c ∨ ∃ a o,C.loc a = some (c,o)
def csize (w : World) (c : Nat) : Nat := match w.heap[c]? with | some (.cells cs _ _) => cs.size | _ => 0
mutual
def R (C : Ctx) (N : Nat) (w : World) : AV -> Value -> Prop
 | .any,_ => True
 | .bool b,v => v = .bool b
 | .int k n,v => v = .int k n
 | .str l,v => ∃ s,v = .string s /\ Bx s = l
 | .nil x,v => v = x /\ Ut x = true
 | .pr a off,v => ∃ ad,v = .pointer (some ad) /\ a < N /\ ∀ c o,C.loc a = some (c,o) -> ad = ⟨c,o + off,none⟩
 | .pv cs,v => ∃ c o,v = .pointer (some ⟨c,o,none⟩) /\ (cs ≠ [] -> ¬ C.own c) /\ RC C N w c cs o
 | .sr a off sz len cap,v => ∃ ad k,v = .slice (some ad) len k /\ a < N /\ len <= k /\ (∀ q,cap = some q -> k = q) /\
   ∀ c o,C.loc a = some (c,o) -> (0 < k -> ad = ⟨c,o + off,none⟩) /\ o + off + k * sz <= csize w c
 | .sv cs sz len cap,v => ∃ ado k,v = .slice ado len k /\ len <= k /\ (∀ q,cap = some q -> k = q) /\ cs.length = len * sz /\ (ado = none -> k = 0) /\
   ∀ ad,ado = some ad -> (0 < k -> ad.spot = none) /\ (cs ≠ [] -> ¬ C.own ad.block) /\ RC C N w ad.block cs ad.off
 | .mp r,v => ∃ c,v = .map (some c) /\ r < N /\ ∀ c' o,C.loc r = some (c',o) -> c = c'
 | .it r,v => ∃ c,v = .pointer (some ⟨c,0,none⟩) /\ r < N /\ ∀ c' o,C.loc r = some (c',o) -> c = c'
 | .stp a,v => v = .int .i64 (C.stm a) /\ a < N
 | .flt k n,v => v = .float k n
 | .yl a,v => v = .func (.yield (C.stm a).toNat) #[] #[] /\ a < N
 | .fn f p q,v => ∃ a b,v = .func f a b /\ RL C N w p a.toList /\ RL C N w q b.toList
 | .ifc t x,v => ∃ y,v = .iface t y /\ R C N w x y
 | .agg cs,v => ∃ a,v = .agg a /\ RL C N w cs a.toList /\ ∀ x ∈ a.toList,x.oneCell = true
 | .tup vs,v => ∃ a,v = .tuple a /\ RL C N w vs a.toList
def RC (C : Ctx) (N : Nat) (w : World) (c : Nat) : List AV -> Nat -> Prop
 | [],_ => True
 | x :: r,o => (∃ v,w.cell? ⟨c,o,none⟩ = some v /\ v.oneCell = true /\ R C N w x v) /\ RC C N w c r (o + 1)
def RL (C : Ctx) (N : Nat) (w : World) : List AV -> List Value -> Prop
 | [],[] => True
 | x :: r,v :: s => R C N w x v /\ RL C N w r s
 | _,_ => False
end
structure Ext (C : Ctx) (N : Nat) (w : World) (C' : Ctx) (N' : Nat) (w' : World) : Prop where
 next : N <= N'
 size : w.heap.size <= w'.heap.size
 keep : ∀ b,b < w.heap.size -> ¬ C.own b -> ¬ C'.own b /\ w'.heap[b]? = w.heap[b]?
 loc : ∀ a,a < N -> ∀ p,C'.loc a = some p -> C.loc a = some p
 stm : ∀ a,a < N -> C'.stm a = C.stm a
 lr : ∀ a,a < N -> C'.lr a = C.lr a
 bsz : ∀ a,a < N -> ∀ c o,C'.loc a = some (c,o) -> csize w' c = csize w c
 res : C'.res = C.res /\ ∀ b,C.res b -> w'.heap[b]? = w.heap[b]?
 os : w'.os = w.os /\ w'.output = w.output
theorem Ext.refl (C : Ctx) (N : Nat) (w : World) : Ext C N w C N w :=
 ⟨nl,nl,fun _ _ h => ⟨h,rfl⟩,fun _ _ _ h => h,fun _ _ => rfl,fun _ _ => rfl,fun _ _ _ _ _ => rfl,⟨rfl,fun _ _ => rfl⟩,rfl,rfl⟩
abbrev by_ := @Ext.refl
theorem Ext.trans {C C₁ C₂ : Ctx} {N N₁ N₂ : Nat} {w w₁ w₂ : World} (h : Ext C N w C₁ N₁ w₁) (k : Ext C₁ N₁ w₁ C₂ N₂ w₂) : Ext C N w C₂ N₂ w₂ where
 next := ax_ h.next k.next
 size := ax_ h.size k.size
 keep b hb ho := by
  obtain ⟨h1,h2⟩ := h.keep b hb ho;obtain ⟨k1,k2⟩ := k.keep b (al_ hb h.size) h1;exact ⟨k1,k2.trans h2⟩
 loc a ha p hp := h.loc a ha p (k.loc a (al_ ha h.next) p hp)
 stm a ha := (k.stm a (al_ ha h.next)).trans (h.stm a ha)
 lr a ha := (k.lr a (al_ ha h.next)).trans (h.lr a ha)
 bsz a ha c o hc := by
  have ha' := al_ ha h.next;exact (k.bsz a ha' c o hc).trans (h.bsz a ha c o (k.loc a ha' _ hc))
 res := ⟨k.res.1.trans h.res.1,fun b hb => (k.res.2 b (by rw [h.res.1]; exact hb)).trans (h.res.2 b hb)⟩
 os := ⟨k.os.1.trans h.os.1,k.os.2.trans h.os.2⟩
theorem Aj0 {w : World} {a : Addr} {v : Value} (h : w.cell? a = some v) : a.block < w.heap.size := by
 unfold World.cell? at h;cases hh : w.heap[a.block]? with
 | none => simp [hh] at h
 | some o => exact (ba_.1 hh).1
theorem Sh {w w' : World} {b : Nat} (h : w'.heap[b]? = w.heap[b]?) (o : Nat) (s : Option Nat) : w'.cell? ⟨b,o,s⟩ = w.cell? ⟨b,o,s⟩ := by
 unfold World.cell?; simp only [h]
section
variable {C C' : Ctx} {N N' : Nat} {w w' : World}
mutual
theorem R.ext (e : Ext C N w C' N' w') : ∀ (x : AV) (v : Value),R C N w x v -> R C' N' w' x v
 | .any,_,_ => by unfold R; trivial
 | .bool b,v,h => by unfold R at *; exact h
 | .int k n,v,h => by unfold R at *; exact h
 | .str l,v,h => by unfold R at *; exact h
 | .nil x,v,h => by unfold R at *; exact h
 | .pr a off,v,h => by
  unfold R at *;obtain ⟨ad,h1,h2,h3⟩ := h;exact ⟨ad,h1,al_ h2 e.next,fun c o hc => h3 c o (e.loc a h2 _ hc)⟩
 | .pv cs,v,h => by
  unfold R at *;obtain ⟨c,o,h1,h2,h3⟩ := h;exact ⟨c,o,h1,RC.extOwn e c cs o h2 h3,RC.ext e c cs o h2 h3⟩
 | .sr a off sz len cap,v,h => by
  unfold R at *;obtain ⟨ad,k,h1,h2,h3,h4,h5⟩ := h;refine ⟨ad,k,h1,al_ h2 e.next,h3,h4,fun c o hc => ?_⟩
  obtain ⟨h6,h7⟩ := h5 c o (e.loc a h2 _ hc)
  exact ⟨h6,by rw [e.bsz a h2 c o hc]; exact h7⟩
 | .sv cs sz len cap,v,h => by
  unfold R at *;obtain ⟨ado,k,h1,h2,h3,h4,h5,h6⟩ := h;refine ⟨ado,k,h1,h2,h3,h4,h5,fun ad ha => ?_⟩
  obtain ⟨h7,h8,h9⟩ := h6 ad ha;exact ⟨h7,RC.extOwn e ad.block cs ad.off h8 h9,RC.ext e ad.block cs ad.off h8 h9⟩
 | .mp r,v,h => by
  unfold R at *;obtain ⟨c,h1,h2,h3⟩ := h;exact ⟨c,h1,al_ h2 e.next,fun c' o hc => h3 c' o (e.loc r h2 _ hc)⟩
 | .it r,v,h => by
  unfold R at *;obtain ⟨c,h1,h2,h3⟩ := h;exact ⟨c,h1,al_ h2 e.next,fun c' o hc => h3 c' o (e.loc r h2 _ hc)⟩
 | .stp a,v,h => by
  unfold R at *
  exact ⟨by rw [e.stm a h.2]; exact h.1,al_ h.2 e.next⟩
 | .flt k n,v,h => by unfold R at *; exact h
 | .yl a,v,h => by
  unfold R at *
  exact ⟨by rw [e.stm a h.2]; exact h.1,al_ h.2 e.next⟩
 | .fn f p q,v,h => by
  unfold R at *;obtain ⟨a,b,h1,h2,h3⟩ := h;exact ⟨a,b,h1,RL.ext e p _ h2,RL.ext e q _ h3⟩
 | .ifc t x,v,h => by
  unfold R at *;obtain ⟨y,h1,h2⟩ := h;exact ⟨y,h1,R.ext e x y h2⟩
 | .agg cs,v,h => by
  unfold R at *;obtain ⟨a,h1,h2,h3⟩ := h;exact ⟨a,h1,RL.ext e cs _ h2,h3⟩
 | .tup vs,v,h => by
  unfold R at *;obtain ⟨a,h1,h2⟩ := h;exact ⟨a,h1,RL.ext e vs _ h2⟩
theorem RC.extOwn (e : Ext C N w C' N' w') (c : Nat) : ∀ (cs : List AV) (o : Nat),(cs ≠ [] -> ¬ C.own c) -> RC C N w c cs o -> (cs ≠ [] -> ¬ C'.own c)
 | [],_,_,_ => fun h => absurd rfl h
 | x :: r,o,ho,h => fun _ => by
  unfold RC at h;obtain ⟨⟨v,h1,_⟩,_⟩ := h
  exact (e.keep c (Aj0 h1) (ho (by simp))).1
theorem RC.ext (e : Ext C N w C' N' w') (c : Nat) : ∀ (cs : List AV) (o : Nat),(cs ≠ [] -> ¬ C.own c) -> RC C N w c cs o -> RC C' N' w' c cs o
 | [],_,_,_ => by unfold RC; trivial
 | x :: r,o,ho,h => by
  unfold RC at *;obtain ⟨⟨v,h1,h2,h3⟩,h4⟩ := h
  exact ⟨⟨v,(Sh (e.keep c (Aj0 h1) (ho (by simp))).2 o none).trans h1,h2,R.ext e x v h3⟩,RC.ext e c r (o + 1) (fun _ => ho (by simp)) h4⟩
theorem RL.ext (e : Ext C N w C' N' w') : ∀ (l : List AV) (vs : List Value),RL C N w l vs -> RL C' N' w' l vs
 | [],[],_ => by unfold RL; trivial
 | x :: r,v :: s,h => by
  unfold RL at *;exact ⟨R.ext e x v h.1,RL.ext e r s h.2⟩
 | [],_ :: _,h => by unfold RL at h; exact h.elim
 | _ :: _,[],h => by unfold RL at h; exact h.elim
end
theorem RL.length : ∀ {l : List AV} {vs : List Value},RL C N w l vs -> l.length = vs.length
 | [],[],_ => rfl
 | x :: r,v :: s,h => by unfold RL at h; simp [RL.length h.2]
 | [],_ :: _,h => by unfold RL at h; exact h.elim
 | _ :: _,[],h => by unfold RL at h; exact h.elim
theorem RL.get : ∀ {l : List AV} {vs : List Value} (_ : RL C N w l vs) (i : Nat) (x : AV),l[i]? = some x -> ∃ v,vs[i]? = some v /\ R C N w x v
 | x :: r,v :: s,h,0,y,hy => by unfold RL at h; simp at hy; subst hy; exact ⟨v,rfl,h.1⟩
 | x :: r,v :: s,h,i + 1,y,hy => by unfold RL at h; exact RL.get h.2 i y (by simpa using hy)
 | [],[],_,i,y,hy => by simp at hy
 | [],_ :: _,h,_,_,_ => by unfold RL at h; exact h.elim
 | _ :: _,[],h,_,_,_ => by unfold RL at h; exact h.elim
theorem RL.append : ∀ {l : List AV} {vs : List Value} {l' : List AV} {vs' : List Value},RL C N w l vs -> RL C N w l' vs' -> RL C N w (l ++ l') (vs ++ vs')
 | [],[],_,_,_,k => k
 | x :: r,v :: s,_,_,h,k => by unfold RL at h; show RL C N w (x :: (r ++ _)) (v :: (s ++ _)); unfold RL; exact ⟨h.1,RL.append h.2 k⟩
 | [],_ :: _,_,_,h,_ => by unfold RL at h; exact h.elim
 | _ :: _,[],_,_,h,_ => by unfold RL at h; exact h.elim
theorem RL.drop : ∀ {l : List AV} {vs : List Value} (n : Nat),RL C N w l vs -> RL C N w (l.drop n) (vs.drop n)
 | [],[],n,h => by simp [RL]
 | x :: r,v :: s,0,h => h
 | x :: r,v :: s,n + 1,h => by unfold RL at h; simpa using RL.drop n h.2
 | [],_ :: _,_,h => by unfold RL at h; exact h.elim
 | _ :: _,[],_,h => by unfold RL at h; exact h.elim
theorem RC.get : ∀ {cs : List AV} {c o : Nat} (_ : RC C N w c cs o) (i : Nat) (x : AV),cs[i]? = some x -> ∃ v,w.cell? ⟨c,o + i,none⟩ = some v /\ v.oneCell = true /\ R C N w x v
 | x :: r,c,o,h,0,y,hy => by unfold RC at h; simp at hy; subst hy; exact h.1
 | x :: r,c,o,h,i + 1,y,hy => by
  unfold RC at h
  have := RC.get h.2 i y (by simpa using hy)
  rwa [show o + 1 + i = o + (i + 1) by omega] at this
 | [],_,_,_,i,y,hy => by simp at hy
theorem RC.drop : ∀ {cs : List AV} {c o : Nat} (n : Nat),RC C N w c cs o -> RC C N w c (cs.drop n) (o + n)
 | cs,c,o,0,h => h
 | [],_,_,n + 1,_ => by simp [RC]
 | x :: r,c,o,n + 1,h => by
  unfold RC at h;have := RC.drop n h.2
  rwa [show o + 1 + n = o + (n + 1) by omega] at this
theorem RC.take : ∀ {cs : List AV} {c o : Nat} (n : Nat) {l : List AV},C7 n cs = some l -> RC C N w c cs o -> RC C N w c l o
 | cs,c,o,0,l,ht,h => by simp [C7] at ht; subst ht; unfold RC; trivial
 | x :: r,c,o,n + 1,l,ht,h => by
  unfold RC at h;simp only [C7] at ht;cases hr : C7 n r with
  | none => simp [hr] at ht
  | some l' =>
   simp [hr] at ht
   subst ht;unfold RC;exact ⟨h.1,RC.take n hr h.2⟩
 | [],_,_,n + 1,l,ht,h => by simp [C7] at ht
end
theorem Gw : ∀ {n : Nat} {l l' : List AV},C7 n l = some l' -> l' = l.take n /\ l'.length = n
 | 0,l,l',h => by simp [C7] at h; subst h; simp
 | n + 1,[],l',h => by simp [C7] at h
 | n + 1,x :: r,l',h => by
  simp only [C7] at h;cases hr : C7 n r with
  | none => simp [hr] at h
  | some l'' =>
   simp [hr] at h
   subst h;obtain ⟨h1,h2⟩ := Gw hr
   exact ⟨by simp [h1],by simp [h2]⟩
theorem Tr.get_mkL {α : Type} (v : Option α) (l r : Tr α) (k : Nat) : (Tr.mkL v l r).get k = (Tr.n v l r).get k := by cases l <;> rfl
abbrev ge_ := @Tr.get_mkL
theorem Tr.get_mkR {α : Type} (v : Option α) (l r : Tr α) (k : Nat) : (Tr.mkR v l r).get k = (Tr.n v l r).get k := by cases r <;> rfl
abbrev gf_ := @Tr.get_mkR
theorem Anu {n : Nat} (h : ¬ n = 0) : Nat.beq n 0 = false := by cases n with | zero => exact absurd rfl h | succ n => rfl
theorem Tr.get_succ {α : Type} (v : Option α) (l r : Tr α) (k : Nat) : (Tr.n v l r).get (k + 1) = if k % 2 = 0 then l.get (k / 2) else r.get (k / 2) := by
 simp only [Tr.get]
 by_cases h : k % 2 = 0
 ·simp [h]
 ·have : Nat.beq (k % 2) 0 = false := Anu h
  simp [h,this]
abbrev cj_ := @Tr.get_succ
theorem Tr.get_zero {α : Type} (v : Option α) (l r : Tr α) : (Tr.n v l r).get 0 = v := rfl
abbrev er_ := @Tr.get_zero
theorem Tr.get_put_ne {α : Type} : ∀ (f : Nat) (t : Tr α) (k : Nat) (x : Option α) (j : Nat),j ≠ k -> (t.put f k x).get j = t.get j
 | 0,t,k,x,j,h => rfl
 | f + 1,.e,0,x,j,h => by
  cases j with
  | zero => exact absurd rfl h
  | succ j => simp [Tr.put,cj_,Tr.get]
 | f + 1,.n v l r,0,x,j,h => by
  cases j with
  | zero => exact absurd rfl h
  | succ j => simp [Tr.put,cj_]
 | f + 1,.e,k + 1,x,j,h => by
  simp only [Tr.put]
  by_cases hk : k % 2 = 0
  ·have hb : Nat.beq (k % 2) 0 = true := by simp [hk]
   simp only [hb,cond_true,ge_];cases j with
   | zero => simp [Tr.get]
   | succ j =>
    rw [cj_]
    by_cases hj : j % 2 = 0
    ·rw [if_pos hj,Tr.get_put_ne f _ _ _ _ Om]; simp [Tr.get]
    ·rw [if_neg hj]; simp [Tr.get]
  ·have hb : Nat.beq (k % 2) 0 = false := Anu hk;simp only [hb,cond_false,gf_];cases j with
   | zero => simp [Tr.get]
   | succ j =>
    rw [cj_]
    by_cases hj : j % 2 = 0
    ·rw [if_pos hj]; simp [Tr.get]
    ·rw [if_neg hj,Tr.get_put_ne f _ _ _ _ Om]; simp [Tr.get]
 | f + 1,.n v l r,k + 1,x,j,h => by
  simp only [Tr.put]
  by_cases hk : k % 2 = 0
  ·have hb : Nat.beq (k % 2) 0 = true := by simp [hk]
   simp only [hb,cond_true,ge_];cases j with
   | zero => simp [Tr.get]
   | succ j =>
    rw [cj_,cj_]
    by_cases hj : j % 2 = 0
    ·rw [if_pos hj,if_pos hj,Tr.get_put_ne f _ _ _ _ Om]
    ·rw [if_neg hj,if_neg hj]
  ·have hb : Nat.beq (k % 2) 0 = false := Anu hk;simp only [hb,cond_false,gf_];cases j with
   | zero => simp [Tr.get]
   | succ j =>
    rw [cj_,cj_]
    by_cases hj : j % 2 = 0
    ·rw [if_pos hj,if_pos hj]
    ·rw [if_neg hj,if_neg hj,Tr.get_put_ne f _ _ _ _ Om]
abbrev ei_ := @Tr.get_put_ne
theorem Tr.get_put_eq {α : Type} : ∀ (f : Nat) (t : Tr α) (k : Nat) (x : Option α),k < f -> (t.put f k x).get k = x
 | 0,t,k,x,h => absurd h Om
 | f + 1,.e,0,x,_ => rfl
 | f + 1,.n v l r,0,x,_ => rfl
 | f + 1,.e,k + 1,x,h => by
  simp only [Tr.put]
  by_cases hk : k % 2 = 0
  ·have hb : Nat.beq (k % 2) 0 = true := by simp [hk]
   simp only [hb,cond_true,ge_];rw [cj_,if_pos hk,Tr.get_put_eq f .e (k / 2) x Om]
  ·have hb : Nat.beq (k % 2) 0 = false := Anu hk;simp only [hb,cond_false,gf_];rw [cj_,if_neg hk,Tr.get_put_eq f .e (k / 2) x Om]
 | f + 1,.n v l r,k + 1,x,h => by
  simp only [Tr.put]
  by_cases hk : k % 2 = 0
  ·have hb : Nat.beq (k % 2) 0 = true := by simp [hk]
   simp only [hb,cond_true,ge_];rw [cj_,if_pos hk,Tr.get_put_eq f l (k / 2) x Om]
  ·have hb : Nat.beq (k % 2) 0 = false := Anu hk;simp only [hb,cond_false,gf_];rw [cj_,if_neg hk,Tr.get_put_eq f r (k / 2) x Om]
abbrev ej_ := @Tr.get_put_eq
theorem Tr.get_put {α : Type} (t : Tr α) (k : Nat) (x : Option α) (j : Nat) : (t.put (k + 1) k x).get j = if j = k then x else t.get j := by
 by_cases h : j = k
 ·subst h; rw [if_pos rfl,ej_ _ _ _ _ Om]
 ·rw [if_neg h,ei_ _ _ _ _ _ h]
abbrev de_ := @Tr.get_put
theorem Ei {α β : Type} (t : Tr α) (k : Tr α -> β) : Ru t k = k t := by cases t <;> rfl
theorem Sto.get_set (U : Sto) (a : Nat) (o : AO) (b : Nat) : (U.set a o).get b = if b = a then some o else U.get b := by
 cases U; simp only [Sto.set,Ei,Sto.get,de_]
abbrev a_ := @Sto.get_set
theorem Sto.get_kill (U : Sto) (a : Nat) (b : Nat) : (U.kill a).get b = if b = a then none else U.get b := by
 cases U; simp only [Sto.kill,Ei,Sto.get,de_]
abbrev cp_ := @Sto.get_kill
theorem Sto.get_new (U : Sto) (o : AO) (b : Nat) : (U.new o).get b = if b = nx U then some o else U.get b := by
 cases U; simp only [Sto.new,Ei,Ai,Sto.get,nx,de_]; rfl
abbrev ab_ := @Sto.get_new
theorem Ac (U : Sto) (a : Nat) (o : AO) : nx (U.set a o) = nx U := by cases U; simp only [Sto.set,Ei,nx]
theorem Bn (U : Sto) (a : Nat) : nx (U.kill a) = nx U := by cases U; simp only [Sto.kill,Ei,nx]
theorem Af (U : Sto) (o : AO) : nx (U.new o) = nx U + 1 := by cases U; simp only [Sto.new,Ei,Ai,nx]
mutual
def KV : Key -> Value -> Prop
 | .bool b,v => v = .bool b
 | .int k n,v => v = .int k n
 | .str l,v => ∃ s,v = .string s /\ Bx s = l
 | .agg cs,v => ∃ a,v = .agg a /\ KVs cs a.toList
def KVs : List Key -> List Value -> Prop
 | [],[] => True
 | x :: r,v :: s => KV x v /\ KVs r s
 | _,_ => False
end
def KS (d : TypeDesc) (v : Value) : Prop :=
 match d with
 | .int k => ∃ n,v = .int k n
 | .string => ∃ s,v = .string s
 | .bool => ∃ b,v = .bool b
 | _ => False
def KFs (P : Program) : List Field -> List Value -> Prop
 | [],[] => True
 | f :: fs, v :: vs => (∃ i d, P.info? f.type = some i /\ P.underlying f.type = some d /\ i.size = 1 /\ Qq d = false /\ KS d v /\ f.name ≠ "_") /\ KFs P fs vs
 | _,_ => False
def KT (P : Program) (kt : Nat) (v : Value) : Prop :=
 (∃ d,P.underlying kt = some d /\ KS d v) ∨
 (∃ fs a,P.underlying kt = some (.struct fs) /\ v = .agg a /\ KFs P fs.toList a.toList /\ I8 fs.toList 0 = true /\ P.stoodInHeld kt = false)
def ER (C : Ctx) (N : Nat) (w : World) : List (Key × AV) -> List MapEntry -> Prop
 | [],[] => True
 | x :: r,e :: s => (KV x.1 e.key /\ R C N w x.2 e.val) /\ ER C N w r s
 | _,_ => False
structure Dp (P : Program) (C : Ctx) (N : Nat) (w : World) (kt : Nat) (es : List (Key × AV)) (E : Array MapEntry) (clock : Nat) : Prop where
 typed : ∀ e ∈ E.toList,KT P kt e.key
 perm : ∃ L,List.Perm L E.toList /\ ER C N w es L
 keys : (E.toList.map (·.key)).Nodup
 born : ∀ e ∈ E.toList,e.born < clock
 apart : (E.toList.map (·.born)).Nodup
def codeX : XE -> Code
 | .normal => .skip
 | .exit id => .exit id
 | .ret => .ret
def Hg (r : Loop) : LS -> Loop
 | .ready => { r with state := .ready,pending := none }
 | .busy => { r with state := .busy,pending := none }
 | .done x => { r with state := .done,pending := some (codeX x) }
def OR (P : Program) (C : Ctx) (w : World) (U : Sto) (a : Nat) : AO -> Prop
 | .cells vs => ∃ c o cs T,C.loc a = some (c,o) /\ w.heap[c]? = some (.cells cs T (0,0)) /\ RC C (nx U) w c vs o
 | .map kt es _ => ∃ c E clock,C.loc a = some (c,0) /\ w.heap[c]? = some (.map E clock) /\ Dp P C (nx U) w kt es E clock
 | .iter none _ left _ => ∃ c since seen last,C.loc a = some (c,0) /\ w.heap[c]? = some (.mapIter none since seen last) /\ left = []
 | .iter (some m) ver left cur => m < nx U /\ ∃ c cm since seen last,C.loc a = some (c,0) /\ w.heap[c]? = some (.mapIter (some cm) since seen last) /\
   ∀ kt es ver',U.get m = some (.map kt es ver') -> ver <= ver' /\ (ver = ver' -> ∃ E,C.loc m = some (cm,0) /\ w.heap[cm]? = some (.map E since) /\ last = since /\
    (∃ L,List.Perm L (E.toList.filter fun e => !seen.contains e.born) /\ ER C (nx U) w left L) /\
    ∀ k v,cur = some (k,v) -> ∃ e ∈ E.toList,seen.back? = some e.born /\ KV k e.key /\ R C (nx U) w v e.val)
 | .stamp m ver k => m < nx U /\ ∀ kt es ver',U.get m = some (.map kt es ver') -> ver <= ver' /\ (ver = ver' -> ∃ cm E clock,C.loc m = some (cm,0) /\ w.heap[cm]? = some (.map E clock) /\
    ∃ e ∈ E.toList,KV k e.key /\ C.stm a = e.born)
 | .loop st => ∃ c r,C.loc a = some (c,0) /\ C.lr a = some r /\ w.heap[c]? = some (.loop (Hg r st))
def Xp : AO -> Bool
 | .stamp .. => true
 | _ => false
structure Sim (P : Program) (C : Ctx) (w : World) (U : Sto) : Prop where
 obj : ∀ a O,U.get a = some O -> OR P C w U a O
 bound : ∀ a O,U.get a = some O -> a < nx U
 dom : ∀ a p,C.loc a = some p -> ∃ O,U.get a = some O /\ Xp O = false
 inj : ∀ a b c o o',C.loc a = some (c,o) -> C.loc b = some (c,o') -> a = b
 lt : ∀ a c o,C.loc a = some (c,o) -> c < w.heap.size
 rlt : ∀ b,C.res b -> b < w.heap.size
 rdis : ∀ a c o,C.loc a = some (c,o) -> ¬ C.res c
section
variable {C C' : Ctx} {N N' : Nat} {w w' : World}
theorem ER.ext (e : Ext C N w C' N' w') : ∀ {l : List (Key × AV)} {L : List MapEntry},ER C N w l L -> ER C' N' w' l L
 | [],[],_ => by unfold ER; trivial
 | x :: r,f :: s,h => by unfold ER at *; exact ⟨⟨h.1.1,R.ext e _ _ h.1.2⟩,ER.ext e h.2⟩
 | [],_ :: _,h => by unfold ER at h; exact h.elim
 | _ :: _,[],h => by unfold ER at h; exact h.elim
theorem Dp.ext {P : Program} (e : Ext C N w C' N' w') {kt : Nat} {es : List (Key × AV)} {E : Array MapEntry} {clock : Nat} (h : Dp P C N w kt es E clock) : Dp P C' N' w' kt es E clock :=
 ⟨h.typed,let ⟨L,h1,h2⟩ := h.perm; ⟨L,h1,h2.ext e⟩,h.keys,h.born,h.apart⟩
theorem RC.extHeap (e : Ext C N w C' N' w') (c : Nat) (hh : w'.heap[c]? = w.heap[c]?) : ∀ (cs : List AV) (o : Nat),RC C N w c cs o -> RC C' N' w' c cs o
 | [],_,_ => by unfold RC; trivial
 | x :: r,o,h => by
  unfold RC at *;obtain ⟨⟨v,h1,h2,h3⟩,h4⟩ := h;exact ⟨⟨v,(Sh hh o none).trans h1,h2,R.ext e x v h3⟩,RC.extHeap e c hh r (o + 1) h4⟩
end
theorem OR.ext {P : Program} {C C' : Ctx} {w w' : World} {U U' : Sto} {a : Nat} {O : AO} (h : OR P C w U a O) (e : Ext C (nx U) w C' (nx U') w') (ha : a < nx U)
  (hl : C'.loc a = C.loc a) (hh : ∀ c o,C.loc a = some (c,o) -> w'.heap[c]? = w.heap[c]?)
  (hm : ∀ m,m < nx U -> ∀ kt es' v',U'.get m = some (.map kt es' v') -> ∃ kt' es v,U.get m = some (.map kt' es v) /\ v <= v' /\ (v = v' -> C'.loc m = C.loc m /\ ∀ c o,C.loc m = some (c,o) -> w'.heap[c]? = w.heap[c]?)) :
  OR P C' w' U' a O := by
 cases O with
 | cells vs =>
  obtain ⟨c,o,cs,T,h1,h2,h3⟩ := h;exact ⟨c,o,cs,T,hl.trans h1,(hh c o h1).trans h2,RC.extHeap e c (hh c o h1) vs o h3⟩
 | map kt es ver =>
  obtain ⟨c,E,clock,h1,h2,h3⟩ := h;exact ⟨c,E,clock,hl.trans h1,(hh c 0 h1).trans h2,h3.ext e⟩
 | iter m ver left cur =>
  cases m with
  | none =>
   obtain ⟨c,since,seen,last,h1,h2,h3⟩ := h;exact ⟨c,since,seen,last,hl.trans h1,(hh c 0 h1).trans h2,h3⟩
  | some m =>
   obtain ⟨h0,c,cm,since,seen,last,h1,h2,h3⟩ := h;refine ⟨al_ h0 e.next,c,cm,since,seen,last,hl.trans h1,(hh c 0 h1).trans h2,fun kt es' v' hg => ?_⟩
   obtain ⟨kt',es,v,g1,g2,g3⟩ := hm m h0 kt es' v' hg;obtain ⟨k1,k2⟩ := h3 kt' es v g1;refine ⟨ax_ k1 g2,fun hv => ?_⟩
   have hv1 : ver = v := by omega
   obtain ⟨g4,g5⟩ := g3 Om;obtain ⟨E,q1,q2,q3,⟨L,q4,q5⟩,q6⟩ := k2 hv1;exact ⟨E,g4.trans q1,(g5 cm 0 q1).trans q2,q3,⟨L,q4,q5.ext e⟩,fun k x hk => let ⟨f,f1,f2,f3,f4⟩ := q6 k x hk; ⟨f,f1,f2,f3,R.ext e _ _ f4⟩⟩
 | stamp m ver k =>
  obtain ⟨h0,h3⟩ := h;refine ⟨al_ h0 e.next,fun kt es' v' hg => ?_⟩
  obtain ⟨kt',es,v,g1,g2,g3⟩ := hm m h0 kt es' v' hg;obtain ⟨k1,k2⟩ := h3 kt' es v g1;refine ⟨ax_ k1 g2,fun hv => ?_⟩
  have hv1 : ver = v := by omega
  obtain ⟨g4,g5⟩ := g3 Om;obtain ⟨cm,E,clock,q1,q2,f,f1,f2,f3⟩ := k2 hv1
  exact ⟨cm,E,clock,g4.trans q1,(g5 cm 0 q1).trans q2,f,f1,f2,by rw [e.stm a ha]; exact f3⟩
 | loop st =>
  obtain ⟨c,r,h1,h2,h3⟩ := h;exact ⟨c,r,hl.trans h1,(e.lr a ha).trans h2,(hh c 0 h1).trans h3⟩
end
structure Wr (w w' : World) (c : Nat) (O : Obj) : Prop where
 size : w'.heap.size = w.heap.size
 here : w'.heap[c]? = some O
 other : ∀ b,b ≠ c -> w'.heap[b]? = w.heap[b]?
 os : w'.os = w.os /\ w'.output = w.output
structure Pu (w w' : World) (O : Obj) : Prop where
 size : w'.heap.size = w.heap.size + 1
 here : w'.heap[w.heap.size]? = some O
 other : ∀ b,b < w.heap.size -> w'.heap[b]? = w.heap[b]?
 os : w'.os = w.os /\ w'.output = w.output
theorem Pu.of_push {w w' : World} {O : Obj} (h : w'.heap = w.heap.push O) (os : w'.os = w.os /\ w'.output = w.output) : Pu w w' O :=
 ⟨by rw [h]; simp,by rw [h]; simp,fun b hb => by rw [h,e_ hb]; exact (cn_ hb).symm,os⟩
abbrev gg_ := @Pu.of_push
def Ctx.add (C : Ctx) (a c o : Nat) : Ctx := { C with loc := fun b => if b = a then some (c,o) else C.loc b }
def Ctx.del (C : Ctx) (a : Nat) : Ctx := { C with loc := fun b => if b = a then none else C.loc b }
def Ctx.addStm (C : Ctx) (a : Nat) (n : Int) : Ctx := { C with stm := fun b => if b = a then n else C.stm b }
section
variable {P : Program} {C : Ctx} {w w' : World} {U : Sto}
theorem Sim.own_lt (h : Sim P C w U) {c : Nat} (hc : C.own c) : c < w.heap.size := hc.elim (h.rlt c) fun ⟨a,o,ho⟩ => h.lt a c o ho
theorem Sim.same (h : Sim P C w U) (hs : w.heap.size <= w'.heap.size) (hh : ∀ b,b < w.heap.size -> w'.heap[b]? = w.heap[b]?) (os : w'.os = w.os /\ w'.output = w.output) :
  Sim P C w' U /\ Ext C (nx U) w C (nx U) w' := by
 have e : Ext C (nx U) w C (nx U) w' := ⟨nl,hs,fun b hb ho => ⟨ho,hh b hb⟩,fun _ _ _ h => h,fun _ _ => rfl,fun _ _ => rfl,
  fun a _ c o hc => by unfold csize; rw [hh c (h.lt a c o hc)],⟨rfl,fun b hb => hh b (h.rlt b hb)⟩,os⟩
 refine ⟨⟨fun a O hg => ?_,h.bound,h.dom,h.inj,fun a c o hl => al_ (h.lt a c o hl) hs,fun b hb => al_ (h.rlt b hb) hs,h.rdis⟩,e⟩
 exact (h.obj a O hg).ext e (h.bound a O hg) rfl (fun c o hc => hh c (h.lt a c o hc)) fun m _ kt es' v' hg' => ⟨kt,es',v',hg',nl,fun _ => ⟨rfl,fun c o hc => hh c (h.lt m c o hc)⟩⟩
theorem Sim.push (h : Sim P C w U) {O : Obj} (p : Pu w w' O) : Sim P C w' U /\ Ext C (nx U) w C (nx U) w' :=
 h.same (by have := p.size; omega) p.other p.os
theorem Sim.new (h : Sim P C w U) {B : Obj} (p : Pu w w' B) (O : AO) (hO : Xp O = false)
  (hrel : Ext C (nx U) w (C.add (nx U) w.heap.size 0) (nx U + 1) w' -> OR P (C.add (nx U) w.heap.size 0) w' (U.new O) (nx U) O) :
  Sim P (C.add (nx U) w.heap.size 0) w' (U.new O) /\ Ext C (nx U) w (C.add (nx U) w.heap.size 0) (nx U + 1) w' := by
 have hne : ∀ {a},a < nx U -> ¬ a = nx U := fun h => by omega
 have bq : ∀ a,a < nx U -> (C.add (nx U) w.heap.size 0).loc a = C.loc a := fun a ha => by simp [Ctx.add,hne ha]
 have e : Ext C (nx U) w (C.add (nx U) w.heap.size 0) (nx U + 1) w' := ⟨by omega,by have := p.size; omega,
  fun b hb ho => ⟨fun hh => hh.elim (fun hr => ho (.inl hr)) fun ⟨a,o,hao⟩ => by
   by_cases ha : a = nx U
   ·subst ha; simp [Ctx.add] at hao; omega
   ·simp [Ctx.add,ha] at hao; exact ho (.inr ⟨a,o,hao⟩),p.other b hb⟩,
  fun a ha q hq => by rwa [bq a ha] at hq,fun _ _ => rfl,fun _ _ => rfl,
  fun a ha c o hc => by rw [bq a ha] at hc; unfold csize; rw [p.other c (h.lt a c o hc)],⟨rfl,fun b hb => p.other b (h.rlt b hb)⟩,p.os⟩
 refine ⟨⟨fun a X hg => ?_,fun a X hg => ?_,fun a q hq => ?_,fun a b c o o' ha hb => ?_,fun a c o hl => ?_,fun b hb => by have := h.rlt b hb; have := p.size; omega,fun a c o hl hr => ?_⟩,e⟩
 ·rw [ab_] at hg
  by_cases ha : a = nx U
  ·subst ha; simp at hg; subst hg; exact hrel e
  ·rw [if_neg ha] at hg;have hlt := h.bound a X hg
   refine (h.obj a X hg).ext (by rw [Af]; exact e) hlt (bq a hlt) (fun c o hc => p.other c (h.lt a c o hc)) fun m hm kt es' v' hg' => ?_
   rw [ab_,if_neg (hne hm)] at hg';exact ⟨kt,es',v',hg',nl,fun _ => ⟨bq m hm,fun c o hc => p.other c (h.lt m c o hc)⟩⟩
 ·rw [Af];rw [ab_] at hg
  by_cases ha : a = nx U
  ·omega
  ·rw [if_neg ha] at hg; have := h.bound a X hg; omega
 ·rw [ab_]
  by_cases ha : a = nx U
  ·rw [if_pos ha]; exact ⟨O,rfl,hO⟩
  ·simp [Ctx.add,ha] at hq; rw [if_neg ha]; exact h.dom a q hq
 ·by_cases ha' : a = nx U
  ·by_cases hb' : b = nx U
   ·omega
   ·simp [Ctx.add,ha'] at ha; simp [Ctx.add,hb'] at hb; have := h.lt b c o' hb; omega
  ·by_cases hb' : b = nx U
   ·simp [Ctx.add,ha'] at ha; simp [Ctx.add,hb'] at hb; have := h.lt a c o ha; omega
   ·simp [Ctx.add,ha'] at ha; simp [Ctx.add,hb'] at hb; exact h.inj a b c o o' ha hb
 ·by_cases ha : a = nx U
  ·simp [Ctx.add,ha] at hl; have := p.size; omega
  ·simp [Ctx.add,ha] at hl; have := h.lt a c o hl; have := p.size; omega
 ·by_cases ha : a = nx U
  ·simp [Ctx.add,ha] at hl; have := h.rlt c hr; omega
  ·simp [Ctx.add,ha] at hl; exact h.rdis a c o hl hr
theorem Sim.upd (h : Sim P C w U) {a c o : Nat} {B : Obj} (hl : C.loc a = some (c,o)) (p : Wr w w' c B) (hsz : csize w' c = csize w c) {O₀ : AO} (h₀ : U.get a = some O₀)
  (O : AO) (hO : Xp O = false) (oz : ∀ kt es v,O = .map kt es v -> ∃ kt₀ es₀ v₀,O₀ = .map kt₀ es₀ v₀ /\ v₀ < v)
  (hrel : Ext C (nx U) w C (nx U) w' -> OR P C w' (U.set a O) a O) :
  Sim P C w' (U.set a O) /\ Ext C (nx U) w C (nx U) w' := by
 have cf : ∀ b c' o',b ≠ a -> C.loc b = some (c',o') -> w'.heap[c']? = w.heap[c']? := fun b c' o' hb hc => p.other c' (fun hcc => hb (h.inj b a c' o' o hc (hcc ▸ hl)))
 have e : Ext C (nx U) w C (nx U) w' := ⟨nl,by rw [p.size]; exact nl,
  fun b _ ho => ⟨ho,p.other b (fun hb => ho (.inr (hb ▸ ⟨a,o,hl⟩)))⟩,fun _ _ _ h => h,fun _ _ => rfl,fun _ _ => rfl,
  fun b _ c' o' hc => by
   by_cases hb : b = a
   ·subst hb; rw [hl] at hc; cases hc; exact hsz
   ·unfold csize; rw [cf b c' o' hb hc],⟨rfl,fun b hb => p.other b (fun hbc => h.rdis a c o hl (hbc ▸ hb))⟩,p.os⟩
 refine ⟨⟨fun b X hg => ?_,fun b X hg => ?_,fun b q hq => ?_,h.inj,fun b c' o' hc => by rw [p.size]; exact h.lt b c' o' hc,fun b hb => by rw [p.size]; exact h.rlt b hb,h.rdis⟩,e⟩
 ·rw [a_] at hg
  by_cases hb : b = a
  ·subst hb; simp at hg; subst hg; exact hrel e
  ·rw [if_neg hb] at hg
   refine (h.obj b X hg).ext (by rw [Ac]; exact e) (h.bound b X hg) rfl (fun c' o' hc => cf b c' o' hb hc) fun m _ kt es' v' hg' => ?_
   rw [a_] at hg'
   by_cases hm : m = a
   ·subst hm; simp at hg';obtain ⟨kt₀,es₀,v₀,h1,h2⟩ := oz kt es' v' hg'
    exact ⟨kt₀,es₀,v₀,h1 ▸ h₀,by omega,fun hv => by omega⟩
   ·rw [if_neg hm] at hg';exact ⟨kt,es',v',hg',nl,fun _ => ⟨rfl,fun c' o' hc => cf m c' o' hm hc⟩⟩
 ·rw [Ac];rw [a_] at hg
  by_cases hb : b = a
  ·subst hb; exact h.bound b O₀ h₀
  ·rw [if_neg hb] at hg; exact h.bound b X hg
 ·rw [a_]
  by_cases hb : b = a
  ·rw [if_pos hb]; exact ⟨O,rfl,hO⟩
  ·rw [if_neg hb]; exact h.dom b q hq
theorem Sim.kill (h : Sim P C w U) (a : Nat) : Sim P (C.del a) w (U.kill a) /\ Ext C (nx U) w (C.del a) (nx U) w := by
 have bq : ∀ b p,(C.del a).loc b = some p -> b ≠ a /\ C.loc b = some p := fun b p hp => by
  by_cases hb : b = a
  ·simp [Ctx.del,hb] at hp
  ·simp [Ctx.del,hb] at hp; exact ⟨hb,hp⟩
 have e : Ext C (nx U) w (C.del a) (nx U) w := ⟨nl,nl,fun b _ ho => ⟨fun hh => hh.elim (fun hr => ho (.inl hr)) fun ⟨x,o,hx⟩ => ho (.inr ⟨x,o,(bq x _ hx).2⟩),rfl⟩,
  fun b _ p hp => (bq b p hp).2,fun _ _ => rfl,fun _ _ => rfl,fun _ _ _ _ _ => rfl,⟨rfl,fun _ _ => rfl⟩,rfl,rfl⟩
 refine ⟨⟨fun b X hg => ?_,fun b X hg => ?_,fun b q hq => ?_,fun x y c o o' hx hy => h.inj x y c o o' (bq x _ hx).2 (bq y _ hy).2,fun x c o hx => h.lt x c o (bq x _ hx).2,h.rlt,fun x c o hx => h.rdis x c o (bq x _ hx).2⟩,e⟩
 ·rw [cp_] at hg
  by_cases hb : b = a
  ·rw [if_pos hb] at hg; cases hg
  ·rw [if_neg hb] at hg
   refine (h.obj b X hg).ext (by rw [Bn]; exact e) (h.bound b X hg) (by simp [Ctx.del,hb]) (fun _ _ _ => rfl) fun m _ kt es' v' hg' => ?_
   rw [cp_] at hg'
   by_cases hm : m = a
   ·rw [if_pos hm] at hg'; cases hg'
   ·rw [if_neg hm] at hg'; exact ⟨kt,es',v',hg',nl,fun _ => ⟨by simp [Ctx.del,hm],fun _ _ _ => rfl⟩⟩
 ·rw [Bn];rw [cp_] at hg
  by_cases hb : b = a
  ·rw [if_pos hb] at hg; cases hg
  ·rw [if_neg hb] at hg; exact h.bound b X hg
 ·obtain ⟨hb,hq'⟩ := bq b q hq;rw [cp_,if_neg hb]; exact h.dom b q hq'
theorem Sim.replace (h : Sim P C w U) {a c o o' : Nat} {B : Obj} (hl : C.loc a = some (c,o)) (p : Wr w w' c B) {O₀ : AO} (h₀ : U.get a = some O₀)
  (O : AO) (hO : Xp O = false)
  (hrel : Ext C (nx U) w ((C.del a).add (nx U) c o') (nx U + 1) w' -> OR P ((C.del a).add (nx U) c o') w' ((U.kill a).new O) (nx U) O) :
  Sim P ((C.del a).add (nx U) c o') w' ((U.kill a).new O) /\ Ext C (nx U) w ((C.del a).add (nx U) c o') (nx U + 1) w' := by
 have han : a < nx U := h.bound a O₀ h₀;have cf : ∀ b c' o',b ≠ a -> C.loc b = some (c',o') -> w'.heap[c']? = w.heap[c']? := fun b c' o' hb hc => p.other c' (fun hcc => hb (h.inj b a c' o' o hc (hcc ▸ hl)))
 have bq : ∀ b q,((C.del a).add (nx U) c o').loc b = some q -> (b = nx U /\ q = (c,o')) ∨ (b ≠ nx U /\ b ≠ a /\ C.loc b = some q) := fun b q hq => by
  by_cases hb : b = nx U
  ·simp [Ctx.add,hb] at hq; exact .inl ⟨hb,hq.symm⟩
  ·by_cases hb' : b = a
   ·simp [Ctx.add,Ctx.del,hb,hb'] at hq; omega
   ·simp [Ctx.add,Ctx.del,hb,hb'] at hq; exact .inr ⟨hb,hb',hq⟩
 have fq : ∀ b,b < nx U -> b ≠ a -> ((C.del a).add (nx U) c o').loc b = C.loc b := fun b hb hb' => by simp [Ctx.add,Ctx.del,hb',show ¬ b = nx U by omega]
 have b9 : ∀ b X,((U.kill a).new O).get b = some X -> (b = nx U /\ X = O) ∨ (b ≠ nx U /\ b ≠ a /\ U.get b = some X) := fun b X hg => by
  rw [ab_,Bn] at hg
  by_cases hb : b = nx U
  ·rw [if_pos hb] at hg; cases hg; exact .inl ⟨hb,rfl⟩
  ·rw [if_neg hb,cp_] at hg
   by_cases hb' : b = a
   ·rw [if_pos hb'] at hg; cases hg
   ·rw [if_neg hb'] at hg; exact .inr ⟨hb,hb',hg⟩
 have e : Ext C (nx U) w ((C.del a).add (nx U) c o') (nx U + 1) w' := ⟨by omega,by rw [p.size]; exact nl,
  fun b _ ho => ⟨fun hh => hh.elim (fun hr => ho (.inl hr)) fun ⟨x,y,hxy⟩ => by
   rcases bq x _ hxy with ⟨_,hq⟩ | ⟨_,_,hq⟩
   ·cases hq; exact ho (.inr ⟨a,o,hl⟩)
   ·exact ho (.inr ⟨x,y,hq⟩),p.other b (fun hb => ho (.inr (hb ▸ ⟨a,o,hl⟩)))⟩,
  fun b hb q hq => by
   rcases bq b q hq with ⟨h1,_⟩ | ⟨_,_,h2⟩
   ·omega
   ·exact h2,fun _ _ => rfl,fun _ _ => rfl,
  fun b hb c' y hc => by
   rcases bq b _ hc with ⟨h1,_⟩ | ⟨_,h2,h3⟩
   ·omega
   ·unfold csize; rw [cf b c' y h2 h3],⟨rfl,fun b hb => p.other b (fun hbc => h.rdis a c o hl (hbc ▸ hb))⟩,p.os⟩
 have hnx : nx ((U.kill a).new O) = nx U + 1 := by rw [Af,Bn]
 refine ⟨⟨fun b X hg => ?_,fun b X hg => ?_,fun b q hq => ?_,fun x y c' y1 y2 hx hy => ?_,fun x c' y hx => ?_,fun b hb => by rw [p.size]; exact h.rlt b hb,fun x c' y hx => ?_⟩,e⟩
 ·rcases b9 b X hg with ⟨h1,h2⟩ | ⟨h1,h2,h3⟩
  ·subst h1; subst h2; exact hrel e
  ·have hlt := h.bound b X h3
   refine (h.obj b X h3).ext (by rw [hnx]; exact e) hlt (fq b hlt h2) (fun c' y hc => cf b c' y h2 hc) fun m hm kt es' v' hg' => ?_
   rcases b9 m _ hg' with ⟨k1,_⟩ | ⟨_,k2,k3⟩
   ·omega
   ·exact ⟨kt,es',v',k3,nl,fun _ => ⟨fq m hm k2,fun c' y hc => cf m c' y k2 hc⟩⟩
 ·rw [hnx]
  rcases b9 b X hg with ⟨h1,_⟩ | ⟨_,_,h3⟩
  ·omega
  ·have := h.bound b X h3; omega
 ·rcases bq b q hq with ⟨h1,_⟩ | ⟨h1,h2,h3⟩
  ·subst h1; exact ⟨O,by rw [ab_,Bn,if_pos rfl],hO⟩
  ·obtain ⟨X,k1,k2⟩ := h.dom b q h3
   exact ⟨X,by rw [ab_,Bn,if_neg h1,cp_,if_neg h2]; exact k1,k2⟩
 ·rcases bq x _ hx with ⟨h1,h2⟩ | ⟨h1,h2,h3⟩ <;> rcases bq y _ hy with ⟨k1,k2⟩ | ⟨k1,k2,k3⟩
  ·omega
  ·cases h2; exact absurd (h.inj y a _ _ _ k3 hl) k2
  ·cases k2; exact absurd (h.inj x a _ _ _ h3 hl) h2
  ·exact h.inj x y c' y1 y2 h3 k3
 ·rw [p.size]
  rcases bq x _ hx with ⟨_,h2⟩ | ⟨_,_,h3⟩
  ·cases h2; exact h.lt a c o hl
  ·exact h.lt x c' y h3
 ·rcases bq x _ hx with ⟨_,h2⟩ | ⟨_,_,h3⟩
  ·cases h2; exact h.rdis a c o hl
  ·exact h.rdis x c' y h3
theorem Sim.newStamp (h : Sim P C w U) (n : Int) (m ver : Nat) (k : Key) (hm : m < nx U) (hrel : ∀ kt es ver',U.get m = some (.map kt es ver') -> ver <= ver' /\ (ver = ver' -> ∃ cm E clock,C.loc m = some (cm,0) /\ w.heap[cm]? = some (.map E clock) /\
        ∃ e ∈ E.toList,KV k e.key /\ n = e.born)) :
    Sim P (C.addStm (nx U) n) w (U.new (.stamp m ver k)) /\ Ext C (nx U) w (C.addStm (nx U) n) (nx U + 1) w := by
  have hne : ∀ {a},a < nx U -> ¬ a = nx U := fun h => by omega
  have e : Ext C (nx U) w (C.addStm (nx U) n) (nx U + 1) w := ⟨by omega,nl,fun b _ ho => ⟨ho,rfl⟩,fun _ _ _ h => h,
    fun a ha => by simp [Ctx.addStm,hne ha],fun _ _ => rfl,fun _ _ _ _ _ => rfl,⟨rfl,fun _ _ => rfl⟩,rfl,rfl⟩
  refine ⟨⟨fun a X hg => ?_,fun a X hg => ?_,fun a q hq => ?_,h.inj,h.lt,h.rlt,h.rdis⟩,e⟩
  · rw [ab_] at hg
    by_cases ha : a = nx U
    · subst ha; simp at hg; subst hg
      refine ⟨by rw [Af]; omega,fun kt es ver' hg' => ?_⟩
      rw [ab_,if_neg (hne hm)] at hg';obtain ⟨h1,h2⟩ := hrel kt es ver' hg';refine ⟨h1,fun hv => ?_⟩
      obtain ⟨cm,E,clock,q1,q2,f,f1,f2,f3⟩ := h2 hv
      exact ⟨cm,E,clock,q1,q2,f,f1,f2,by simp [Ctx.addStm,f3]⟩
    · rw [if_neg ha] at hg
      refine (h.obj a X hg).ext (by rw [Af]; exact e) (h.bound a X hg) rfl (fun _ _ _ => rfl) fun x hx kt es' v' hg' => ?_
      rw [ab_,if_neg (hne hx)] at hg';exact ⟨kt,es',v',hg',nl,fun _ => ⟨rfl,fun _ _ _ => rfl⟩⟩
  · rw [Af]
    rw [ab_] at hg
    by_cases ha : a = nx U
    · omega
    · rw [if_neg ha] at hg; have := h.bound a X hg; omega
  · obtain ⟨X,h1,h2⟩ := h.dom a q hq
    have := h.bound a X h1
    exact ⟨X,by rw [ab_,if_neg Om]; exact h1,h2⟩
end
theorem Gb (c o n : Nat) : (⟨c,o,none⟩ : Addr).add n = ⟨c,o + n,none⟩ := by
 unfold Addr.add; split <;> simp_all
section
variable {P : Program} {C : Ctx} {N : Nat} {w : World}
theorem Li : ∀ (cs : List AV) (c o i : Nat) (acc : Array Value),RC C N w c cs (o + i) ->
  ∃ l,(loadCellsFrom ⟨c,o,none⟩ i cs.length acc).run P w = .ok (acc ++ l.toArray) w /\ RL C N w cs l /\ ∀ x ∈ l,x.oneCell = true
 | [],c,o,i,acc,_ => ⟨[],by simp [loadCellsFrom],by unfold RL; trivial,by simp⟩
 | x :: r,c,o,i,acc,h => by
  unfold RC at h;obtain ⟨⟨v,h1,h2,h3⟩,h4⟩ := h;obtain ⟨l,k1,k2,k3⟩ := Li r c o (i + 1) (acc.push v) h4
  refine ⟨v :: l,?_,by unfold RL; exact ⟨h3,k2⟩,by simpa [h2] using k3⟩
  simp only [at_,loadCellsFrom,Sem.run_bind,run_load,Gb,h1,Result.andThen_ok,k1]
  simp
theorem Abb {cs : List AV} {c o : Nat} (h : RC C N w c cs o) :
  ∃ a,(loadCells ⟨c,o,none⟩ cs.length).run P w = .ok a w /\ RL C N w cs a.toList /\ ∀ x ∈ a.toList,x.oneCell = true := by
 obtain ⟨l,h1,h2,h3⟩ := Li (P := P) cs c o 0 #[] h
 exact ⟨l.toArray,by simpa [loadCells] using h1,by simpa using h2,by simpa using h3⟩
def T1 : Array Value -> Nat -> List Value -> Array Value
 | cs,_,[] => cs
 | cs,k,v :: r => T1 (cs.setIfInBounds k v) (k + 1) r
theorem L8 : ∀ (l : List Value) (cs : Array Value) (k : Nat),(T1 cs k l).size = cs.size
 | [],_,_ => rfl
 | v :: r,cs,k => by simp [T1,L8 r]
theorem Ny : ∀ (l : List Value) (cs : Array Value) (k : Nat),k + l.length <= cs.size -> ∀ j,(T1 cs k l)[j]? = if k <= j /\ j < k + l.length then l[j - k]? else cs[j]?
 | [],cs,k,_,j => by simp [T1]; omega
 | v :: r,cs,k,h,j => by
  simp only [at_] at h
  rw [T1,Ny r _ _ (by simp; omega)]
  by_cases h1 : k + 1 <= j /\ j < k + 1 + r.length
  ·rw [if_pos h1,if_pos (by simp; omega),show j - k = (j - (k + 1)) + 1 by omega]; rfl
  ·rw [if_neg h1]
   by_cases h2 : j = k
   ·subst h2; rw [if_pos (by simp),Array.getElem?_setIfInBounds_self_of_lt Om]; simp
   ·rw [if_neg (by simp; omega),cv_ Om]
theorem Ah4 (v : Value) : v.oneCell' = v.oneCell := by cases v <;> rfl
theorem Kp : ∀ (l : List Value) (w : World) (c o i : Nat) (cs : Array Value) (T : TypeId),w.heap[c]? = some (.cells cs T (0,0)) ->
  (∀ x ∈ l,x.oneCell = true) -> o + i + l.length <= cs.size -> ∃ w',(storeCells ⟨c,o,none⟩ l i).run P w = .ok () w' /\ Wr w w' c (.cells (T1 cs (o + i) l) T (0,0))
 | [],w,c,o,i,cs,T,h,_,_ => ⟨w,by simp [storeCells],⟨rfl,h,fun _ _ => rfl,rfl,rfl⟩⟩
 | v :: r,w,c,o,i,cs,T,h,h1,h2 => by
  simp only [at_] at h2
  have cg : w.cell? ⟨c,o + i,none⟩ = some cs[o + i] := by
   unfold World.cell?; simp only [h]; simp
  have hfr : w.frozen? ⟨c,o + i,none⟩ = false := by unfold World.frozen?; simp [h]
  have hw1 : (w.setCell ⟨c,o + i,none⟩ v).heap[c]? = some (.cells (cs.setIfInBounds (o + i) v) T (0,0)) := by
   simp only [World.setCell,dp_,if_true]; simp [h]
  obtain ⟨w',k1,k2⟩ := Kp r (w.setCell ⟨c,o + i,none⟩ v) c o (i + 1) (cs.setIfInBounds (o + i) v) T hw1 (fun x hx => h1 x (by simp [hx])) (by simp; omega)
  refine ⟨w',?_,?_⟩
  ·have hv : v.oneCell' = true := by rw [Ah4]; exact h1 v (by simp)
   simp only [storeCells,Sem.run_bind,Gb,run_store P w _ v _ hv,cg,hfr,bo_,if_false,Result.andThen_ok];exact k1
  ·refine ⟨by rw [k2.size]; simp [World.setCell],?_,fun b hb => ?_,k2.os⟩
   ·rw [k2.here,T1,show o + i + 1 = o + (i + 1) by omega]
   ·rw [k2.other b hb];simp only [World.setCell,dp_];rw [if_neg (fun h => hb h.symm)]
end
def Runs {α : Type} (P : Program) (C : Ctx) (w : World) (U : Sto) (s : Sem α) (ok : α -> Value -> Prop) (v : AV) (U' : Sto) : Prop :=
 ∃ y x w' C',s.run P w = .ok y w' /\ ok y x /\ Sim P C' w' U' /\ Ext C (nx U) w C' (nx U') w' /\ R C' (nx U') w' v x
abbrev H3 (P : Program) (C : Ctx) (w : World) (U : Sto) (s : Sem Value) (v : AV) (U' : Sto) : Prop := Runs P C w U s (fun y x => y = x) v U'
section
variable {P : Program} {C : Ctx} {w : World} {U U' : Sto}
theorem Ar {t : TypeId} {ti : TI} (h : A4 P t = some ti) : ∃ i d,P.info? t = some i /\ P.underlying t = some d /\ ti.desc = d /\ ti.size = i.size /\ ti.bytes = i.bytes /\ ti.zero = Ajx (Qq d) i.zero /\ ti.isAgg = Qq d := by
 unfold A4 at h
 split at h
 ·rename_i i d hi hd; simp at h; subst h; exact ⟨i,d,hi,hd,rfl,rfl,rfl,rfl,rfl⟩
 ·cases h
theorem Aa {t : TypeId} {d : TypeDesc} (h : P.underlying t = some d) (w : World) : (underlying t).run P w = .ok d w := by
 unfold underlying; simp [h]
theorem Cp {t : TypeId} {i : TypeInfo} (h : P.info? t = some i) (w : World) : (typeInfo t).run P w = .ok i w := by
 unfold typeInfo; simp [h]
theorem A9 {t : TypeId} {i : TypeInfo} (h : P.info? t = some i) (w : World) : (sizeOf t).run P w = .ok i.size w := by
 unfold sizeOf; simp [Cp h]
theorem Iq {t : TypeId} {d : TypeDesc} (h : P.underlying t = some d) (w : World) : (isAgg t).run P w = .ok (Qq d) w := by
 unfold isAgg; simp only [Sem.run_bind,Aa h,Result.andThen_ok]; cases d <;> rfl
theorem Qf {v : Value} (h : Ads v = true) : v.oneCell = true := by
 cases v <;> first | rfl | (simp [Ads,Ut] at h)
theorem Abc {v : Value} (h : Ut v = true) : v.oneCell = true := by
 cases v <;> first | rfl | (simp [Ut] at h)
theorem R.oneCell {N : Nat} {x : AV} {v : Value} (h : R C N w x v) (h1 : x ≠ .any) (h2 : ∀ l,x ≠ .agg l) (h3 : ∀ l,x ≠ .tup l) : v.oneCell = true := by
 cases x <;> unfold R at h
 case any => exact absurd rfl h1
 case bool => subst h; rfl
 case int => subst h; rfl
 case str => obtain ⟨s,rfl,_⟩ := h; rfl
 case nil => obtain ⟨rfl,h⟩ := h; exact Abc h
 case pr => obtain ⟨ad,rfl,_⟩ := h; rfl
 case pv => obtain ⟨c,o,rfl,_⟩ := h; rfl
 case sr => obtain ⟨ad,k,rfl,_⟩ := h; rfl
 case sv => obtain ⟨ad,k,rfl,_⟩ := h; rfl
 case mp => obtain ⟨c,rfl,_⟩ := h; rfl
 case it => obtain ⟨c,rfl,_⟩ := h; rfl
 case stp => obtain ⟨rfl,_⟩ := h; rfl
 case yl => obtain ⟨rfl,_⟩ := h; rfl
 case flt => subst h; rfl
 case fn => obtain ⟨a,b,rfl,_⟩ := h; rfl
 case ifc => obtain ⟨y,rfl,_⟩ := h; rfl
 case agg l => exact absurd rfl (h2 l)
 case tup l => exact absurd rfl (h3 l)
theorem L9 {v : Value} (h : v.oneCell = true) : v.cells = #[v] := by
 cases v <;> first | rfl | (simp [Value.oneCell] at h)
theorem H4 {N : Nat} {x : AV} {n : Nat} {l : List AV} {v : Value} (h : x.cellsN n = some l) (hr : R C N w x v) :
  RL C N w l v.cells.toList /\ v.cells.size = n /\ l.length = n /\ ∀ y ∈ v.cells.toList,y.oneCell = true := by
 have one : x ≠ .any -> (∀ l,x ≠ .agg l) -> (∀ l,x ≠ .tup l) -> cond (Nat.beq n 1) (some [x]) none = some l ->
   RL C N w l v.cells.toList /\ v.cells.size = n /\ l.length = n /\ ∀ y ∈ v.cells.toList,y.oneCell = true := by
  intro h1 h2 h3 h4;have hv := hr.oneCell h1 h2 h3
  have hn : n = 1 := by
   by_cases hn : n = 1
   ·exact hn
   ·have : Nat.beq n 1 = false := by rw [bw_]; intro hb; exact hn (ac_ hb)
    simp [this] at h4
  subst hn
  simp at h4
  subst h4;rw [L9 hv]
  refine ⟨by simp only [RL]; exact ⟨hr,trivial⟩,rfl,rfl,by simpa using hv⟩
 cases x <;> simp only [AV.cellsN] at h
 case any => cases h
 case tup => cases h
 case agg cs =>
  unfold R at hr;obtain ⟨a,rfl,h1,h2⟩ := hr
  have hn : cs.length = n := by
   by_cases hn : cs.length = n
   ·exact hn
   ·have : Nat.beq cs.length n = false := by rw [bw_]; intro hb; exact hn (ac_ hb)
    simp [this] at h
  simp [hn] at h
  subst h;have := h1.length
  exact ⟨h1,by simp [Value.cells]; rw [← hn,this]; simp,hn,h2⟩
 all_goals exact one (by intro h; cases h) (by intro l h; cases h) (by intro l h; cases h) h
theorem Abz {β : Type} : ∀ (l : List Nat) (k : List Nat -> β),Adr l k = k l
 | [],k => rfl
 | x :: r,k => by simp only [Adr,Ai,Abz r]
theorem Kq {N : Nat} (v : Value) : R C N w (Vw v) v := by
 unfold Vw
 split
 ·unfold R; rfl
 ·unfold R; rfl
 ·rw [Ai]; unfold R; rfl
 ·unfold R; rfl
 ·rw [Abz]; unfold R; exact ⟨_,rfl,rfl⟩
 ·rw [Ai]; unfold R; rfl
 ·cases h : Ut v
  ·simp only [cond_false]; unfold R; trivial
  ·simp only [cond_true]; unfold R; exact ⟨rfl,h⟩
theorem Mq {N : Nat} : ∀ (l : List Value),RL C N w (Ah0 l) l
 | [] => by unfold Ah0 RL; trivial
 | v :: r => by unfold Ah0 RL; exact ⟨Kq v,Mq r⟩
theorem Nz : ∀ {l : List Value},Pb l = true -> ∀ x ∈ l,x.oneCell = true
 | [],_,x,hx => by simp at hx
 | v :: r,h,x,hx => by
  simp only [Pb,af_] at h
  rcases aq_.1 hx with rfl | hx
  ·exact Qf h.1
  ·exact Nz h.2 x hx
theorem Fw {b : Bool} {z : Option Value} {l : List AV} (h : Ajx b z = some l) {N : Nat} : ∃ v,z = some v /\ RL C N w l v.cells.toList /\ (∀ x ∈ v.cells.toList,x.oneCell = true) /\
  (b = true -> ∃ a,v = .agg a) /\ (b = false -> ∃ u,l = [u] /\ R C N w u v) := by
 unfold Ajx at h
 split at h
 ·rename_i v
  split at h
  ·rename_i cs
   split at h
   ·rename_i hp
    simp only [af_] at hp;cases h
    exact ⟨.agg cs,rfl,Mq _,Nz hp.2,fun _ => ⟨cs,rfl⟩,fun hb => by rw [hb] at hp; cases hp.1⟩
   ·cases h
  ·rename_i hna
   split at h
   ·rename_i hp
    simp only [af_,co_] at hp;cases h;have h1 := Qf hp.2;refine ⟨v,rfl,?_⟩;rw [L9 h1]
    exact ⟨(by unfold RL; exact ⟨Kq v,by unfold RL; trivial⟩),(by simpa using h1),(fun hb => by rw [hb] at hp; cases hp.1),fun _ => ⟨_,rfl,Kq v⟩⟩
   ·cases h
 ·cases h
end
section
variable {C : Ctx} {N : Nat} {w : World}
theorem Al0 (v : Value) : R C N w (ofV v) v := by
 unfold ofV
 split
 ·rename_i cs
  cases h : Pb cs.toList
  ·simp only [cond_false]; unfold R; trivial
  ·simp only [cond_true]; unfold R; exact ⟨cs,rfl,Mq _,Nz h⟩
 ·unfold R; exact ⟨_,rfl,Mq _⟩
 ·unfold R; exact ⟨_,rfl,Kq _⟩
 ·rename_i f a b
  cases h : (a.isEmpty && b.isEmpty)
  ·simp only [cond_false]; unfold R; trivial
  ·simp only [cond_true]
   simp at h
   unfold R
   exact ⟨a,b,rfl,by rw [h.1]; unfold RL; trivial,by rw [h.2]; unfold RL; trivial⟩
 ·exact Kq v
end
def TR (C : Ctx) (N : Nat) (w : World) (tm : Tr AV) (tmps : Array Value) : Prop := ∀ i v,tm.get i = some v -> R C N w v (tmps.getD i undef)
def Gc (C : Ctx) (N : Nat) (w : World) (E : Env) : Prop := (∀ g cs,E.gl g = some cs -> R C N w (.pv cs) (.pointer (some ⟨g,0,none⟩))) /\
 ∀ c P,E.hold c = some P -> ¬ C.own c /\ ∃ cs T fz,w.heap[c]? = some (.cells cs T fz) /\ P cs
section
variable {E : Env} {C C' : Ctx} {N N' : Nat} {w w' : World} {tm : Tr AV} {a : Act}
theorem TR.ext {tmps : Array Value} (h : TR C N w tm tmps) (e : Ext C N w C' N' w') : TR C' N' w' tm tmps := fun i v hv => R.ext e _ _ (h i v hv)
theorem Gc.ext (h : Gc C N w E) (e : Ext C N w C' N' w') : Gc C' N' w' E := by
 refine ⟨fun g cs hg => R.ext e _ _ (h.1 g cs hg),fun c P hc => ?_⟩
 obtain ⟨h1,cs,T,fz,h2,h3⟩ := h.2 c P hc;obtain ⟨k1,k2⟩ := e.keep c (ba_.1 h2).1 h1;exact ⟨k1,cs,T,fz,k2.trans h2,h3⟩
theorem Br (hg : Gc C N w E) (ht : TR C N w tm a.tmps) (x : Operand) : R C N w (opd E tm x) (a.eval x) := by
 cases x with
 | tmp t =>
  simp only [opd,Act.eval]
  split
  ·rename_i v hv; exact ht t v hv
  ·unfold R; trivial
 | const v => exact Al0 v
 | global g =>
  simp only [opd,Act.eval]
  split
  ·rename_i cs hc; exact hg.1 g cs hc
  ·unfold R; trivial
 | func f =>
  simp only [opd,Act.eval];unfold R
  exact ⟨#[],#[],rfl,by unfold RL; trivial,by unfold RL; trivial⟩
theorem Dw (hg : Gc C N w E) (ht : TR C N w tm a.tmps) : ∀ (l : List Operand),RL C N w (opds E tm l) (l.map a.eval)
 | [] => by simp only [opds,dq_]; unfold RL; trivial
 | x :: r => by simp only [opds,ck_]; unfold RL; exact ⟨Br hg ht x,Dw hg ht r⟩
end
theorem Ir (a b : Int) : Rv a b = (a == b) := by
 cases a <;> cases b <;> simp only [Rv]
 ·rename_i m n
  by_cases h : m = n
  ·subst h; simp
  ·have : Nat.beq m n = false := by rw [bw_]; intro hb; exact h (ac_ hb)
   rw [this]; symm; simp; omega
 ·rfl
 ·rfl
 ·rename_i m n
  by_cases h : m = n
  ·subst h; simp
  ·have : Nat.beq m n = false := by rw [bw_]; intro hb; exact h (ac_ hb)
   rw [this]; symm; simp; omega
theorem Eb (a b : Int) : Rw a b = decide (a <= b) := by
 cases a <;> cases b <;> simp only [Rw]
 ·rename_i m n
  rw [ex_,Nat.ble_eq,decide_eq_true_iff]; simp
 ·rename_i m n; symm; simp; omega
 ·rename_i m n; symm; simp; omega
 ·rename_i m n
  rw [ex_,Nat.ble_eq,decide_eq_true_iff]; omega
theorem Ks (a b : IntKind) : He a b = true ↔ a = b := by cases a <;> cases b <;> simp [He]
theorem Asp {a b : Nat} (h : a ≠ b) : Nat.beq a b = false := by
 rw [bw_]; intro hb; exact h (ac_ hb)
theorem N0 (k : IntKind) (n : Int) (h : Ls k n = true) : k.wrap n = n := by
 cases n with
 | ofNat m =>
  have e : Int.ofNat m = (m : Int) := rfl;rw [e];cases k
  ·have h' : m <= 127 := aj_ h; exact IntWalk.i8_in _ ⟨by omega,by omega⟩
  ·have h' : m <= 32767 := aj_ h; exact IntWalk.i16_in _ ⟨by omega,by omega⟩
  ·have h' : m <= 2147483647 := aj_ h; exact IntWalk.i32_in _ ⟨by omega,by omega⟩
  ·have h' : m <= 9223372036854775807 := aj_ h; exact IntWalk.i64_in _ ⟨by omega,by omega⟩
  ·have h' : m <= 255 := aj_ h; exact IntWalk.u8_in _ ⟨by omega,by omega⟩
  ·have h' : m <= 65535 := aj_ h; exact IntWalk.u16_in _ ⟨by omega,by omega⟩
  ·have h' : m <= 4294967295 := aj_ h; exact IntWalk.u32_in _ ⟨by omega,by omega⟩
  ·have h' : m <= 18446744073709551615 := aj_ h; exact IntWalk.u64_in _ ⟨by omega,by omega⟩
 | negSucc m =>
  have e : Int.negSucc m = -((m : Int) + 1) := by omega
  cases k
  ·have h' : m <= 127 := aj_ h; rw [e]; exact IntWalk.i8_in _ ⟨by omega,by omega⟩
  ·have h' : m <= 32767 := aj_ h; rw [e]; exact IntWalk.i16_in _ ⟨by omega,by omega⟩
  ·have h' : m <= 2147483647 := aj_ h; rw [e]; exact IntWalk.i32_in _ ⟨by omega,by omega⟩
  ·have h' : m <= 9223372036854775807 := aj_ h; rw [e]; exact IntWalk.i64_in _ ⟨by omega,by omega⟩
  all_goals (cases h)
theorem Ma (k : IntKind) (n : Int) : L5 k n = .int k (k.wrap n) := by
 have key : ∀ m : Int,cond (Ls k m) (AV.int k m) (.int k (k.wrap m)) = .int k (k.wrap m) := fun m => by
  cases h : Ls k m
  ·rfl
  ·simp [N0 k m h]
 cases n <;> simp only [L5,Ai] <;> exact key _
theorem Ab0 (a b : Int) : Ah1 a b = a + b := by cases a <;> cases b <;> rfl
theorem T2 (a b : Int) : X8 a b = a - b := by
 cases a with
 | ofNat m => cases b with
  | ofNat n =>
   simp only [X8];cases h : Nat.ble n m
   ·rfl
   ·simp only [cond_true]; have : n <= m := by simpa using h
    simp; omega
  | negSucc n => rfl
 | negSucc m => cases b <;> rfl
theorem Uv {a b : ByteArray} (h : Bx a = Bx b) : a = b := by
 unfold Bx at h
 have h1 : a.data.toList = b.data.toList := by
  have key : ∀ (l m : List UInt8),l.map UInt8.toNat = m.map UInt8.toNat -> l = m := by
   intro l
   induction l with
   | nil => intro m h; cases m with
    | nil => rfl
    | cons => simp at h
   | cons x r ih => intro m h; cases m with
    | nil => simp at h
    | cons y s => simp only [ck_,cq_] at h; rw [UInt8.toNat_inj.1 h.1,ih s h.2]
  exact key _ _ h
 cases a; cases b; simp at h1; simp [h1]
theorem Fx : ∀ (a b : List Nat),Ft a b = true ↔ a = b
 | [],[] => by simp [Ft]
 | [],_ :: _ => by simp [Ft]
 | _ :: _,[] => by simp [Ft]
 | x :: r,y :: s => by
  simp only [Ft]
  by_cases h : x = y
  ·subst h; simp [Fx r s]
  ·have : Nat.beq x y = false := by rw [bw_]; intro hb; exact h (ac_ hb)
   simp [this,h]
theorem Kt (a b : ByteArray) : Ft (Bx a) (Bx b) = (a.toList == b.toList) := by
 rw [ex_,Fx];simp only [Go.ByteArray.toList_eq,beq_iff_eq]
 constructor
 ·intro h; rw [Uv h]
 ·intro h; unfold Bx; rw [h]
theorem Yk : ∀ (a b : List UInt8),Cw (a.map UInt8.toNat) (b.map UInt8.toNat) = Op.bytesLess a b
 | _,[] => by cases ‹List UInt8› <;> simp [Cw,Op.bytesLess]
 | [],_ :: _ => by simp [Cw,Op.bytesLess]
 | x :: r,y :: s => by
  simp only [ck_,Cw,Op.bytesLess,Yk r s]
  by_cases h : x < y
  ·have : Nat.blt x.toNat y.toNat = true := by simp [Nat.blt]; exact UInt8.lt_iff_toNat_lt.1 h
   simp [this,h]
  ·have h1 : Nat.blt x.toNat y.toNat = false := by
    rw [bw_]; intro hb
    have : x.toNat < y.toNat := by simp [Nat.blt] at hb; exact hb
    exact h (UInt8.lt_iff_toNat_lt.2 this)
   by_cases h2 : x = y
   ·subst h2; simp [h1,h]
   ·have : Nat.beq x.toNat y.toNat = false := by rw [bw_]; intro hb; exact h2 (UInt8.toNat_inj.1 (ac_ hb))
    simp [h1,h,this,h2]
theorem Yl (a b : ByteArray) : Bx (a ++ b) = Bx a ++ Bx b := by
 unfold Bx; simp
theorem Eu (a : ByteArray) : (Bx a).length = a.size := by unfold Bx; simp
section
variable {P : Program} {C : Ctx} {N : Nat} {w : World}
theorem Aj1 (a b : Int) : (!decide (b <= a)) = decide (a < b) := by
 rw [ex_]; simp
theorem Afd {op : BinOp} {k : IntKind} {a b : Int} {v : AV} (h : Gm op k a b = some v) (t : TypeId) : ∃ x,(binOp op t (.int k a) (.int k b)).run P w = .ok x w /\ R C N w v x := by
 cases op <;> simp only [Gm] at h
 case add => cases h; exact ⟨_,by simp only [binOp]; simp [Op.intArith]; rfl,by rw [Ma,Ab0]; unfold R; rfl⟩
 case sub => cases h; exact ⟨_,by simp only [binOp]; simp [Op.intArith]; rfl,by rw [Ma,T2]; unfold R; rfl⟩
 case mul => cases h; exact ⟨_,by simp only [binOp]; simp [Op.intArith]; rfl,by rw [Ma]; unfold R; rfl⟩
 case eql => cases h; exact ⟨_,by simp only [binOp]; simp [Op.intCmp]; rfl,by unfold R; rw [Ir]⟩
 case neq => cases h; exact ⟨_,by simp only [binOp]; simp [Op.intCmp]; rfl,by unfold R; rw [Ir]; rfl⟩
 case lss => cases h; exact ⟨_,by simp only [binOp]; simp [Op.intCmp]; rfl,by unfold R; rw [Eb,Aj1]⟩
 case leq => cases h; exact ⟨_,by simp only [binOp]; simp [Op.intCmp]; rfl,by unfold R; rw [Eb]⟩
 case gtr => cases h; exact ⟨_,by simp only [binOp]; simp [Op.intCmp]; rfl,by unfold R; rw [Eb,Aj1]⟩
 case geq => cases h; exact ⟨_,by simp only [binOp]; simp [Op.intCmp]; rfl,by unfold R; rw [Eb]⟩
 case quo =>
  split at h
  ·rename_i a b
   cases h
   refine ⟨_,by simp only [binOp]; simp [Op.intDiv]; rfl,?_⟩
   rw [Ma]; unfold R; rfl
  ·cases h
 case rem =>
  split at h
  ·rename_i a b
   rw [Ai] at h;cases h
   exact ⟨_,by simp only [binOp]; simp [Op.intDiv]; rfl,by unfold R; rfl⟩
  ·cases h
 all_goals (cases h)
end
section
variable {P : Program} {C : Ctx} {N : Nat} {w : World}
theorem Si {t : TypeId} {ti : TI} (hti : A4 P t = some ti) {z : AV} (hz : Km ti = some z) : ∃ Z,(zeroValue t).run P w = .ok Z w /\ R C N w z Z := by
 obtain ⟨i,d,g1,g2,g3,g4,_,g6,g7⟩ := Ar hti;unfold Km at hz
 split at hz
 ·rename_i l hl
  rw [g6] at hl;obtain ⟨Z,q1,q2,q3,q4,q5⟩ := Fw (C := C) (w := w) (N := N) hl
  refine ⟨Z,by unfold zeroValue; simp [Cp g1,q1],?_⟩
  rw [g7] at hz;cases hb : Qq d
  ·simp only [hb] at hz;obtain ⟨u,rfl,hu⟩ := q5 hb
   simp at hz; subst hz; exact hu
  ·simp only [hb] at hz;cases hz;obtain ⟨a,rfl⟩ := q4 hb;unfold R;exact ⟨a,rfl,q2,q3⟩
 ·cases hz
end
section
variable {P : Program} {C : Ctx} {N : Nat} {w : World}
def Df (P : Program) (C : Ctx) (N : Nat) (w : World) (s : Sem Value) (v : AV) : Prop := ∃ x,s.run P w = .ok x w /\ R C N w v x
theorem Df.runs {U : Sto} {s : Sem Value} {v : AV} (hs : Sim P C w U) (h : Df P C (nx U) w s v) : H3 P C w U s v U :=
 let ⟨x,h1,h2⟩ := h; ⟨x,x,w,C,h1,rfl,hs,by_ _ _ _,h2⟩
theorem Ej {op : BinOp} {t : TypeId} {x y : Operand} {a b : Value} (h1 : ∀ l m,¬ (a = .agg l /\ b = .agg m)) (h2 : ¬ (a = .nilIface /\ b = .nilIface)) :
  (eqGuard op t x y a b).run P w = .ok () w := by
 cases op <;> first
  | (simp [eqGuard]; done)
  | (cases a <;> cases b <;> first
    | (simp [eqGuard]; done)
    | exact absurd ⟨rfl,rfl⟩ h2
    | exact absurd ⟨rfl,rfl⟩ (h1 _ _))
theorem Abd {op : BinOp} {t : TypeId} {x y : Operand} (h : (Dk x || Dk y) = true) : (eqGuard op t x y .nilIface .nilIface).run P w = .ok () w := by
 cases op <;> first
  | (simp [eqGuard]; done)
  | (cases x <;> cases y <;> first
    | (simp [Dk] at h; done)
    | (simp [eqGuard]; done))
theorem Afe {op : BinOp} {a b : ByteArray} {v : AV} (h : Rx op (Bx a) (Bx b) = some v) (t : TypeId) :
  ∃ x,(binOp op t (.string a) (.string b)).run P w = .ok x w /\ R C N w v x := by
 have hl : Cw (Bx a) (Bx b) = Op.bytesLess a.toList b.toList := by rw [ByteArray.toList_eq,ByteArray.toList_eq]; exact Yk _ _
 cases op <;> simp only [Rx] at h
 case add =>
  cases hb : Nat.ble ((Bx a).length + (Bx b).length) Nv
  ·simp [hb] at h
  ·simp only [hb,cond_true] at h;cases h;have hle := aj_ hb;rw [Eu,Eu] at hle
   have hm : ¬ (((a.size + b.size : Nat) : Int) > IntKind.i64.max) := by
    have : IntKind.i64.max = 9223372036854775807 := by decide
    rw [this]; unfold Nv at hle; omega
   refine ⟨.string (a ++ b),?_,by unfold R; exact ⟨_,rfl,Yl a b⟩⟩
   simp only [binOp,Op.stringOp,Sem.run_ite,if_neg hm,Sem.run_pure]
 case eql => cases h; exact ⟨_,by simp only [binOp]; simp [Op.stringOp]; rfl,by unfold R; rw [Kt]⟩
 case neq => cases h; exact ⟨_,by simp only [binOp]; simp [Op.stringOp]; rfl,by unfold R; rw [Kt]⟩
 case lss => cases h; exact ⟨_,by simp only [binOp]; simp [Op.stringOp]; rfl,by unfold R; rw [hl]⟩
 case leq => cases h; exact ⟨_,by simp only [binOp]; simp [Op.stringOp]; rfl,by unfold R; rw [hl,Kt]⟩
 case gtr => cases h; exact ⟨.bool (!(Op.bytesLess a.toList b.toList || a.toList == b.toList)),by simp only [binOp,Op.stringOp,Sem.run_pure],by unfold R; rw [hl,Kt]⟩
 case geq => cases h; exact ⟨_,by simp only [binOp]; simp [Op.stringOp]; rfl,by unfold R; rw [hl]⟩
 all_goals (cases h)
structure EqR (P : Program) (w : World) (t : TypeId) (X Y : Value) (b : Bool) : Prop where
 eql : (binOp .eql t X Y).run P w = .ok (.bool b) w
 neq : (binOp .neq t X Y).run P w = .ok (.bool !b) w
theorem EqR.mk' {t : TypeId} {X Y : Value} {b : Bool} (h : ∀ d,(Op.equalIn (d + 1) t X Y).run P w = .ok b w)
  (e1 : binOp .eql t X Y = (do pure (.bool (← Op.equal t X Y)))) (e2 : binOp .neq t X Y = (do pure (.bool (!(← Op.equal t X Y))))) : EqR P w t X Y b := by
 have h' : (Op.equal t X Y).run P w = .ok b w := h 9999
 exact ⟨by rw [e1]; simp only [Sem.run_bind,h',Result.andThen_ok,Sem.run_pure],by rw [e2]; simp only [Sem.run_bind,h',Result.andThen_ok,Sem.run_pure]⟩
section
variable {t : TypeId} {d : TypeDesc}
theorem EqR.slice (hd : P.underlying t = some d) (h : ∃ e,d = .slice e) (ad : Addr) (n k : Nat) : EqR P w t (.slice (some ad) n k) (.slice none 0 0) false /\ EqR P w t (.slice none 0 0) (.slice (some ad) n k) false /\ EqR P w t (.slice none 0 0) (.slice none 0 0) true := by
 obtain ⟨e,rfl⟩ := h
 exact ⟨.mk' (fun d => by simp [Op.equalIn,Aa hd]) rfl rfl,.mk' (fun d => by simp [Op.equalIn,Aa hd]) rfl rfl,.mk' (fun d => by simp [Op.equalIn,Aa hd]) rfl rfl⟩
abbrev gh_ := @EqR.slice
theorem EqR.pointer (hd : P.underlying t = some d) (h : ∃ e,d = .pointer e) (ad : Addr) : EqR P w t (.pointer (some ad)) (.pointer none) false /\ EqR P w t (.pointer none) (.pointer (some ad)) false /\ EqR P w t (.pointer none) (.pointer none) true := by
 obtain ⟨e,rfl⟩ := h
 exact ⟨.mk' (fun d => by simp [Op.equalIn,Aa hd]) rfl rfl,.mk' (fun d => by simp [Op.equalIn,Aa hd]) rfl rfl,.mk' (fun d => by simp [Op.equalIn,Aa hd]) rfl rfl⟩
abbrev gj_ := @EqR.pointer
theorem EqR.map (hd : P.underlying t = some d) (h : ∃ k e,d = .map k e) (c : Nat) : EqR P w t (.map (some c)) (.map none) false /\ EqR P w t (.map none) (.map (some c)) false /\ EqR P w t (.map none) (.map none) true := by
 obtain ⟨k,e,rfl⟩ := h
 exact ⟨.mk' (fun d => by simp [Op.equalIn,Aa hd]) rfl rfl,.mk' (fun d => by simp [Op.equalIn,Aa hd]) rfl rfl,.mk' (fun d => by simp [Op.equalIn,Aa hd]) rfl rfl⟩
theorem EqR.func (hd : P.underlying t = some d) (h : ∃ a b c,d = .func a b c) (f : Fn) (p q : Array Value) : EqR P w t (.func f p q) .nilFunc false /\ EqR P w t .nilFunc (.func f p q) false /\ EqR P w t .nilFunc .nilFunc true := by
 obtain ⟨a,b,c,rfl⟩ := h
 exact ⟨.mk' (fun d => by simp [Op.equalIn,Aa hd]) rfl rfl,.mk' (fun d => by simp [Op.equalIn,Aa hd]) rfl rfl,.mk' (fun d => by simp [Op.equalIn,Aa hd]) rfl rfl⟩
theorem EqR.iface (hd : P.underlying t = some d) (h : ∃ m,d = .interface m) (u : TypeId) (v : Value) : EqR P w t (.iface u v) .nilIface false /\ EqR P w t .nilIface (.iface u v) false /\ EqR P w t .nilIface .nilIface true := by
 obtain ⟨m,rfl⟩ := h
 exact ⟨.mk' (fun d => by simp [Op.equalIn,Aa hd]) rfl rfl,.mk' (fun d => by simp [Op.equalIn,Aa hd]) rfl rfl,.mk' (fun d => by simp [Op.equalIn,Aa hd]) rfl rfl⟩
theorem EqR.bool (hd : P.underlying t = some .bool) (a b : Bool) : EqR P w t (.bool a) (.bool b) (a == b) :=
 .mk' (fun d => by simp [Op.equalIn,Aa hd]) rfl rfl
end
def Aj2 (X : Value) : Prop := ∀ l,X ≠ .agg l
theorem Sj {d : TypeDesc} {t : TypeId} (hd : P.underlying t = some d) {x y : AV} {X Y : Value} (hx : R C N w x X) (hy : R C N w y Y) (h : Qr d x y = true) :
  EqR P w t X Y false /\ EqR P w t Y X false /\ Aj2 X /\ Aj2 Y := by
 unfold Qr at h
 split at h
 ·unfold R at hy; obtain ⟨rfl,_⟩ := hy
  split at h
  ·unfold R at hx; obtain ⟨ad,k,rfl,_⟩ := hx
   have := gh_ (w := w) hd ⟨_,rfl⟩ ad; exact ⟨(this _ _).1,(this _ _).2.1,(fun _ h => by cases h),(fun _ h => by cases h)⟩
  ·unfold R at hx; obtain ⟨ado,k,rfl,hle,_,_,hn,_⟩ := hx
   obtain _ | ad := ado
   ·have := hn rfl; omega
   have := gh_ (w := w) hd ⟨_,rfl⟩ ad; exact ⟨(this _ _).1,(this _ _).2.1,(fun _ h => by cases h),(fun _ h => by cases h)⟩
  ·cases h
 ·unfold R at hy; obtain ⟨rfl,_⟩ := hy
  split at h
  ·unfold R at hx; obtain ⟨ad,rfl,_⟩ := hx
   have := gj_ (w := w) hd ⟨_,rfl⟩ ad; exact ⟨this.1,this.2.1,(fun _ h => by cases h),(fun _ h => by cases h)⟩
  ·unfold R at hx; obtain ⟨c,o,rfl,_⟩ := hx
   have := gj_ (w := w) hd ⟨_,rfl⟩ ⟨c,o,none⟩; exact ⟨this.1,this.2.1,(fun _ h => by cases h),(fun _ h => by cases h)⟩
  ·cases h
 ·unfold R at hy; obtain ⟨rfl,_⟩ := hy
  split at h
  ·unfold R at hx; obtain ⟨c,rfl,_⟩ := hx
   have := EqR.map (w := w) hd ⟨_,_,rfl⟩ c; exact ⟨this.1,this.2.1,(fun _ h => by cases h),(fun _ h => by cases h)⟩
  ·cases h
 ·unfold R at hy; obtain ⟨rfl,_⟩ := hy
  split at h
  ·unfold R at hx; obtain ⟨a,b,rfl,_⟩ := hx
   have := EqR.func (w := w) hd ⟨_,_,_,rfl⟩; exact ⟨(this _ _ _).1,(this _ _ _).2.1,(fun _ h => by cases h),(fun _ h => by cases h)⟩
  ·cases h
 ·unfold R at hy; obtain ⟨rfl,_⟩ := hy
  split at h
  ·unfold R at hx; obtain ⟨z,rfl,_⟩ := hx
   have := EqR.iface (w := w) hd ⟨_,rfl⟩; exact ⟨(this _ _).1,(this _ _).2.1,(fun _ h => by cases h),(fun _ h => by cases h)⟩
  ·cases h
 ·cases h
theorem Aff {d : TypeDesc} {t : TypeId} (hd : P.underlying t = some d) {x y : AV} {X Y : Value} (hx : R C N w x X) (hy : R C N w y Y) {b : Bool} (h : Ajy d x y = some b) :
  EqR P w t X Y b /\ Aj2 X /\ Aj2 Y := by
 unfold Ajy at h;cases hb : Xj d x y
 ·simp only [hb,cond_false] at h;cases h1 : Qr d x y
  ·cases h2 : Qr d y x
   ·simp [h1,h2] at h
   ·simp [h2] at h; subst h; have := Sj hd hy hx h2; exact ⟨this.2.1,this.2.2.2,this.2.2.1⟩
  ·simp [h1] at h; subst h; have := Sj hd hx hy h1; exact ⟨this.1,this.2.2.1,this.2.2.2⟩
 ·simp only [hb,cond_true,ad_] at h;subst h;unfold Xj at hb
  split at hb
  ·unfold R at hx hy; obtain ⟨rfl,_⟩ := hx; obtain ⟨rfl,_⟩ := hy
   exact ⟨(gh_ (w := w) hd ⟨_,rfl⟩ ⟨0,0,none⟩ 0 0).2.2,(fun _ h => by cases h),(fun _ h => by cases h)⟩
  ·unfold R at hx hy; obtain ⟨rfl,_⟩ := hx; obtain ⟨rfl,_⟩ := hy
   exact ⟨(gj_ (w := w) hd ⟨_,rfl⟩ ⟨0,0,none⟩).2.2,(fun _ h => by cases h),(fun _ h => by cases h)⟩
  ·unfold R at hx hy; obtain ⟨rfl,_⟩ := hx; obtain ⟨rfl,_⟩ := hy
   exact ⟨(EqR.map (w := w) hd ⟨_,_,rfl⟩ 0).2.2,(fun _ h => by cases h),(fun _ h => by cases h)⟩
  ·unfold R at hx hy; obtain ⟨rfl,_⟩ := hx; obtain ⟨rfl,_⟩ := hy
   exact ⟨(EqR.func (w := w) hd ⟨_,_,_,rfl⟩ (.func 0) #[] #[]).2.2,(fun _ h => by cases h),(fun _ h => by cases h)⟩
  ·unfold R at hx hy; obtain ⟨rfl,_⟩ := hx; obtain ⟨rfl,_⟩ := hy
   exact ⟨(EqR.iface (w := w) hd ⟨_,rfl⟩ 0 .nilIface).2.2,(fun _ h => by cases h),(fun _ h => by cases h)⟩
  ·cases hb
theorem Ab1 {d : TypeDesc} {x : AV} {k : Key} {v : Value} (h : key0 d x = some k) (hr : R C N w x v) : KV k v /\ KS d v := by
 unfold key0 at h
 split at h
 ·rename_i j k' n
  cases hk : He j k'
  ·simp [hk] at h
  ·simp only [hk,cond_true,ad_] at h;subst h;have := (Ks j k').1 hk;subst this;unfold R at hr; subst hr
   exact ⟨by unfold KV; rfl,n,rfl⟩
 ·rename_i l
  cases h;unfold R at hr;obtain ⟨s,rfl,h2⟩ := hr
  exact ⟨by unfold KV; exact ⟨s,rfl,h2⟩,s,rfl⟩
 ·rename_i b
  cases h;unfold R at hr; subst hr
  exact ⟨by unfold KV; rfl,b,rfl⟩
 ·cases h
theorem Ym : ∀ {fs : List Field} {cs : List AV} {ks : List Key} {vs : List Value},X7 P fs cs = some ks -> RL C N w cs vs -> KVs ks vs /\ KFs P fs vs
 | [],[],ks,vs,h,hr => by
  simp only [X7,ad_] at h; subst h;cases vs with
  | nil => exact ⟨by unfold KVs; trivial,by unfold KFs; trivial⟩
  | cons => unfold RL at hr; exact hr.elim
 | f :: fs,c :: cs,ks,vs,h,hr => by
  cases vs with
  | nil => unfold RL at hr; exact hr.elim
  | cons v vs =>
   unfold RL at hr;simp only [X7] at h
   split at h
   ·rename_i ti hti
    split at h
    ·rename_i k ks' hk hks
     cases hb : (f.name != "_" && Nat.beq ti.size 1)
     ·simp [hb] at h
     ·simp only [hb,cond_true,ad_] at h;subst h;simp only [af_,bne_iff_ne,ne_eq] at hb;obtain ⟨i,d,h1,h2,h3,h4,_,_,_⟩ := Ar hti;obtain ⟨q1,q2⟩ := Ab1 hk hr.1;obtain ⟨q3,q4⟩ := Ym hks hr.2
      have hs : i.size = 1 := by rw [← h4]; exact ac_ hb.2
      rw [h3] at q2
      exact ⟨by unfold KVs; exact ⟨q1,q3⟩,by unfold KFs; exact ⟨⟨i,d,h1,h2,hs,by cases d <;> first | rfl | exact q2.elim,q2,hb.1⟩,q4⟩⟩
    ·cases h
   ·cases h
 | [],_ :: _,_,_,h,_ => by simp [X7] at h
 | _ :: _,[],_,_,h,_ => by simp [X7] at h
theorem Hh {kt : TypeId} {x : AV} {k : Key} {v : Value} (h : Er P kt x = some k) (hr : R C N w x v) : KV k v /\ KT P kt v := by
 unfold Er at h
 split at h
 ·rename_i ti hti
  obtain ⟨i,d,h1,h2,h3,h4,_,_,_⟩ := Ar hti
  split at h
  ·rename_i fs hfs
   cases hb : (I8 fs.toList 0 && !P.stoodInHeld kt)
   ·simp [hb] at h
   ·simp only [hb] at h;unfold Anm at h
    split at h
    ·rename_i cs
     split at h
     ·rename_i l hl
      cases h;unfold R at hr;obtain ⟨a,rfl,q1,q2⟩ := hr;obtain ⟨g1,g2⟩ := Ym hl q1;simp only [af_,co_] at hb
      exact ⟨by unfold KV; exact ⟨a,rfl,g1⟩,.inr ⟨fs,a,by rw [h2,← h3,hfs],rfl,g2,hb.1,hb.2⟩⟩
     ·cases h
    ·cases h
  ·obtain ⟨g1,g2⟩ := Ab1 h hr;rw [h3] at g2;exact ⟨g1,.inl ⟨d,h2,g2⟩⟩
 ·cases h
theorem Ab2 {d : TypeDesc} {k k' : Key} {v v' : Value} (h : KV k v) (h' : KV k' v') (t : KS d v) (t' : KS d v') :
  (Key.eq k k' = true ↔ v = v') /\ ∀ (t : TypeId),P.underlying t = some d -> ∀ n,(Op.equalIn (n + 1) t v v').run P w = .ok (Key.eq k k') w := by
 unfold KS at t t'
 split at t
 ·obtain ⟨n,rfl⟩ := t;obtain ⟨m,rfl⟩ := t'
  cases k <;> unfold KV at h <;> first | (cases h; done) | (obtain ⟨_,hh,_⟩ := h; cases hh; done) | skip
  cases k' <;> unfold KV at h' <;> first | (cases h'; done) | (obtain ⟨_,hh,_⟩ := h'; cases hh; done) | skip
  cases h; cases h';have hk : ∀ j : IntKind,He j j = true := fun j => (Ks j j).2 rfl
  refine ⟨by simp [Key.eq,hk,Ir],fun t ht n => ?_⟩
  rw [run_equalIn_int _ _ _ _ _ _ _ ht]; simp [Key.eq,hk,Ir]
 ·obtain ⟨n,rfl⟩ := t;obtain ⟨m,rfl⟩ := t'
  cases k <;> unfold KV at h <;> first | (cases h; done) | skip
  cases k' <;> unfold KV at h' <;> first | (cases h'; done) | skip
  ·obtain ⟨s,q1,q2⟩ := h;obtain ⟨s',q3,q4⟩ := h';cases q1; cases q3;subst q2; subst q4;refine ⟨?_,fun t ht n => ?_⟩
   ·simp only [Key.eq,Fx,Value.string.injEq]
    exact ⟨Uv,fun h => by rw [h]⟩
   ·rw [run_equalIn_string _ _ _ _ _ ht]; simp only [Key.eq,Kt]
  ·obtain ⟨_,hh,_⟩ := h'; cases hh
  ·obtain ⟨_,hh,_⟩ := h; cases hh
 ·obtain ⟨n,rfl⟩ := t;obtain ⟨m,rfl⟩ := t'
  cases k <;> unfold KV at h <;> first | (cases h; done) | (obtain ⟨_,hh,_⟩ := h; cases hh; done) | skip
  cases k' <;> unfold KV at h' <;> first | (cases h'; done) | (obtain ⟨_,hh,_⟩ := h'; cases hh; done) | skip
  cases h; cases h'
  refine ⟨by cases n <;> cases m <;> simp [Key.eq],fun t ht _ => ?_⟩
  rw [run_equalIn_bool' _ _ _ _ _ ht]; cases n <;> cases m <;> simp [Key.eq]
 ·exact t.elim
theorem Yn (n : Nat) (xs ys : Array Value) : ∀ (fs : List Field) (i : Nat) (ks ks' : List Key) (vs vs' : List Value),I8 fs i = true -> KFs P fs vs -> KFs P fs vs' -> KVs ks vs -> KVs ks' vs' ->
  (∀ j,j < vs.length -> xs[i + j]? = vs[j]?) -> (∀ j,j < vs'.length -> ys[i + j]? = vs'[j]?) ->
  (Key.eqs ks ks' = true ↔ vs = vs') /\ (Op.eqFields (n + 1) xs ys fs).run P w = .ok (Key.eqs ks ks') w
 | [],i,ks,ks',vs,vs',_,h1,h2,h3,h4,_,_ => by
  cases vs <;> unfold KFs at h1 <;> first | exact h1.elim | skip
  cases vs' <;> unfold KFs at h2 <;> first | exact h2.elim | skip
  cases ks <;> unfold KVs at h3 <;> first | exact h3.elim | skip
  cases ks' <;> unfold KVs at h4 <;> first | exact h4.elim | skip
  exact ⟨by simp [Key.eqs],by simp [Op.eqFields,Key.eqs]⟩
 | f :: fs,i,ks,ks',vs,vs',h0,h1,h2,h3,h4,h5,h6 => by
  cases vs with
  | nil => unfold KFs at h1; exact h1.elim
  | cons v vs =>
  cases vs' with
  | nil => unfold KFs at h2; exact h2.elim
  | cons v' vs' =>
  cases ks with
  | nil => unfold KVs at h3; exact h3.elim
  | cons k ks =>
  cases ks' with
  | nil => unfold KVs at h4; exact h4.elim
  | cons k' ks' =>
  unfold KFs at h1 h2;unfold KVs at h3 h4;obtain ⟨⟨inf,d,g1,g2,g3,g4,g5,g6⟩,h1⟩ := h1;obtain ⟨⟨inf',d',e1,e2,_,_,e5,_⟩,h2⟩ := h2;rw [g2] at e2; cases e2;simp only [I8,af_] at h0;have ho : f.offset = i := ac_ h0.1;obtain ⟨q1,q2⟩ := Ab2 (P := P) (w := w) h3.1 h4.1 g5 e5
  obtain ⟨q3,q4⟩ := Yn n xs ys fs (i + 1) ks ks' vs vs' h0.2 h1 h2 h3.2 h4.2 (fun j hj => by have := h5 (j + 1) (by simpa using hj); rw [show i + 1 + j = i + (j + 1) by omega]; simpa using this)
   (fun j hj => by have := h6 (j + 1) (by simpa using hj); rw [show i + 1 + j = i + (j + 1) by omega]; simpa using this)
  have hx : (part f.type xs f.offset).run P w = .ok v w := by
   have := h5 0 (by simp)
   unfold part;simp only [Sem.run_bind,Iq g2,Result.andThen_ok,g4,bo_,if_false,ho]
   simp at this; simp [this]
  have hy : (part f.type ys f.offset).run P w = .ok v' w := by
   have := h6 0 (by simp)
   unfold part;simp only [Sem.run_bind,Iq g2,Result.andThen_ok,g4,bo_,if_false,ho]
   simp at this; simp [this]
  constructor
  ·simp only [Key.eqs,cq_];cases hk : Key.eq k k'
   ·simp only [cond_false,bo_,false_iff,not_and];intro hv; rw [← q1,hk] at hv; cases hv
   ·simp only [cond_true,q3];exact ⟨fun h => ⟨q1.1 hk,h⟩,fun h => h.2⟩
  ·simp only [Op.eqFields,if_pos g6,Sem.run_bind,hx,hy,Result.andThen_ok,q2 _ g2 n,Sem.run_ite,q4,Sem.run_pure,Key.eqs];cases Key.eq k k' <;> simp
theorem Aj3 {kt : TypeId} {k k' : Key} {v v' : Value} (h : KV k v) (h' : KV k' v') (t : KT P kt v) (t' : KT P kt v') :
  (Key.eq k k' = true ↔ v = v') /\ ∀ n,(Op.equalIn (n + 2) kt v v').run P w = .ok (Key.eq k k') w := by
 rcases t with ⟨d,ht,t⟩ | ⟨fs,a,ht,rfl,t1,t2,t3⟩
 ·rcases t' with ⟨d',ht',t'⟩ | ⟨fs,a,ht',rfl,_,_,_⟩
  ·rw [ht] at ht'; cases ht';obtain ⟨q1,q2⟩ := Ab2 (P := P) (w := w) h h' t t';exact ⟨q1,fun n => q2 kt ht (n + 1)⟩
  ·rw [ht] at ht'; cases ht'; exact t.elim
 ·rcases t' with ⟨d',ht',t'⟩ | ⟨fs',a',ht',rfl,t4,_,_⟩
  ·rw [ht] at ht'; cases ht'; exact t'.elim
  ·rw [ht] at ht'; cases ht'
   cases k <;> unfold KV at h <;> first | (cases h; done) | (obtain ⟨_,hh,_⟩ := h; cases hh; done) | skip
   cases k' <;> unfold KV at h' <;> first | (cases h'; done) | (obtain ⟨_,hh,_⟩ := h'; cases hh; done) | skip
   obtain ⟨_,hh,h⟩ := h; cases hh;obtain ⟨_,hh,h'⟩ := h'; cases hh
   have hf : P.fieldsOf kt = fs := by unfold Program.fieldsOf; rw [ht]
   have key := fun n => Yn (P := P) (w := w) n a a' fs.toList 0 _ _ a.toList a'.toList t2 t1 t4 h h' (fun j _ => by simp) (fun j _ => by simp)
   constructor
   ·simp only [Key.eq];rw [(key 0).1]
    constructor
    ·intro hl; rw [Array.toList_inj.1 hl]
    ·intro hl; cases hl; rfl
   ·intro n
    rw [run_equalIn_struct w (n + 1) kt a a' (by rw [hf]; exact ht) t3,hf,(key n).2]
    simp only [Key.eq]
theorem Jr (e : Bool) (n : Nat) (a : Array Value) : ∀ (fs : List Field) (i : Nat) (vs : List Value),I8 fs i = true -> KFs P fs vs -> (∀ j,j < vs.length -> a[i + j]? = vs[j]?) ->
  (forIn fs PUnit.unit fun f _ => if f.name ≠ "_" then do
    let x ← part f.type a f.offset
    Instr.checkKey e (n + 1) f.type x
    pure (ForInStep.yield PUnit.unit)
   else pure (ForInStep.yield PUnit.unit) : Sem PUnit).run P w = .ok PUnit.unit w
 | [],_,_,_,_,_ => by simp
 | f :: fs,i,vs,h0,h1,h2 => by
  cases vs with
  | nil => unfold KFs at h1; exact h1.elim
  | cons v vs =>
  unfold KFs at h1;obtain ⟨⟨inf,d,g1,g2,g3,g4,g5,g6⟩,h1⟩ := h1;simp only [I8,af_] at h0;have ho : f.offset = i := ac_ h0.1
  have hx : (part f.type a f.offset).run P w = .ok v w := by
   have := h2 0 (by simp)
   unfold part;simp only [Sem.run_bind,Iq g2,Result.andThen_ok,g4,bo_,if_false,ho]
   simp at this; simp [this]
  have hc : (Instr.checkKey e (n + 1) f.type v).run P w = .ok () w := by
   unfold Instr.checkKey;simp only [Sem.run_bind,Aa g2,Result.andThen_ok];unfold KS at g5
   split at g5
   ·obtain ⟨_,rfl⟩ := g5; rfl
   ·obtain ⟨_,rfl⟩ := g5; rfl
   ·obtain ⟨_,rfl⟩ := g5; rfl
   ·exact g5.elim
  have := Jr e n a fs (i + 1) vs h0.2 h1 (fun j hj => by have := h2 (j + 1) (by simpa using hj); rw [show i + 1 + j = i + (j + 1) by omega]; simpa using this)
  simp only [List.forIn_cons,Sem.run_bind,if_pos g6,hx,Result.andThen_ok,hc,Sem.run_pure];exact this
theorem Cq {kt : TypeId} {v : Value} (t : KT P kt v) (e : Bool) (n : Nat) : (Instr.checkKey e (n + 2) kt v).run P w = .ok () w := by
 rcases t with ⟨d,ht,t⟩ | ⟨fs,a,ht,rfl,t1,t2,t3⟩
 ·unfold Instr.checkKey;simp only [Sem.run_bind,Aa ht,Result.andThen_ok];unfold KS at t
  split at t
  ·obtain ⟨_,rfl⟩ := t; rfl
  ·obtain ⟨_,rfl⟩ := t; rfl
  ·obtain ⟨_,rfl⟩ := t; rfl
  ·exact t.elim
 ·unfold Instr.checkKey;simp only [Sem.run_bind,Aa ht,Result.andThen_ok];rw [← Array.forIn_toList]
  have := Jr (w := w) e n a fs.toList 0 a.toList t2 t1 (fun j _ => by simp)
  rw [this]
  rfl
end
end Go.AM
