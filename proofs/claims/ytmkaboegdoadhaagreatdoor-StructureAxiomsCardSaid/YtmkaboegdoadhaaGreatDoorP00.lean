/- A part of the proof; shortened by program. -/
import Derived.Orders
set_option maxRecDepth 100000
set_option maxHeartbeats 4000000
set_option linter.all false
namespace Go.AM
open Go
theorem Y{n:Nat}:n<=n:=Nat.le_refl n
theorem z{p:Prop}(h:p:=by omega):p:=h
theorem Z{p:Prop}(h:p:=by grind):p:=h
theorem zE{C:Sort _}(x:C):∃y,x=y:=⟨x,rfl⟩
theorem zF{p:Prop}(h:p:=by intro _;rfl):p:=h
theorem zN{p:Prop}(h:p:=by intro _ _;rfl):p:=h
theorem zD{p:Prop}(h:p:=by decide):p:=h
theorem zS{p:Prop}(h:p:=by simp):p:=h
theorem zJ{C:Sort _}{c:Bool}{a b:C}[Decidable (c=true)](h:c=false):(if c=true then a else b)=b:=if_neg (h▸Bool.noConfusion)
abbrev bA:=@List.mem_of_getElem?
abbrev bK:=@Nat.eq_of_beq_eq_true
abbrev bg:=@Bool.and_eq_true
abbrev bQ:=@List.getElem?_eq_some_iff
abbrev bH:=@Option.some.injEq
abbrev cv:=@List.drop_eq_nil_of_le
abbrev bD:=@Nat.le_trans
abbrev ch:=@List.mem_cons_of_mem
abbrev cC:=@Nat.lt_of_lt_of_le
abbrev dB:=@Nat.le_of_ble_eq_true
abbrev bN:=@List.mem_cons
abbrev cI:=@List.mem_singleton
abbrev cX:=@List.mem_cons_self
abbrev bU:=@Nat.zero_le
abbrev dS:=@Nat.ble_eq_true_of_le
abbrev cZ:=@List.length_cons
abbrev dG:=@List.take_of_length_le
abbrev fA:=@List.mem_iff_getElem?
abbrev fI:=@Bool.eq_false_or_eq_true
abbrev cb:=@Nat.beq_refl
abbrev dL:=@List.cons_append
abbrev fF:=@List.getElem?_eq_getElem
abbrev b_:=@List.all_eq_true
abbrev cE:=@Prod.mk.injEq
abbrev dW:=@List.mem_append
abbrev iK:=@Array.getElem?_eq_some_iff
abbrev fK:=@List.nil_append
abbrev dR:=@Bool.and_self
abbrev gV:=@Option.isSome_iff_exists
abbrev dA:=@List.append_nil
abbrev eQ:=@Bool.not_eq_true'
abbrev iF:=@List.drop_eq_getElem_cons
abbrev eO:=@Bool.or_eq_true
abbrev eU:=@Nat.lt_succ_self
abbrev dQ:=@Int.ofNat_le
abbrev dE:=@Nat.zero_add
abbrev jY:=@Array.getD_eq_getD_getElem?
abbrev fY:=@Bool.false_eq_true
abbrev gB:=@List.pairwise_cons
abbrev eC:=@List.getElem?_map
abbrev ej:=@List.flatMap_cons
abbrev dO:=@List.mem_map
abbrev ep:=@Int.ofNat_eq_natCast
abbrev iT:=@Bool.or_eq_false_iff
abbrev iO:=@Array.getElem?_toList
abbrev gW:=@List.length_append
abbrev gL:=@Option.some.inj
abbrev iB:=@Bool.eq_false_iff
abbrev c_:=@Array.toList_map
abbrev iC:=@List.append_assoc
abbrev gC:=@List.length_take
abbrev gK:=@List.take_append_drop
abbrev kE:=@Array.length_toList
abbrev oD:=@List.eq_nil_of_length_eq_zero
abbrev kU:=@List.getElem?_append_left
abbrev gI:=@Int.ofNat.inj
abbrev kI:=@List.range'_succ
abbrev mW:=@List.not_mem_nil
abbrev kJ:=@List.mem_of_mem_take
abbrev fG:=@List.map_cons
abbrev iG:=@List.map_append
abbrev gS:=@List.mem_filter
abbrev rE:=@List.getElem?_cons_succ
abbrev xv:=@Array.getElem?_setIfInBounds_ne
abbrev gX:=@List.all_cons
abbrev iU:=@List.foldl_cons
abbrev lP:=@List.length_nil
abbrev pM:=@Array.toList_append
abbrev jW:=@List.mem_range
abbrev jT:=@List.length_map
abbrev pR:=@Option.map_eq_some_iff
abbrev d_:=@List.reverse_cons
abbrev mV:=@List.flatMap_append
abbrev kn:=@List.drop_zero
abbrev jO:=@List.length_set
abbrev oL:=@Nat.eq_zero_or_pos
abbrev oQ:=@Bool.not_eq_false'
abbrev rQ:=@List.mem_append_left
abbrev yR:=@List.any_cons
abbrev kQ:=@List.nodup_nil
abbrev pw:=@List.cons.injEq
abbrev kG:=@Nat.le_succ
abbrev zw:=@List.getElem?_append_right
abbrev oV:=@List.length_drop
abbrev xF:=@Array.getElem?_modify
abbrev zM:=@List.range_eq_range'
abbrev mH:=@Option.map_some
abbrev rC:=@List.nodup_append
abbrev nO:=@Nat.min_eq_left
abbrev rO:=@List.any_eq_false
abbrev lH:=@Nat.zero_mul
abbrev rK:=@List.reverse_nil
abbrev e_:=@List.any_eq_true
abbrev tJ:=@List.getElem?_take
abbrev xm:=@List.append_of_mem
abbrev nT:=@List.nodup_cons
abbrev lI:=@List.length_filter_le
abbrev pD:=@Nat.le_of_eq
abbrev xB:=@Int.toNat_natCast
abbrev CB:=@Array.getElem?_append_left
abbrev wH:=@Nat.mul_le_mul_right
abbrev IW:=@Array.getElem?_eq_getElem
abbrev rU:=@List.drop_drop
abbrev qQ:=@List.drop_length
abbrev zC:=@List.mem_map_of_mem
abbrev z':=@List.filter_eq_self
abbrev mO:=@Nat.sub_zero
abbrev HE:=@List.mem_singleton_self
abbrev AC:=@Option.isSome_some
abbrev FQ:=@List.length_eq_zero_iff
abbrev FP:=@Option.bind_eq_some_iff
abbrev f_:=@List.getElem?_set_self
abbrev tF:=@Bool.not_false
abbrev oE:=@Nat.add_zero
abbrev QM:=@Array.eq_empty_of_size_eq_zero
abbrev OI:=@List.mem_append_right
abbrev rR:=@List.length_singleton
abbrev kA:=@List.length_replicate
abbrev OJ:=@List.drop_append_of_le_length
abbrev yL:=@List.flatMap_nil
abbrev HB:=@List.mem_of_mem_drop
abbrev yM:=@List.getElem?_set_ne
abbrev zY:=@Bool.eq_iff_iff
abbrev lT:=@Nat.mul_one
abbrev FF:=@Array.toList_modify
abbrev KI:=@Array.foldl_toList
abbrev ya:=@Nat.succ_mul
abbrev zj:=@List.filter_append
abbrev yg:=@Nat.add_comm
abbrev g_:=@List.getElem?_drop
abbrev q':=@Nat.le_of_lt
abbrev x8:=@Nat.lt_of_le_of_lt
abbrev AH:=@List.drop_take
abbrev zT:=@Bool.or_false
abbrev wG:=@Nat.mod_eq_of_lt
abbrev BT:=@Option.getD_some
abbrev BH:=@Option.bind_some
abbrev JX:=@List.range'_zero
abbrev yS:=@List.map_nil
abbrev CD:=@Option.map_none
abbrev BC:=@Int.natCast_mul
abbrev mq:=@Ne.symm
abbrev zW:=@Nat.not_lt_zero
abbrev h_:=@List.mapM_cons
abbrev wI:=@Nat.add_mul
abbrev sR:=@Nat.ble_eq
def C7{J:Type}(n:Nat)(k:Nat->J):J:=match n with|0=>k 0|m+1=>k (m+1)
theorem Ak{J}(n)(k:Nat->J):C7 n k=k n:=by cases n<;>rfl
inductive Tr (α:Type) where
 |e
 |n (v:Option α)(l r:Tr α)
def Tr.get{C:Type}:Tr C->Nat->Option C
 |.e,_=>none
 |.n v l r,k=>match k with
  |0=>v
  |k+1=>cond (Nat.beq (k%2) 0) (l.get (k / 2)) (r.get (k / 2))
def Tr.mkL{C:Type}(v:Option C)(l r:Tr C):Tr C:=match l with
 |.e=>.n v .e r
 |.n a b c=>.n v (.n a b c) r
def Tr.mkR{C:Type}(v:Option C)(l r:Tr C):Tr C:=match r with
 |.e=>.n v l .e
 |.n a b c=>.n v l (.n a b c)
def Tr.put{C:Type}:Nat->Tr C->Nat->Option C->Tr C
 |0,t,_,_=>t
 |f+1,.e,k,x=>match k with
  |0=>.n x .e .e
  |k+1=>cond (Nat.beq (k%2) 0) (Tr.mkL none (Tr.put f .e (k / 2) x) .e) (Tr.mkR none .e (Tr.put f .e (k / 2) x))
 |f+1,.n v l r,k,x=>match k with
  |0=>.n x l r
  |k+1=>cond (Nat.beq (k%2) 0) (Tr.mkL v (Tr.put f l (k / 2) x) r) (Tr.mkR v l (Tr.put f r (k / 2) x))
inductive I where
 |any
 |bool (b:Bool)
 |int (k:IntKind)(n:Int)
 |str (l:List Nat)
 |nil (v:Value)
 |pr (a off:Nat)
 |pv (cs:List I)
 |sr (a off sz len:Nat)(cap:Option Nat)
 |sv (cs:List I)(sz len:Nat)(cap:Option Nat)
 |mp (r:Nat)
 |it (r:Nat)
 |stp (a:Nat)
 |yl (a:Nat)
 |flt (k:FloatKind)(bits:Nat)
 |fn (f:Fn)(first cap:List I)
 |ifc (t:Nat)(v:I)
 |agg (cs:List I)
 |tup (vs:List I)
 deriving Inhabited
def Xl:Value->Bool
 |.pointer none|.slice none 0 0|.map none|.nilFunc|.nilIface=>true
 |_=>false
def B2(s:ByteArray):List Nat:=s.data.toList.map UInt8.toNat
def Af1{J:Type}:List Nat->(List Nat->J)->J
 |[],k=>k []
 |x::r,k=>C7 x λx=>Af1 r λr=>k (x::r)
def Yh(v:Value):I:=
 match v with
 |.bool true=>.bool true
 |.bool false=>.bool false
 |.int k (.ofNat n)=>C7 n λn=>.int k (.ofNat n)
 |.int k n=>.int k n
 |.string s=>Af1 (B2 s) .str
 |.float k n=>C7 n λn=>.flt k n
 |v=>cond (Xl v) (.nil v) .any
def qR:List Value->List I
 |[]=>[]
 |v::r=>Yh v::qR r
def zk:Value->Bool
 |.bool _|.int _ _|.string _|.float _ _=>true
 |v=>Xl v
def Q5:List Value->Bool
 |[]=>true
 |v::r=>zk v&&Q5 r
def ls(v:Value):I:=
 match v with
 |.agg c=>cond (Q5 c.toList) (.agg (qR c.toList)) .any
 |.tuple d=>.tup (qR d.toList)
 |.iface t x=>.ifc t (Yh x)
 |.func f a b=>cond (a.isEmpty&&b.isEmpty) (.fn f [] []) .any
 |v=>Yh v
def I.cellsN(v:I)(n:Nat):Option (List I):=
 match v with
 |.any=>none
 |.tup _=>none
 |.agg a=>cond (Nat.beq a.length n) (some a) none
 |v=>cond (Nat.beq n 1) (some [v]) none
inductive aQ where
 |bool (b:Bool)
 |int (k:IntKind)(n:Int)
 |str (l:List Nat)
 |agg (cs:List aQ)
inductive XE where
 |normal
 |exit (id:Nat)
 |ret
inductive LS where
 |ready
 |busy
 |done (x:XE)
inductive AO where
 |cells (vs:List I)
 |map (kt:Nat)(es:List (aQ×I))(ver:Nat)
 |iter (m:Option Nat)(ver:Nat)(left:List (aQ×I))(cur:Option (aQ×I))
 |stamp (m ver:Nat)(k:aQ)
 |loop (st:LS)
 deriving Inhabited
structure F where
 objs:Tr AO
 next:Nat
def O(J:F):Nat:=match J with|⟨_,n⟩=>n
def F.get(J:F)(a:Nat):Option AO:=match J with|⟨o,_⟩=>o.get a
def Ty{C J:Type}(t:Tr C)(k:Tr C->J):J:=match t with|.e=>k .e|.n a b c=>k (.n a b c)
def F.set(J:F)(a:Nat)(o:AO):F:=match J with|⟨t,n⟩=>Ty (t.put (a+1) a (some o)) λt=>⟨t,n⟩
def F.kill(J:F)(a:Nat):F:=match J with|⟨t,n⟩=>Ty (t.put (a+1) a none) λt=>⟨t,n⟩
def F.new(J:F)(o:AO):F:=match J with|⟨t,n⟩=>Ty (t.put (n+1) n (some o)) λt=>C7 (n+1) λn=>⟨t,n⟩
def F.cells(J:F)(a:Nat):Option (List I):=match J.get a with|some (.cells b)=>some b|_=>none
structure TI where
 desc:TypeDesc
 size:Nat
 bytes:Nat
 zero:Option (List I)
 isAgg:Bool
def Mx:TypeDesc->Bool
 |.struct _|.array _ _=>true
 |_=>false
def zK(e:Bool)(U:Option Value):Option (List I):=
 match U with
 |some U=>match U with
  |.agg a=>match e&&Q5 a.toList with|true=>some (qR a.toList)|false=>none
  |v=>match !e&&zk v with|true=>some [Yh v]|false=>none
 |none=>none
def Ay(P:Program)(t:Nat):Option TI:=
 match P.info? t,P.underlying t with
 |some i,some d=>some { desc:=d,size:=i.size,bytes:=i.bytes,zero:=zK (Mx d) i.zero,isAgg:=Mx d }
 |_,_=>none
abbrev bW:=Option (I×F)
structure RF where
 aY:Nat
 tm:Tr I
 nt:Nat
 ps:Array Tmp
 assign:Code
 body:Code
structure St where
 tm:Tr I
 nt:Nat
 df:List (Nat×List I)
 sto:F
inductive Tgt where
 |fn (f:Nat)
 |yl (a:Nat)
abbrev RK:=List I->F->bW
abbrev bP:=Tgt->RK
structure aZ where
 P:Program
 gl:Nat->Option (List I)
 sum:Nat->Option (List I->F->bW)
 dsum:Nat->Option (List I->F->Option F)
 byref:Nat->Bool
 hold:Nat->Option (Array Value->Prop):=λ_=>none
 loops:List RF:=[]
 rg:Nat->Bool:=λ_=>false
 pu:Nat->Bool:=λ_=>false
def Et:List I->Nat->List I->Option (List I)
 |l,0,[]=>some l
 |_::r,0,x::a=>match Et r 0 a with|some l=>some (x::l)|none=>none
 |y::r,k+1,a=>match Et r k a with|some l=>some (y::l)|none=>none
 |_,_,_=>none
def Dr:Nat->List I->Option (List I)
 |0,_=>some []
 |n+1,x::r=>match Dr n r with|some l=>some (x::l)|none=>none
 |_+1,[]=>none
def rep(U:List I):Nat->List I
 |0=>[]
 |n+1=>U++rep U n
def Ff(a:TI)(l:List I):Option I:=
 match a.isAgg with
 |true=>match Dr a.size l with|some b=>some (.agg b)|none=>none
 |false=>match l with|v::_=>some v|[]=>none
def Si:List I->List (Nat×Nat×I)->Option (List I)
 |b,[]=>some b
 |b,(d,a,v)::r=>match v.cellsN a with
  |some l=>match Et b d l with
   |some c=>Si c r
   |none=>none
  |none=>none
def My:I->Option Nat
 |.int _ (.ofNat n)=>some n
 |_=>none
def Lh(a:TI):Option I:=
 match a.zero with
 |some b=>match a.isAgg with|true=>some (.agg b)|false=>match b with|[v]=>some v|_=>none
 |none=>none
def Je(a:TI)(v:I):Bool:=match v with
 |.any=>false
 |.tup _=>false
 |.agg b=>a.isAgg&&Nat.beq b.length a.size
 |_=> !a.isAgg
def Fm:List Nat->List Nat->Bool
 |[],[]=>true
 |x::r,y::s=>cond (Nat.beq x y) (Fm r s) false
 |_,_=>false
def C8:List Nat->List Nat->Bool
 |_,[]=>false
 |[],_::_=>true
 |a::x,b::y=>cond (Nat.blt a b) true (cond (Nat.beq a b) (C8 x y) false)
def Tz:Int->Int->Bool
 |.ofNat a,.ofNat b=>Nat.beq a b
 |.negSucc a,.negSucc b=>Nat.beq a b
 |_,_=>false
def T1:Int->Int->Bool
 |.ofNat a,.ofNat b=>Nat.ble a b
 |.negSucc a,.negSucc b=>Nat.ble b a
 |.negSucc _,.ofNat _=>true
 |.ofNat _,.negSucc _=>false
def Ed(a b:IntKind):Bool:=match a,b with
 |.i64,.i64=>true
 |.u8,.u8=>true
 |a,b=>decide (a=b)
mutual
def aQ.eq:aQ->aQ->Bool
 |.bool a,.bool b=>cond a b (!b)
 |.int k a,.int k' b=>Ed k k'&&Tz a b
 |.str a,.str b=>Fm a b
 |.agg a,.agg b=>aQ.eqs a b
 |_,_=>false
def aQ.eqs:List aQ->List aQ->Bool
 |[],[]=>true
 |x::r,y::s=>cond (aQ.eq x y) (aQ.eqs r s) false
 |_,_=>false
end
mutual
def aQ.lt:aQ->aQ->Bool
 |.bool a,.bool b=> !a&&b
 |.int _ a,.int _ b=> !T1 b a
 |.str a,.str b=>C8 a b
 |.agg a,.agg b=>aQ.lts a b
 |_,_=>false
def aQ.lts:List aQ->List aQ->Bool
 |x::r,y::s=>cond (aQ.lt x y) true (cond (aQ.eq x y) (aQ.lts r s) false)
 |_,_=>false
end
def uW(d:TypeDesc)(v:I):Option aQ:=
 match d,v with
 |.int j,.int k n=>cond (Ed j k) (some (.int k n)) none
 |.string,.str l=>some (.str l)
 |.bool,.bool b=>some (.bool b)
 |_,_=>none
def Z9(P:Program):List Field->List I->Option (List aQ)
 |[],[]=>some []
 |f::b,v::d=>match Ay P f.type with
  |some a=>match uW a.desc v,Z9 P b d with
   |some k, some c=>cond (f.name != "_" &&Nat.beq a.size 1) (some (k::c)) none
   |_,_=>none
  |none=>none
 |_,_=>none
def Jz:List Field->Nat->Bool
 |[],_=>true
 |f::a,i=>Nat.beq f.offset i&&Jz a (i+1)
def KU(P:Program)(b:List Field)(v:I):Option aQ:=
 match v with
 |.agg a=>match Z9 P b a with|some l=>some (.agg l)|none=>none
 |_=>none
def Ahu(d:TypeDesc):List I->Option (List aQ)
 |[]=>some []
 |v::b=>match uW d v,Ahu d b with
  |some k,some a=>some (k::a)
  |_,_=>none
def Mc(d:TypeDesc)(n:Nat)(v:I):Option aQ:=
 match v with
 |.agg a=>match Nat.beq a.length n&& !Nat.beq n 0 with
  |true=>match Ahu d a with|some l=>some (.agg l)|none=>none
  |false=>none
 |_=>none
def D4(P:Program)(t:Nat)(v:I):Option aQ:=
 match Ay P t with
 |some c=>match c.desc with
  |.struct b=>match Jz b.toList 0&& !P.stoodInHeld t with
   |true=>KU P b.toList v
   |false=>none
  |.array n e=>match Ay P e with
   |some a=>match Nat.beq a.size 1&& !a.isAgg with
    |true=>Mc a.desc n v
    |false=>none
   |none=>none
  |d=>uW d v
 |none=>none
def T2:aQ->I
 |.bool b=>.bool b
 |.int k n=>.int k n
 |.str l=>.str l
 |.agg a=>.agg (a.map λ|.bool b=>.bool b|.int k n=>.int k n|.str l=>.str l|.agg _=>.any)
def D5(k:aQ):List (aQ×I)->Option I
 |[]=>none
 |(a,v)::r=>cond (aQ.eq k a) (some v) (D5 k r)
def Ph(k:aQ)(v:I):List (aQ×I)->List (aQ×I)
 |[]=>[]
 |(a,b)::r=>cond (aQ.eq k a) ((a,v)::r) ((a,b)::Ph k v r)
def Nx(k:aQ)(v:I):List (aQ×I)->List (aQ×I)
 |[]=>[(k,v)]
 |(a,b)::r=>cond (aQ.lt k a) ((k,v)::(a,b)::r) ((a,b)::Nx k v r)
def Adh(k:aQ):List (aQ×I)->List (aQ×I)
 |[]=>[]
 |(a,b)::r=>cond (aQ.eq k a) r ((a,b)::Adh k r)
def Ht{C:Type}:List C->List (C×List C)
 |[]=>[]
 |x::r=>(x,r)::(Ht r).map λ(y,s)=>(y,x::s)
def Li(a:Nat)(y:Option Nat)(n:Nat):Bool:=cond (Nat.ble n a) true (match y with|some q=>Nat.ble n q|none=>false)
def Mz(y:Option Nat)(l:Nat):Option Nat:=match y with|some q=>some (q-l)|none=>none
def Do(a:Nat)(y:Option Nat)(c L b:Option I):Option (Nat×Nat×Option Nat):=
 match(match c with|none=>some 0|some v=>My v),(match L with|none=>some a|some v=>My v)with
 |some l,some h=>
  match b with
  |none=>cond (Nat.ble l h&&Li a y h) (some (l,h,Mz y l)) none
  |some d=>match My d,L with
   |some m,some _=>cond (Nat.ble l h&&Nat.ble h m&&Li a y m) (some (l,h,some (m-l))) none
   |_,_=>none
 |_,_=>none
def Iq:List Nat->List I
 |[]=>[]
 |b::r=>.int .u8 (.ofNat b)::Iq r
def z9:List I->Option (List Nat)
 |[]=>some []
 |.int .u8 (.ofNat n)::r=>match z9 r with|some l=>cond (Nat.blt n 256) (some (n::l)) none|none=>none
 |_=>none
def F9(J:F)(T:Nat)(v:I)(n:Nat):Option (List I):=
 match v with
 |.sr a b _ _ _=>match J.cells a with|some d=>Dr (n*T) (d.drop b)|none=>none
 |.sv c _ _ _=>Dr (n*T) c
 |.nil (.slice none 0 0)=>match n with|0=>some []|_=>none
 |.str l=>match T with|1=>Dr n (Iq l)|_=>none
 |_=>none
def lenA:I->Option Nat
 |.sr _ _ _ a _=>some a
 |.sv _ _ a _=>some a
 |.nil (.slice none 0 0)=>some 0
 |.str l=>some l.length
 |_=>none
def az:Nat:=1099511627776
def EY:Nat:=9223372036854775807
def Ja(T a n:Nat)(new c:List I)(b:Nat)(J:F):bW:=
 cond (Nat.ble ((b+n)*(a+1)) az) (C7 (b+n) λm=>some (.sr (O J) 0 T m none,J.new (.cells (c++new)))) none
def B6(J:F)(T b:Nat)(d:I)(n:Nat)(new:List I):bW:=
 match n with
 |0=>match d with
  |.nil (.slice none 0 0)=>some (d,J)
  |.sv _ _ _ _=>some (d,J)
  |.sr _ _ _ _ _=>some (d,J)
  |_=>none
 |e+1=>match d with
  |.nil (.slice none 0 0)=>Ja T b (e+1) new [] 0 J
  |.sv l g c (some q)=>cond (Nat.beq g T&& !Nat.ble (c+(e+1)) q) (Ja T b (e+1) new l c J) none
  |.sr a f g c i=>cond (Nat.beq g T)
    (match J.cells a with
    |none=>none
    |some k=>match Dr (c*T) (k.drop f)with
     |none=>none
     |some h=>match i with
      |some q=>match Nat.ble (c+(e+1)) q with
       |true=>match Et k (f+c*T) new with
        |some j=>C7 (c+(e+1)) λm=>some (.sr a f T m (some q),J.set a (.cells j))
        |none=>none
       |false=>Ja T b (e+1) new h c J
      |none=>Ja T b (e+1) new h c (J.kill a)) none
  |_=>none
def M0(k:IntKind):Int->Bool
 |.ofNat n=>match k with
  |.i64=>Nat.ble n 9223372036854775807
  |.u64=>Nat.ble n 18446744073709551615
  |.u8=>Nat.ble n 255
  |.i32=>Nat.ble n 2147483647
  |.u32=>Nat.ble n 4294967295
  |.i8=>Nat.ble n 127
  |.i16=>Nat.ble n 32767
  |.u16=>Nat.ble n 65535
 |.negSucc n=>match k with
  |.i64=>Nat.ble n 9223372036854775807
  |.i32=>Nat.ble n 2147483647
  |.i8=>Nat.ble n 127
  |.i16=>Nat.ble n 32767
  |_=>false
def Me(k:IntKind)(n:Int):I:=
 match n with
 |.ofNat m=>C7 m λm=>cond (M0 k (.ofNat m)) (.int k (.ofNat m)) (.int k (k.wrap (.ofNat m)))
 |.negSucc m=>C7 m λm=>cond (M0 k (.negSucc m)) (.int k (.negSucc m)) (.int k (k.wrap (.negSucc m)))
def IV:Int->Int->Int
 |.ofNat a,.ofNat b=>.ofNat (a+b)
 |a,b=>a+b
def za:Int->Int->Int
 |.ofNat a,.ofNat b=>cond (Nat.ble b a) (.ofNat (a-b)) (.ofNat a-.ofNat b)
 |a,b=>a-b
def Ic(w:BinOp)(k:IntKind)(a b:Int):Option I:=
 match w with
 |.add=>some (Me k (IV a b))
 |.sub=>some (Me k (za a b))
 |.mul=>some (Me k (a*b))
 |.eql=>some (.bool (Tz a b))
 |.neq=>some (.bool (!Tz a b))
 |.leq=>some (.bool (T1 a b))
 |.lss=>some (.bool (!T1 b a))
 |.gtr=>some (.bool (!T1 a b))
 |.geq=>some (.bool (T1 b a))
 |.quo=>match a,b with
  |.ofNat a,.ofNat (b+1)=>some (Me k (.ofNat (a / (b+1))))
  |_,_=>none
 |.rem=>match a,b with
  |.ofNat a,.ofNat (b+1)=>C7 (a%(b+1)) λm=>some (.int k (.ofNat m))
  |_,_=>none
 |_=>none
def T3(w:BinOp)(a b:List Nat):Option I:=
 match w with
 |.eql=>some (.bool (Fm a b))
 |.neq=>some (.bool (!Fm a b))
 |.lss=>some (.bool (C8 a b))
 |.leq=>some (.bool (C8 a b||Fm a b))
 |.gtr=>some (.bool (!(C8 a b||Fm a b)))
 |.geq=>some (.bool (!C8 a b))
 |.add=>cond (Nat.ble (a.length+b.length) EY) (some (.str (a++b))) none
 |_=>none
def Pm(d:TypeDesc)(x y:I):Bool:=
 match y with
 |.nil (.slice none 0 0)=>match d,x with|.slice _,.sr _ _ _ _ _=>true|.slice _,.sv _ _ (_+1) _=>true|_,_=>false
 |.nil (.pointer none)=>match d,x with|.pointer _,.pr _ _=>true|.pointer _,.pv _=>true|_,_=>false
 |.nil (.map none)=>match d,x with|.map _ _,.mp _=>true|_,_=>false
 |.nil .nilFunc=>match d,x with|.func _ _ _,.fn _ _ _=>true|_,_=>false
 |.nil .nilIface=>match d,x with|.interface _,.ifc _ _=>true|_,_=>false
 |_=>false
def Q6(d:TypeDesc)(x y:I):Bool:=
 match d,x,y with
 |.slice _,.nil (.slice none 0 0),.nil (.slice none 0 0)=>true
 |.pointer _,.nil (.pointer none),.nil (.pointer none)=>true
 |.map _ _,.nil (.map none),.nil (.map none)=>true
 |.func _ _ _,.nil .nilFunc,.nil .nilFunc=>true
 |.interface _,.nil .nilIface,.nil .nilIface=>true
 |_,_,_=>false
def vO(d:TypeDesc)(x y:I):Option Bool:=
 cond (Q6 d x y) (some true) (cond (Pm d x y||Pm d y x) (some false) none)
def Cm:Operand->Bool
 |.const _=>true
 |_=>false
def Pn(P:Program)(t:Nat)(x y:I):Option Bool:=
 match x,y with
 |.agg l,.agg m=>match D4 P t (.agg l),D4 P t (.agg m)with
  |some a,some b=>some (aQ.eq a b)
  |_,_=>none
 |_,_=>none
def Ir(P:Program)(v:TI)(t:Nat)(E:Bool)(x y:I):Option Bool:=
 match cond E (vO v.desc x y) none with
 |some b=>some b
 |none=>Pn P t x y
def uK(o:Option Ordering)(x:Ordering):Bool:=match o,x with
 |some .lt,.lt=>true
 |some .eq,.eq=>true
 |some .gt,.gt=>true
 |_,_=>false
def iR(k:FloatKind)(r:Option Nat):Option I:=match r with|some n=>C7 n λn=>some (.flt k n)|none=>none
def BX(w:BinOp)(k:FloatKind)(a b:Nat):Option I:=none
def Wb(P:Program)(w:BinOp)(t:Nat)(E:Bool)(x y:I):Option I:=
 match Ay P t with
 |some d=>match x,y with
  |.int k a,.int c b=>cond (Ed k c) (Ic w k a b) none
  |.str a,.str b=>T3 w a b
  |.flt k a,.flt c b=>match decide (k=c)with|true=>BX w k a b|false=>none
  |.bool a,.bool b=>match w,d.desc with
   |.eql,.bool=>some (.bool (cond a b (!b)))
   |.neq,.bool=>some (.bool (!cond a b (!b)))
   |_,_=>none
  |x,y=>match w with
   |.eql=>match Ir P d t E x y with
    |some b=>some (.bool b)
    |none=>none
   |.neq=>match Ir P d t E x y with
    |some b=>some (.bool (!b))
    |none=>none
   |_=>none
 |none=>none
def yJ(w:UnOp)(x:I):Option I:=
 match w,x with
 |.not,.bool b=>some (.bool (!b))
 |.neg,.int k n=>some (Me k (za 0 n))
 |_,_=>none
def Po(x:I)(n:Nat):Option I:=
 match x with
 |.pr a b=>C7 (b+n) λo=>some (.pr a o)
 |.pv c=>some (.pv (c.drop n))
 |_=>none
def opd(E:aZ)(n:Tr I):Operand->I
 |.tmp t=>match n.get t with|some v=>v|none=>.any
 |.const v=>ls v
 |.global g=>match E.gl g with|some a=>.pv a|none=>.any
 |.func f=>.fn (.func f) [] []
def opds(E:aZ)(n:Tr I):List Operand->List I
 |[]=>[]
 |x::r=>opd E n x::opds E n r
def opdO(E:aZ)(n:Tr I):Option Operand->Option I
 |none=>none
 |some x=>some (opd E n x)
def sJ(c a b:I)(J:F):bW:=match c with
 |.bool true=>some (a,J)
 |.bool false=>some (b,J)
 |_=>none
def Jf(x:I)(J:F):bW:=match x with
 |.pr a b=>some (.pr a b,J)
 |.pv c=>some (.pv c,J)
 |.fn (.func f) p q=>some (.fn (.func f) p q,J)
 |_=>none
def uA(U:List I)(J:F):bW:=some (.pr (O J) 0,J.new (.cells U))
def mK(P:Nat)(x:I)(J:F):bW:=match x.cellsN P with
 |some a=>some (.pr (O J) 0,J.new (.cells a))
 |none=>none
def Js(P:Program)(E:aZ)(n:Tr I)(a:List Field):List (Nat×Operand)->Option (List (Nat×Nat×I))
 |[]=>some []
 |(i,x)::r=>match a[i]?,Js P E n a r with
  |some f,some l=>match Ay P f.type with
   |some b=>some ((f.offset,b.size,opd E n x)::l)
   |none=>none
  |_,_=>none
def Q7(P:Program):List Field->Bool
 |[]=>true
 |f::r=>match P.info? f.type with|some _=>Q7 P r|none=>false
def Is(E:aZ)(n:Tr I)(P:Nat):List (Nat×Operand)->List (Nat×Nat×I)
 |[]=>[]
 |(i,x)::r=>(i*P,P,opd E n x)::Is E n P r
def M2(U:List I)(k:List (Nat×Nat×I))(J:F):bW:=match Si U k with
 |some a=>some (.agg a,J)
 |none=>none
def Id(U:List I)(P a:Nat)(b:Bool)(k:List (Nat×Nat×I))(J:F):bW:=match Si (rep U a) k with
 |some c=>match b with
  |true=>some (.sr (O J) 0 P a (some a),J.new (.cells c))
  |false=>some (.sv c P a (some a),J)
 |none=>none
def Na(c:TI)(x:I)(J:F):bW:=match x with
 |.pr a b=>match J.cells a with
  |some e=>match Ff c (e.drop b)with|some v=>some (v,J)|none=>none
  |none=>none
 |.pv d=>match Ff c d with|some v=>some (v,J)|none=>none
 |_=>none
def An:I:=.tup []
def Wc(P:Nat)(x v:I)(J:F):bW:=match x,v.cellsN P with
 |.pr a b,some l=>match J.cells a with
  |some d=>match Et d b l with
   |some c=>some (An,J.set a (.cells c))
   |none=>none
  |none=>none
 |_,_=>none
def Sx(r:Option I)(J:F):bW:=match r with|some v=>some (v,J)|none=>none
def Pp(k:IntKind)(x:I)(J:F):bW:=match x with
 |.int _ n=>some (Me k n,J)
 |_=>none
def CR(k:FloatKind)(x:I)(J:F):bW:=none
def T4(x:I)(J:F):bW:=match x with
 |.str l=>some (.str l,J)
 |_=>none
def Kx(x:I)(J:F):bW:=match x with
 |.str l=>match l with
  |[]=>some (.sv [] 1 0 none,J)
  |l=>some (.sv (Iq l) 1 l.length none,J)
 |_=>none
def pz:I->Bool
 |.str _=>false
 |_=>true
def Ny(x:I)(J:F):bW:=none
def pS(x:I)(J:F):bW:=some (x,J)
def pZ(t:Nat)(x:I)(J:F):bW:=some (.ifc t x,J)
def yW(f:Fn)(a b:List I)(J:F):bW:=some (.fn f a b,J)
def T5(s:Nat)(J:F):bW:=some (.mp (O J),J.new (.map s [] 0))
def We(s:Nat)(x:I)(J:F):bW:=match x with
 |.int _ _=>some (.mp (O J),J.new (.map s [] 0))
 |_=>none
def Nz(U:List I)(P a:Nat)(l c:I)(J:F):bW:=match l,c with
 |.int .i64 (.ofNat l),.int .i64 (.ofNat c)=>cond (Nat.ble l c&&Nat.ble (c*(a+1)) az)
   (some (.sr (O J) 0 P l (some c),J.new (.cells (rep U c)))) none
 |_,_=>none
def Nb(x:I)(c L:Option I)(J:F):bW:=match x with
 |.str l=>match Do l.length (some l.length) c L none with
  |some (a,b,_)=>some (.str ((l.take b).drop a),J)
  |none=>none
 |_=>none
def Lj(P:Nat)(x:I)(i L b:Option I)(J:F):bW:=match x with
 |.sr a j d f e=>match Nat.beq d P with
  |true=>match Do f e i L b with
   |some (l,h,c)=>C7 (j+l*d) λo=>C7 (h-l) λm=>some (.sr a o d m c,J)
   |none=>none
  |false=>none
 |.sv k d f e=>match Nat.beq d P with
  |true=>match Do f e i L b with
   |some (l,h,c)=>match Dr ((h-l)*d) (k.drop (l*d))with
    |some g=>C7 (h-l) λm=>some (.sv g d m c,J)
    |none=>none
   |none=>none
  |false=>none
 |.nil (.slice none 0 0)=>match Do 0 (some 0) i L b with
  |some _=>some (.nil (.slice none 0 0),J)
  |none=>none
 |_=>none
def Wf (n P : Nat) (x : I) (f L b : Option I) (J : F) : bW := match x with
 | .pr a d => match J.cells a with
  | some e => match Nat.ble 1 e.length && Nat.ble (d + n * P) e.length with
   | true => match Do n (some n) f L b with
    | some (l,h,c) => C7 (d + l * P) λo => C7 (h - l) λm => some (.sr a o P m c,J)
    | none => none
   | false => none
  | none => none
 | _ => none
def xV(n:Nat)(x:I)(J:F):bW:=match Po x n with|some v=>some (v,J)|none=>none
def vJ(c:TI)(a:Nat)(x:I)(J:F):bW:=match x with
 |.agg b=>match Ff c (b.drop a)with|some v=>some (v,J)|none=>none
 |_=>none
def Gt(P:Nat)(x i:I)(J:F):bW:=match i with
 |.int _ (.ofNat n)=>match x with
  |.sr a c _ b _=>cond (Nat.blt n b) (C7 (c+n*P) λo=>some (.pr a o,J)) none
  |.sv d _ b _=>cond (Nat.blt n b) (some (.pv (d.drop (n*P)),J)) none
  |_=>none
 |_=>none
def E6(a P:Nat)(x i:I)(J:F):bW:=match i with
 |.int _ (.ofNat n)=>cond (Nat.blt n a) (match Po x (n*P)with|some v=>some (v,J)|none=>none) none
 |_=>none
def Lc(x i:I)(J:F):bW:=match x,i with
 |.str l,.int _ (.ofNat n)=>match l[n]? with
  |some b=>some (.int .u8 (.ofNat b),J)
  |none=>none
 |_,_=>none
def Le(y:TI)(a:Nat)(x i:I)(J:F):bW:=match x,i with
 |.agg b,.int _ (.ofNat n)=>cond (Nat.blt n a) (match Ff y (b.drop (n*y.size))with|some v=>some (v,J)|none=>none) none
 |_,_=>none
def nh(a:Bool)(v:I)(b:Bool):I:=match a with|true=>.tup [v,.bool b]|false=>v
def Ky(s:Nat)(b:Option aQ)(U:I)(c:Bool)(m:I)(J:F):bW:=match b with
 |some e=>match m with
  |.mp r=>match J.get r with
   |some (.map a d _)=>match Nat.beq a s with
    |true=>match D5 e d with
     |some v=>some (nh c v true,J)
     |none=>some (nh c U false,J)
    |false=>none
   |_=>none
  |.nil (.map none)=>some (nh c U false,J)
  |_=>none
 |none=>none
def N1(s:Nat)(b:Option aQ)(y:TI)(m v:I)(J:F):bW:=match b,m with
 |some e,.mp r=>match J.get r with
  |some (.map d c a)=>match Nat.beq d s&&Je y v with
   |true=>match D5 e c with
    |some _=>C7 (a+1) λw=>some (An,J.set r (.map s (Ph e v c) w))
    |none=>C7 (a+1) λw=>some (An,J.set r (.map s (Nx e v c) w))
   |false=>none
  |_=>none
 |_,_=>none
def Q8(s:Nat)(b:Option aQ)(U:I)(m:I)(J:F):bW:=match b,m with
 |some a,.mp r=>match J.get r with
  |some (.map d c e)=>match Nat.beq d s with
   |true=>C7 (e+1) λw=>match D5 a c with
    |some v=>some (.tup [v,.stp (O J)],(J.set r (.map s c w)).new (.stamp r w a))
    |none=>some (.tup [U,.stp (O J)],(J.set r (.map s (Nx a U c) w)).new (.stamp r w a))
   |false=>none
  |_=>none
 |_,_=>none
def Mf(y:TI)(m f v:I)(J:F):bW:=match m,f with
 |.mp r,.stp a=>match J.get a,J.get r with
  |some (.stamp e w c),some (.map d b g)=>match Nat.beq r e&&Nat.beq w g&&Je y v with
   |true=>match D5 c b with
    |some _=>C7 (w+1) λw=>some (An,J.set r (.map d (Ph c v b) w))
    |none=>none
   |false=>none
  |_,_=>none
 |_,_=>none
def yI(x:I)(J:F):bW:=match x with
 |.nil (.map none)=>some (.it (O J),J.new (.iter none 0 [] none))
 |.mp r=>match J.get r with
  |some (.map _ b a)=>some (.it (O J),J.new (.iter (some r) a b none))
  |_=>none
 |_=>none
def tT(x:I)(J:F):bW:=match x with
 |.it a=>match J.get a with
  |some (.iter (some r) c _ (some (k,v)))=>match J.get r with
   |some (.map _ _ b)=>cond (Nat.beq c b) (some (.tup [T2 k,v],J)) none
   |_=>none
  |_=>none
 |_=>none
def Nc(i:Nat)(x:I)(J:F):bW:=match x with
 |.tup a=>match a[i]? with
  |some v=>some (v,J)
  |none=>none
 |_=>none
def Zr(t:Nat)(U:Option I)(a:Bool)(x:I)(J:F):bW:=match x with
 |.ifc b v=>match Nat.beq b t with
  |true=>some (nh a v true,J)
  |false=>match a,U with|true,some U=>some (.tup [U,.bool false],J)|_,_=>none
 |.nil .nilIface=>match a,U with|true,some U=>some (.tup [U,.bool false],J)|_,_=>none
 |_=>none
def nK(x:I)(J:F):bW:=match x with
 |.sr _ _ _ a _=>some (.int .i64 (.ofNat a),J)
 |.sv _ _ a _=>some (.int .i64 (.ofNat a),J)
 |.nil (.slice none 0 0)=>some (.int .i64 0,J)
 |_=>none
def Zt(x:I)(J:F):bW:=match x with
 |.str l=>C7 l.length λn=>some (.int .i64 (.ofNat n),J)
 |_=>none
def T6(x:I)(J:F):bW:=match x with
 |.mp r=>match J.get r with
  |some (.map _ a _)=>C7 a.length λn=>some (.int .i64 (.ofNat n),J)
  |_=>none
 |.nil (.map none)=>some (.int .i64 0,J)
 |_=>none
def Kj(x:I)(J:F):bW:=match x with
 |.sr _ _ _ _ (some q)=>some (.int .i64 (.ofNat q),J)
 |.sv _ _ _ (some q)=>some (.int .i64 (.ofNat q),J)
 |.nil (.slice none 0 0)=>some (.int .i64 0,J)
 |_=>none
def T7(P a:Nat)(d s:I)(J:F):bW:=match lenA s with
 |some n=>match F9 J P s n with
  |some b=>B6 J P a d n b
  |none=>none
 |none=>none
def T8(U:List I)(P a:Nat)(d s:I)(J:F):bW:=match s with
 |.int .i64 (.ofNat n)=>cond (Nat.ble (n*(a+1)) az) (B6 J P a d n (rep U n)) none
 |_=>none
def Q9(x:I)(J:F):bW:=match x with
 |.mp r=>match J.get r with
  |some (.map b _ a)=>C7 (a+1) λw=>some (An,J.set r (.map b [] w))
  |_=>none
 |.nil (.map none)=>some (An,J)
 |_=>none
def yv(U:List I)(P:Nat)(x:I)(J:F):bW:=match x with
 |.sr a c e b _=>match Nat.beq e P,J.cells a with
  |true,some f=>match Et f c (rep U b)with
   |some d=>some (An,J.set a (.cells d))
   |none=>none
  |_,_=>none
 |.nil (.slice none 0 0)=>some (An,J)
 |.sv _ _ 0 _=>some (An,J)
 |_=>none
def yY (P : Nat) (d s : I) (J : F) : bW := match lenA d,lenA s with
 | some e,some f => match F9 J P s (Nat.min f e) with
  | some g => match d with
   | .sr a b h _ _ => match Nat.beq h P,J.cells a with
    | true,some i => match Et i b g with
     | some c => C7 (Nat.min f e) λn => some (.int .i64 (.ofNat n),J.set a (.cells c))
     | none => none
    | _,_ => none
   | .nil (.slice none 0 0) => some (.int .i64 0,J)
   | _ => none
  | none => none
 | _,_ => none
def HV(s:Nat)(b:Option aQ)(m:I)(J:F):bW:=match b,m with
 |some e,.mp r=>match J.get r with
  |some (.map a d c)=>match Nat.beq a s with
   |true=>C7 (c+1) λw=>some (An,J.set r (.map s (Adh e d) w))
   |false=>none
  |_=>none
 |some _,.nil (.map none)=>some (An,J)
 |_,_=>none
def xq(a b:Int):Int:=cond (T1 a b) a b
def Ll(a b:Int):Int:=cond (T1 b a) a b
def Xm(f:Int->Int->Int)(x y:I)(J:F):bW:=match x,y with
 |.int k a,.int c b=>cond (Ed k c) (some (.int k (f a b),J)) none
 |_,_=>none
def zr(x y U:I)(J:F):bW:=match x,y,U with
 |.int k a,.int e b,.int d c=>cond (Ed k e&&Ed k d) (some (.int k (Ll (Ll a b) c),J)) none
 |_,_,_=>none
def Ee(E:aZ)(b:Builtin)(v:TI)(p:List Nat)(x:I)(m:List I)(J:F):bW:=
 match b with
 |.len=>match v.desc with
  |.slice _=>nK x J
  |.string=>Zt x J
  |.map _ _=>T6 x J
  |.array n _=>some (.int .i64 (.ofNat n),J)
  |_=>none
 |.cap=>match v.desc with
  |.slice _=>Kj x J
  |_=>none
 |.clear=>match v.desc with
  |.map _ _=>Q9 x J
  |.slice e=>match Ay E.P e with
   |some a=>match a.zero with
    |some c=>match Nat.beq c.length a.size with
     |true=>yv c a.size x J
     |false=>none
    |none=>none
   |none=>none
  |_=>none
 |.append=>match v.desc,p,m with
  |.slice e,f::_,y::_=>match Ay E.P e,Ay E.P f with
   |some a,some g=>match a.zero with
    |some c=>match Nat.beq c.length a.size with
     |true=>match g.desc with
      |.slice _=>T7 a.size a.bytes x y J
      |.string=>T7 a.size a.bytes x y J
      |.int _=>T8 c a.size a.bytes x y J
      |_=>none
     |false=>none
    |none=>none
   |_,_=>none
  |_,_,_=>none
 |.copy=>match v.desc,m with
  |.slice e,y::_=>match Ay E.P e with
   |some a=>yY a.size x y J
   |none=>none
  |_,_=>none
 |.delete=>match v.desc,m with
  |.map d _,y::_=>HV d (D4 E.P d y) x J
  |_,_=>none
 |.min=>match m with
  |[y]=>Xm xq x y J
  |_=>none
 |.max=>match m with
  |[y]=>Xm Ll x y J
  |[y,c]=>zr x y c J
  |_=>none
 |_=>none
def Aw(E:aZ)(w:Op)(g:Tr I)(J:F):bW:=
 match w with
 |.move x=>pS (opd E g x) J
 |.assign x=>pS (opd E g x) J
 |.pick c a b=>sJ (opd E g c) (opd E g a) (opd E g b) J
 |.nilCheck x=>Jf (opd E g x) J
 |.alloc t=>match Ay E.P t with
  |some j=>match j.zero with|some q=>uA q J|none=>none
  |none=>none
 |.box t x=>match Ay E.P t with
  |some j=>mK j.size (opd E g x) J
  |none=>none
 |.build t p=>match Ay E.P t with
  |some j=>match j.zero,j.desc with
   |some q,.struct K=>match Q7 E.P K.toList,Js E.P E g K.toList p.toList with
    |true,some U=>M2 q U J
    |_,_=>none
   |some q,.array _ e=>match Ay E.P e with
    |some o=>M2 q (Is E g o.size p.toList) J
    |none=>none
   |_,_=>none
  |none=>none
 |.buildSlice t B p=>match Ay E.P t with
  |some j=>match j.desc with
   |.slice e=>match Ay E.P e with
    |some o=>match o.zero with
     |some q=>match Nat.ble (B*o.size) 16777216&&Nat.beq q.length o.size with
      |true=>Id q o.size B (E.byref e) (Is E g o.size p.toList) J
      |false=>none
     |none=>none
    |none=>none
   |_=>none
  |none=>none
 |.load t x=>match Ay E.P t with
  |some j=>Na j (opd E g x) J
  |none=>none
 |.store t x v=>match Ay E.P t with
  |some j=>Wc j.size (opd E g x) (opd E g v) J
  |none=>none
 |.binOp w t x y _=>Sx (Wb E.P w t (Cm x||Cm y) (opd E g x) (opd E g y)) J
 |.unOp w _ x=>Sx (yJ w (opd E g x)) J
 |.convert s d x=>match Ay E.P s,Ay E.P d with
  |some L,some X=>match X.desc with
   |.int k=>Pp k (opd E g x) J
   |.float k=>CR k (opd E g x) J
   |.string=>match L.desc with
    |.string=>T4 (opd E g x) J
    |.slice e=>match Ay E.P e with
     |some o=>match o.desc with
      |.int .u8=>Ny (opd E g x) J
      |_=>none
     |none=>none
    |_=>none
   |.slice e=>match L.desc,Ay E.P e with
    |.string,some o=>match o.desc with
     |.int .u8=>Kx (opd E g x) J
     |_=>none
    |_,_=>none
   |_=>none
  |_,_=>none
 |.makeInterface t x=>match Ay E.P t with
  |some j=>match j.desc with
   |.interface _=>none
   |_=>pZ t (opd E g x) J
  |none=>none
 |.makeFunc f first u=>yW f (opds E g first.toList) (opds E g u.toList) J
 |.makeMap t r=>match Ay E.P t with
  |some j=>match j.desc,r with
   |.map C _,none=>T5 C J
   |.map C _,some h=>We C (opd E g h) J
   |_,_=>none
  |none=>none
 |.makeSlice t l c=>match Ay E.P t with
  |some j=>match j.desc with
   |.slice e=>match Ay E.P e with
    |some o=>match o.zero with
     |some q=>match Nat.beq q.length o.size with
      |true=>Nz q o.size o.bytes (opd E g l) (opd E g c) J
      |false=>none
     |none=>none
    |none=>none
   |_=>none
  |none=>none
 |.slice t x P N Q=>match Ay E.P t with
  |some j=>match j.desc with
   |.string=>match Q with|none=>Nb (opd E g x) (opdO E g P) (opdO E g N) J|some _=>none
   |.slice e=>match Ay E.P e with
    |some o=>Lj o.size (opd E g x) (opdO E g P) (opdO E g N) (opdO E g Q) J
    |none=>none
   |.array n T=>match Ay E.P T with
    |some o=>Wf n o.size (opd E g x) (opdO E g P) (opdO E g N) (opdO E g Q) J
    |none=>none
   |_=>none
  |none=>none
 |.fieldAddr t x i=>match Ay E.P t with
  |some j=>match j.desc with
   |.struct K=>match K.toList[i]? with
    |some f=>match Ay E.P f.type with
     |some S=>match S.size with
      |0=>none
      |_+1=>xV f.offset (opd E g x) J
     |none=>none
    |none=>none
   |_=>none
  |none=>none
 |.field t x i=>match Ay E.P t with
  |some j=>match j.desc with
   |.struct K=>match K.toList[i]? with
    |some f=>match Ay E.P f.type with
     |some S=>vJ S f.offset (opd E g x) J
     |none=>none
    |none=>none
   |_=>none
  |none=>none
 |.indexAddr t x i=>match Ay E.P t with
  |some j=>match j.desc with
   |.slice e=>match Ay E.P e with
    |some o=>Gt o.size (opd E g x) (opd E g i) J
    |none=>none
   |.array B e=>match Ay E.P e with
    |some o=>E6 B o.size (opd E g x) (opd E g i) J
    |none=>none
   |_=>none
  |none=>none
 |.index t x i=>match Ay E.P t with
  |some j=>match j.desc with
   |.string=>Lc (opd E g x) (opd E g i) J
   |.array B e=>match Ay E.P e with
    |some o=>Le o B (opd E g x) (opd E g i) J
    |none=>none
   |_=>none
  |none=>none
 |.lookup t m k R=>match Ay E.P t with
  |some j=>match j.desc with
   |.map C G=>match Ay E.P G with
    |some o=>match Lh o with
     |some q=>Ky C (D4 E.P C (opd E g k)) q R (opd E g m) J
     |none=>none
    |none=>none
   |_=>none
  |none=>none
 |.mapUpdate t m k v=>match Ay E.P t with
  |some j=>match j.desc with
   |.map C G=>match Ay E.P G with
    |some o=>N1 C (D4 E.P C (opd E g k)) o (opd E g m) (opd E g v) J
    |none=>none
   |_=>none
  |none=>none
 |.mapEntry t m k=>match Ay E.P t with
  |some j=>match j.desc with
   |.map C G=>match Ay E.P G with
    |some o=>match Lh o with
     |some q=>Q8 C (D4 E.P C (opd E g k)) q (opd E g m) J
     |none=>none
    |none=>none
   |_=>none
  |none=>none
 |.entryStore t m W v=>match Ay E.P t with
  |some j=>match j.desc with
   |.map _ G=>match Ay E.P G with
    |some o=>Mf o (opd E g m) (opd E g W) (opd E g v) J
    |none=>none
   |_=>none
  |none=>none
 |.range t x=>match Ay E.P t with
  |some j=>match j.desc with
   |.map _ _=>yI (opd E g x) J
   |_=>none
  |none=>none
 |.entry x=>tT (opd E g x) J
 |.extract x i=>Nc i (opd E g x) J
 |.typeAssert x _ t R=>match Ay E.P t with
  |some j=>match j.desc with
   |.interface _=>none
   |_=>Zr t (Lh j) R (opd E g x) J
  |none=>none
 |.call c=>match c.callee with
  |.builtin b=>match c.argTypes.toList,c.args.toList with
   |t::L,x::xs=>match Ay E.P t with
    |some j=>Ee E b j L (opd E g x) (opds E g xs) J
    |none=>none
   |_,_=>none
  |_=>none
 |_=>none
inductive EI where
 |pure|read|eff
 deriving DecidableEq
def Bc(E:aZ):Op->EI
 |.move _|.assign _|.pick .. |.nilCheck _|.build .. |.fieldAddr .. |.field .. |.indexAddr .. |.index .. |.binOp .. |.unOp .. |.makeInterface .. |.makeFunc .. |.extract .. |.typeAssert .. =>.pure
 |.slice t _ _ _ _=>match Ay E.P t with
  |some a=>match a.desc with
   |.array _ _=>.read
   |_=>.pure
  |none=>.read
 |.load .. |.lookup .. |.entry _|.convert .. =>.read
 |.buildSlice t _ _=>match Ay E.P t with
  |some a=>match a.desc with
   |.slice e=>match E.byref e with|true=>.eff|false=>.pure
   |_=>.eff
  |none=>.eff
 |.call c=>match c.callee with
  |.builtin .len=>.read
  |.builtin .cap=>.pure
  |.builtin .min=>.pure
  |.builtin .max=>.pure
  |.value (.func f)=>match E.pu f with|true=>.pure|false=>.eff
  |_=>.eff
 |_=>.eff
def Ks:Nat:=4294967295
def Ka(d:Option Nat)(n:Tr I)(a:Nat)(v:I):Option (Tr I):=
 match d with
 |none=>some n
 |some d=>cond (Nat.blt d a) (Ty (n.put (d+1) d (some v)) some) none
def GV(a b:Value):Bool:=
 match a,b with
 |.pointer none,.pointer none=>true
 |.slice none 0 0,.slice none 0 0=>true
 |.map none,.map none=>true
 |.nilFunc,.nilFunc=>true
 |.nilIface,.nilIface=>true
 |_,_=>false
def GX:Fn->Fn->Bool
 |.func a,.func b=>Nat.beq a b
 |_,_=>false
def kW(a b:Option Nat):Bool:=match a,b with|none,none=>true|some x,some y=>Nat.beq x y|_,_=>false
mutual
def I.beq:I->I->Bool
 |.any,.any=>true
 |.bool a,.bool b=>cond a b (!b)
 |.int k a,.int k' b=>Ed k k'&&Tz a b
 |.str a,.str b=>Fm a b
 |.nil a,.nil b=>GV a b
 |.pr a o,.pr b p=>Nat.beq a b&&Nat.beq o p
 |.pv l,.pv m=>I.beqs l m
 |.sr a o s n c,.sr b p t m d=>Nat.beq a b&&Nat.beq o p&&Nat.beq s t&&Nat.beq n m&&kW c d
 |.sv l s n c,.sv m t k d=>I.beqs l m&&Nat.beq s t&&Nat.beq n k&&kW c d
 |.mp a,.mp b=>Nat.beq a b
 |.it a,.it b=>Nat.beq a b
 |.stp a,.stp b=>Nat.beq a b
 |.yl a,.yl b=>Nat.beq a b
 |.flt k a,.flt k' b=>decide (k=k')&&Nat.beq a b
 |.fn f a b,.fn h c d=>GX f h&&I.beqs a c&&I.beqs b d
 |.ifc t a,.ifc u b=>Nat.beq t u&&I.beq a b
 |.agg l,.agg m=>I.beqs l m
 |.tup l,.tup m=>I.beqs l m
 |_,_=>false
def I.beqs:List I->List I->Bool
 |[],[]=>true
 |x::r,y::s=>I.beq x y&&I.beqs r s
 |_,_=>false
end
def I.join(a b:I):I:=cond (I.beq a b) a .any
def LU:List I->List I->Option (List I)
 |[],[]=>some []
 |x::r,y::s=>match LU r s with|some l=>some (I.join x y::l)|none=>none
 |_,_=>none
def JW:List (aQ×I)->List (aQ×I)->Option (List (aQ×I))
 |[],[]=>some []
 |(k,x)::r,(l,y)::s=>cond (aQ.eq k l) (match JW r s with|some t=>some ((k,I.join x y)::t)|none=>none) none
 |_,_=>none
def uE:AO->AO->Option AO
 |.cells a,.cells b=>match LU a b with|some l=>some (.cells l)|none=>none
 |.map k a v,.map l b w=>cond (Nat.beq v w&&Nat.beq k l) (match JW a b with|some l=>some (.map k l v)|none=>none) none
 |_,_=>none
def Aah:Tr I->Tr I->Tr I
 |.n (some x) l r,.n (some y) a b=>.n (some (I.join x y)) (Aah l a) (Aah r b)
 |.n _ l r,.n _ a b=>.n none (Aah l a) (Aah r b)
 |_,_=>.e
def Pq:Tr AO->Tr AO->Tr AO
 |.n (some x) l r,.n (some y) a b=>.n (uE x y) (Pq l a) (Pq r b)
 |.n _ l r,.n _ a b=>.n none (Pq l a) (Pq r b)
 |_,_=>.e
def V2(a b:F):Option F:=cond (Nat.beq a.next b.next) (some ⟨Pq a.objs b.objs,a.next⟩) none
def JB(a b:St):Option St:=
 match a.df,b.df with
 |[],[]=>cond (Nat.beq a.nt b.nt) (match V2 a.sto b.sto with|some J=>some ⟨Aah a.tm b.tm,a.nt,[],J⟩|none=>none) none
 |_,_=>none
def XE.beq:XE->XE->Bool
 |.normal,.normal=>true
 |.exit a,.exit b=>Nat.beq a b
 |.ret,.ret=>true
 |_,_=>false
def Ra:Op->Bool
 |.defer _=>true
 |_=>false
def D6(l:List Oper):Bool:=l.all λo=> !Ra o.op
def Ln:Code->Bool
 |.region _ c _=>D6 c.toList
 |.seq a b=>Ln a&&Ln b
 |.cond _ a b=>Ln a&&Ln b
 |.block _ a=>Ln a
 |.loop a=>Ln a
 |.scope a=>Ln a
 |_=>true
def Bn(G:List Oper)(o:Oper)(n:Tr I):Option Bool:=
 match o.guard with
 |none=>some true
 |some (j,a)=>match G[j]? with
  |some c=>match c.dst with
   |some d=>match n.get d with
    |some (.bool b)=>some (cond b a (!a))
    |some .any=>none
    |some _=>some false
    |none=>none
   |none=>none
  |none=>none
def Rb(v:I)(J:List I):Option (Nat×List I):=
 match v with
 |.fn (.func k) first a=>some (k,first++J++a)
 |_=>none
def EE(E:aZ)(t:Nat)(a:String)(v:I)(J:F):Option (Nat×I):=
 match E.P.info? t with
 |some i=>match i.methods.find? (·.name==a)with
  |some m=>match m.path.toList with
   |[]=>match m.func with
    |some (f,b)=>match E.P.underlying t with
     |some d=>match d with
      |.pointer e=>match b with
       |true=>some (f,v)
       |false=>match Ay E.P e with
        |some c=>match Na c v J with
         |some (u,_)=>some (f,u)
         |none=>none
        |none=>none
      |_=>match b with
       |true=>none
       |false=>some (f,v)
     |none=>none
    |none=>none
   |_=>none
  |none=>none
 |none=>none
def bB(E:aZ)(w:Op)(R:bP)(n:Tr I)(J:F):bW:=
 match w with
 |.call c=>match c.callee with
  |.value v=>match opd E n v with
   |.yl a=>R (.yl a) (opds E n c.args.toList) J
   |u=>match Rb u (opds E n c.args.toList)with
    |some (k,b)=>R (.fn k) b J
    |none=>none
  |.invoke x d=>match opd E n x with
   |.ifc t v=>match EE E t d v J with
    |some (f,e)=>R (.fn f) (e::opds E n c.args.toList) J
    |none=>none
   |_=>none
  |_=>Aw E (.call c) n J
 |w=>Aw E w n J
def Yi(E:aZ)(G:List Oper)(o:Oper)(R:bP)(s:St):Option St:=
 match Bn G o s.tm with
 |some true=>match o.op with
  |.defer c=>match c.callee,o.dst with
   |.value v,none=>match Rb (opd E s.tm v) (opds E s.tm c.args.toList)with
    |some b=>cond (Nat.beq b.1 Ks) none (some ⟨s.tm,s.nt,b::s.df,s.sto⟩)
    |none=>none
   |_,_=>none
  |d=>match bB E d R s.tm s.sto with
   |some (v,J)=>match Ka o.dst s.tm s.nt v with
    |some a=>some ⟨a,s.nt,s.df,J⟩
    |none=>none
   |none=>none
 |some false=>match Ka o.dst s.tm s.nt An with
  |some a=>some ⟨a,s.nt,s.df,s.sto⟩
  |none=>none
 |none=>none
def EC(J:F)(m:Option Nat)(a:Nat):Bool:=
 match m with
 |none=>true
 |some r=>match J.get r with|some (.map _ _ v)=>Nat.beq v a|_=>false
structure iL where
 cls:EI
 lo:Nat
 hi:Nat
def B5:EI->Bool
 |.eff=>true
 |_=>false
def A8(E:aZ):List Oper->Nat->List Nat
 |[],_=>[]
 |o::r,i=>match B5 (Bc E o.op)with
  |true=>i::A8 E r (i+1)
  |false=>A8 E r (i+1)
def Mg(b:List Nat):List Nat->Bool
 |[]=>true
 |i::r=>match r with
  |[]=>true
  |j::s=>(b.getD j 0).testBit i&&Mg b (j::s)
def Bl(p:Nat->Bool):List Nat->Nat
 |[]=>0
 |i::r=>match p i with|true=>Bl p r+1|false=>0
def Kb(E:aZ)(b a:List Nat):List Oper->Nat->List iL
 |[],_=>[]
 |o::r,i=>C7 (Bl (λe=>(b.getD i 0).testBit e) a) λd=>
   C7 (Bl (λe=> !(b.getD e 0).testBit i) a) λc=>
   match Bc E o.op with
   |.pure=>⟨.pure,d,c⟩::Kb E b a r (i+1)
   |.read=>⟨.read,d,c⟩::Kb E b a r (i+1)
   |.eff=>⟨.eff,d,c⟩::Kb E b a r (i+1)
def Eu(G:Array Oper)(b:List Nat):Bool:=
 (List.range G.size).all λj=>(List.range j).all λi=>(b.getD j 0).testBit i||match G[i]?,G[j]? with
  |some x,some y=>Oper.apart G x y
  |_,_=>true
def Fo(G:Array Oper):Bool:=
 (List.range G.size).all λj=>match G[j]? with
  |some o=>o.after.all λe=> !Region.binds .any e||decide (e.on<j)
  |none=>true
def Lo(E:aZ)(G:Array Oper):Option (List iL):=
 let b:=(Region.before G).toList
 let a:=A8 E G.toList 0
 match Eu G b&&Fo G&&Mg b a&&Region.noSelect G with
 |true=>some (Kb E b a G.toList 0)
 |false=>none
structure DS where
 s:St
 eps:List F
 log:List (Tr I×I)
def Rc(E:aZ)(G:List Oper)(o:Oper)(R:bP)(d:DS):Option DS:=
 match Bn G o d.s.tm with
 |some true=>match bB E o.op R d.s.tm d.s.sto with
  |some (v,J)=>match Ka o.dst d.s.tm d.s.nt v with
   |some a=>match B5 (Bc E o.op)with
    |true=>some ⟨⟨a,d.s.nt,d.s.df,J⟩,J::d.eps,(d.s.tm,v)::d.log⟩
    |false=>some ⟨⟨a,d.s.nt,d.s.df,d.s.sto⟩,d.eps,(d.s.tm,v)::d.log⟩
   |none=>none
  |none=>none
 |some false=>match Ka o.dst d.s.tm d.s.nt An with
  |some a=>match B5 (Bc E o.op)with
   |true=>some ⟨⟨a,d.s.nt,d.s.df,d.s.sto⟩,d.s.sto::d.eps,(d.s.tm,An)::d.log⟩
   |false=>some ⟨⟨a,d.s.nt,d.s.df,d.s.sto⟩,d.eps,(d.s.tm,An)::d.log⟩
  |none=>none
 |none=>none
def T9(E:aZ)(G:List Oper)(R:bP):List Oper->DS->Option DS
 |[],d=>some d
 |o::r,d=>match Rc E G o R d with
  |some a=>T9 E G R r a
  |none=>none
def steady(E:aZ)(G:List Oper)(o:Oper)(n:Tr I)(v:I)(l:List F):Bool:=
 match Bn G o n with
 |some true=>l.all λJ=>match Aw E o.op n J with
  |some (u,_)=>I.beq u v
  |none=>false
 |_=>true
def Sz(b c a:List Nat)(k:Nat):Bool:=c.all λe=>match a.contains e with
 |true=> !(b.getD e 0).testBit k
 |false=> !(b.getD k 0).testBit e
structure Nd where
 D:List Nat
 J:F
 aC:List (Nat×I)
def iI(t:List (Nat×I))(a:Nat->I)(k:Nat):I:=match t with
 |[]=>a k
 |(p,v)::_=>if k=p then v else a k
abbrev NL:=List (Nd×List Nat)
def Adi(c:Nat):List Oper->List I->Tr I->Option (List (Tr I))
 |[],[],a=>some [a]
 |o::r,v::d,a=>match Ka o.dst a c v with
  |some b=>match Adi c r d b with
   |some l=>some (a::l)
   |none=>none
  |none=>none
 |_,_,_=>none
def nR(E:aZ)(G:List Oper)(R:bP)(o:Oper)(n:Tr I)(J:F):bW:=match Bn G o n with
 |some true=>bB E o.op R n J
 |_=>none
def N2(E:aZ)(G:List Oper)(R:bP)(T:Nat->Tr I)(f:Nat->I)(i j:Nat)(k:List Nat)(J:F):Option (NL×F):=
 match G[i]?,G[j]? with
 |some h,some g=>match nR E G R h (T i) J,nR E G R g (T j) J with
  |some (l,c),some (m,d)=>match h.op,g.op with
   |.makeSlice _ _ _,.makeSlice _ _ _=>match l,m with
    |.sr _ _ s q o,.sr _ _ t r p=>match c.get (O J),d.get (O J)with
     |some (.cells n),some (.cells B)=>
      cond (!Nat.beq i j&&I.beq (f i) (.sr (O J+2) 0 s q o)&&I.beq (f j) (.sr (O J+3) 0 t r p))
       (some ([(⟨k,J,[]⟩,[i,j]),(⟨i::k,c,[(i,l)]⟩,[j]),(⟨j::k,d,[(j,m)]⟩,[i])],((((c.new (.cells B)).kill (O J)).kill (O J+1)).new (.cells n)).new (.cells B))) none
     |_,_=>none
    |_,_=>none
   |.store _ x _,.store _ y _=>match opd E (T i) x,opd E (T j) y with
    |.pr a _,.pr b _=>cond (!Nat.beq i j&& !Nat.beq a b&&I.beq (f i) An&&I.beq (f j) An)
      (match nR E G R g (T j) c with
       |some (_,e)=>some ([(⟨k,J,[]⟩,[i,j]),(⟨i::k,c,[]⟩,[j]),(⟨j::k,d,[]⟩,[i])],e)
       |none=>none) none
    |_,_=>none
   |_,_=>none
  |_,_=>none
 |_,_=>none
def Ps(E:aZ)(G:List Oper)(R:bP)(T:Nat->Tr I)(b:Nat->I)(e:Nat)(J:F):Option F:=
 match G[e]? with
 |some o=>match nR E G R o (T e) J with
  |some (v,a)=>cond (I.beq (b e) v) (some a) none
  |none=>none
 |none=>none
def Ne(E:aZ)(G:List Oper)(R:bP)(T:Nat->Tr I)(d:Nat->I)(b:List Nat):List Nat->List Nat->F->Option (NL×Nd)
 |[],a,J=>some ([],⟨a,J,[]⟩)
 |[e],a,J=>match Ps E G R T d e J with
  |some c=>some ([(⟨a,J,[]⟩,[e])],⟨e::a,c,[]⟩)
  |none=>none
 |e::j::r,a,J=>match(b.getD j 0).testBit e with
  |true=>match Ps E G R T d e J with
   |some c=>match Ne E G R T d b (j::r) (e::a) c with
    |some (m,f)=>some ((⟨a,J,[]⟩,[e])::m,f)
    |none=>none
   |none=>none
  |false=>match N2 E G R T d e j a J with
   |some (l,c)=>match Ne E G R T d b r (j::e::a) c with
    |some (m,f)=>some (l++m,f)
    |none=>none
   |none=>none
def Lp(E:aZ)(G:List Oper)(R:bP)(T:Nat->Tr I)(a:Nat->I)(J:F)(k:Nat):Bool:=match G[k]? with
 |none=>true
 |some o=>match Bn G o (T k)with
  |some true=>match bB E o.op R (T k) J with
   |some (v,_)=>I.beq v (a k)
   |none=>false
  |some false=>I.beq (a k) An
  |none=>false
def zu(b:List Nat)(t:List (Nat×I))(k:Nat):Bool:=match t with
 |[]=>true
 |(p,_)::_=> !(b.getD k 0).testBit p
def Hm(E:aZ)(G:List Oper)(R:bP)(T:Nat->Tr I)(c:Nat->I)(b a:List Nat)(x:Nd×List Nat):Bool:=
 (a.all λe=>x.1.D.contains e|| !Sz b a x.1.D e||x.2.contains e)&&
 (List.range G.length).all λk=>x.1.D.contains k|| !Sz b a x.1.D k||(zu b x.1.aC k&&(a.contains k||Lp E G R T c x.1.J k))
def Rd(E:aZ)(G:Array Oper)(R:bP)(s:St)(b:List I):Option St:=
 match Adi s.nt G.toList b s.tm with
 |none=>none
 |some a=>match Eu G (Region.before G).toList&&Fo G with
  |false=>none
  |true=>match Ne E G.toList R (λk=>a.getD k .e) (λk=>b.getD k .any) (Region.before G).toList (A8 E G.toList 0) [] s.sto with
   |none=>none
   |some (d,c)=>cond ((d++[(c,[])]).all (Hm E G.toList R (λk=>a.getD k .e) (λk=>b.getD k .any) (Region.before G).toList (A8 E G.toList 0))&&
      d.all λx=>(A8 E G.toList 0).any λe=> !x.1.D.contains e)
     (some ⟨a.getD G.size .e,s.nt,s.df,c.J⟩) none
def uO(P:Program)(n:Tr I)(J:F):ResultVar->Option I
 |.tmp t=>n.get t
 |.cell a t=>match Ay P t with
  |some d=>match n.get a with
   |some (.pr b c)=>match J.cells b with
    |some e=>Ff d (e.drop c)
    |none=>none
   |_=>none
  |none=>none
def Ahw(P:Program)(n:Tr I)(J:F):List ResultVar->Option (List I)
 |[]=>some []
 |r::a=>match uO P n J r,Ahw P n J a with
  |some v,some l=>some (v::l)
  |_,_=>none
def pW:List I->I
 |[v]=>v
 |a=>.tup a
def Kz:List I->Nat->Tr I->Tr I
 |[],_,t=>t
 |x::r,i,t=>Kz r (i+1) (t.put (i+1) i (some x))
def F.bump(J:F):F:=match J with|⟨t,n⟩=>C7 (n+1) λn=>⟨t,n⟩
def H2:XE->LS
 |.normal=>.ready
 |x=>.done x
def Iu:XE->Bool
 |.normal=>true
 |_=>false
def Jt(b:Nat):List (Nat×List I)->Bool
 |[]=>true
 |(k,[.yl _,.yl a])::r=>Nat.beq k Ks&&Nat.beq a b&&Jt b r
 |_=>false
end Go.AM

