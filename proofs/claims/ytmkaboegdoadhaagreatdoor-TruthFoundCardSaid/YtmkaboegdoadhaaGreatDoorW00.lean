/- A part of the proof; shortened by program. -/
import Derived.Orders
import Derived.Wp
import Derived.Laws.Sem
import Derived.Laws.Strings
import Derived.IntWalk
import Derived.ChangeKeysEq
import Derived.Laws.StructEq
import Derived.Laws.Tables
import Derived.Laws.Append
import Derived.MapKept
set_option maxRecDepth 100000
set_option maxHeartbeats 4000000
set_option linter.unusedSimpArgs false
set_option linter.unusedVariables false
namespace Go.AM
open Go
theorem nl{n:Nat}:n<=n:=Nat.le_refl n
theorem Om{p:Prop}(h:p:=by omega):p:=h
theorem gr{p:Prop}(h:p:=by grind):p:=h
abbrev ab_:=@List.mem_of_getElem?
abbrev ac_:=@Nat.eq_of_beq_eq_true
abbrev ad_:=@Bool.and_eq_true
abbrev ae_:=@List.getElem?_eq_some_iff
abbrev af_:=@Option.some.injEq
abbrev ah_:=@List.drop_eq_nil_of_le
abbrev ai_:=@Nat.le_trans
abbrev aj_:=@List.mem_cons_of_mem
abbrev ak_:=@Nat.lt_of_lt_of_le
abbrev al_:=@Nat.le_of_ble_eq_true
abbrev an_:=@List.mem_cons
abbrev ao_:=@List.mem_singleton
abbrev ap_:=@List.mem_cons_self
abbrev aq_:=@Nat.zero_le
abbrev ar_:=@Nat.ble_eq_true_of_le
abbrev as_:=@List.length_cons
abbrev at_:=@List.take_of_length_le
abbrev au_:=@List.mem_iff_getElem?
abbrev av_:=@Bool.eq_false_or_eq_true
abbrev aw_:=@Nat.beq_refl
abbrev ay_:=@List.cons_append
abbrev az_:=@List.getElem?_eq_getElem
abbrev b_:=@List.all_eq_true
abbrev ba_:=@Prod.mk.injEq
abbrev bb_:=@List.mem_append
abbrev bc_:=@Array.getElem?_eq_some_iff
abbrev bd_:=@List.nil_append
abbrev be_:=@Bool.and_self
abbrev bg_:=@Option.isSome_iff_exists
abbrev bh_:=@List.append_nil
abbrev bi_:=@Bool.not_eq_true'
abbrev bj_:=@List.drop_eq_getElem_cons
abbrev bk_:=@Bool.or_eq_true
abbrev bl_:=@Nat.lt_succ_self
abbrev bm_:=@Int.ofNat_le
abbrev bn_:=@Nat.zero_add
abbrev bo_:=@Array.getD_eq_getD_getElem?
abbrev bp_:=@Bool.false_eq_true
abbrev bq_:=@List.pairwise_cons
abbrev br_:=@List.getElem?_map
abbrev bs_:=@List.flatMap_cons
abbrev bt_:=@List.mem_map
abbrev bu_:=@Int.ofNat_eq_natCast
abbrev bv_:=@Bool.or_eq_false_iff
abbrev bw_:=@Array.getElem?_toList
abbrev bx_:=@List.length_append
abbrev by_:=@Option.some.inj
abbrev bz_:=@Bool.eq_false_iff
abbrev c_:=@Array.toList_map
abbrev ca_:=@List.append_assoc
abbrev cb_:=@List.length_take
abbrev cc_:=@List.take_append_drop
abbrev cd_:=@Array.length_toList
abbrev ce_:=@List.eq_nil_of_length_eq_zero
abbrev cg_:=@List.getElem?_append_left
abbrev ci_:=@Int.ofNat.inj
abbrev cj_:=@List.range'_succ
abbrev cl_:=@List.not_mem_nil
abbrev cm_:=@List.mem_of_mem_take
abbrev cn_:=@List.map_cons
abbrev co_:=@List.map_append
abbrev cp_:=@List.mem_filter
abbrev cq_:=@List.getElem?_cons_succ
abbrev cr_:=@Array.getElem?_setIfInBounds_ne
abbrev cs_:=@List.all_cons
abbrev ct_:=@List.foldl_cons
abbrev cu_:=@List.length_nil
abbrev cv_:=@Array.toList_append
abbrev cw_:=@List.mem_range
abbrev cx_:=@List.length_map
abbrev cy_:=@Option.map_eq_some_iff
abbrev d_:=@List.reverse_cons
abbrev da_:=@List.flatMap_append
abbrev db_:=@List.drop_zero
abbrev dc_:=@List.length_set
abbrev de_:=@Nat.eq_zero_or_pos
abbrev df_:=@Bool.not_eq_false'
abbrev dg_:=@List.mem_append_left
abbrev dh_:=@List.any_cons
abbrev dk_:=@List.nodup_nil
abbrev dl_:=@List.cons.injEq
abbrev dm_:=@Nat.le_succ
abbrev do_:=@List.getElem?_append_right
abbrev dp_:=@List.length_drop
abbrev dq_:=@Array.getElem?_modify
abbrev dr_:=@List.range_eq_range'
abbrev ds_:=@Option.map_some
abbrev dt_:=@List.nodup_append
abbrev du_:=@Nat.min_eq_left
abbrev dv_:=@List.any_eq_false
abbrev dw_:=@Nat.zero_mul
abbrev dy_:=@List.reverse_nil
abbrev e_:=@List.any_eq_true
abbrev ea_:=@List.getElem?_take
abbrev eb_:=@List.append_of_mem
abbrev ed_:=@List.nodup_cons
abbrev ee_:=@List.length_filter_le
abbrev ef_:=@Nat.le_of_eq
abbrev ei_:=@Int.toNat_natCast
abbrev ek_:=@Array.getElem?_append_left
abbrev el_:=@Nat.mul_le_mul_right
abbrev em_:=@Array.getElem?_eq_getElem
abbrev eo_:=@List.drop_drop
abbrev ep_:=@List.drop_length
abbrev eq_:=@List.mem_map_of_mem
abbrev er_:=@List.filter_eq_self
abbrev es_:=@Nat.sub_zero
abbrev ev_:=@List.mem_singleton_self
abbrev ew_:=@Option.isSome_some
abbrev ey_:=@List.length_eq_zero_iff
abbrev ez_:=@Option.bind_eq_some_iff
abbrev f_:=@List.getElem?_set_self
abbrev fc_:=@Bool.not_false
abbrev fd_:=@Nat.add_zero
abbrev fe_:=@Array.eq_empty_of_size_eq_zero
abbrev fg_:=@List.mem_append_right
abbrev fh_:=@List.length_singleton
abbrev fi_:=@List.length_replicate
abbrev fj_:=@List.drop_append_of_le_length
abbrev fk_:=@List.flatMap_nil
abbrev fl_:=@List.mem_of_mem_drop
abbrev fm_:=@List.getElem?_set_ne
abbrev fq_:=@Bool.eq_iff_iff
abbrev fr_:=@Nat.mul_one
abbrev fs_:=@Array.toList_modify
abbrev fv_:=@Array.foldl_toList
abbrev fw_:=@Nat.succ_mul
abbrev fy_:=@List.filter_append
abbrev fz_:=@Nat.add_comm
abbrev g_:=@List.getElem?_drop
abbrev gb_:=@Nat.le_of_lt
abbrev gc_:=@Nat.lt_of_le_of_lt
abbrev gd_:=@List.drop_take
abbrev gl_:=@Bool.or_false
abbrev go_:=@Nat.mod_eq_of_lt
abbrev gp_:=@Option.getD_some
abbrev gq_:=@Option.bind_some
abbrev gr_:=@List.range'_zero
abbrev gs_:=@List.map_nil
abbrev gt_:=@Option.map_none
abbrev gw_:=@Int.natCast_mul
abbrev gx_:=@Ne.symm
abbrev gz_:=@Nat.not_lt_zero
abbrev h_:=@List.mapM_cons
abbrev ha_:=@Nat.add_mul
abbrev hb_:=@Nat.ble_eq
def C7{β:Type}(n:Nat)(k:Nat->β):β:=match n with|0=>k 0|m+1=>k (m+1)
theorem Ak{β}(n)(k:Nat->β):C7 n k=k n:=by cases n<;>rfl
inductive Tr (α:Type) where
 |e
 |n (v:Option α)(l r:Tr α)
def Tr.get{α:Type}:Tr α->Nat->Option α
 |.e,_=>none
 |.n v l r,k=>match k with
  |0=>v
  |k+1=>cond (Nat.beq (k%2) 0) (l.get (k / 2)) (r.get (k / 2))
def Tr.mkL{α:Type}(v:Option α)(l r:Tr α):Tr α:=match l with
 |.e=>.n v .e r
 |.n a b c=>.n v (.n a b c) r
def Tr.mkR{α:Type}(v:Option α)(l r:Tr α):Tr α:=match r with
 |.e=>.n v l .e
 |.n a b c=>.n v l (.n a b c)
def Tr.put{α:Type}:Nat->Tr α->Nat->Option α->Tr α
 |0,t,_,_=>t
 |f+1,.e,k,x=>match k with
  |0=>.n x .e .e
  |k+1=>cond (Nat.beq (k%2) 0) (Tr.mkL none (Tr.put f .e (k / 2) x) .e) (Tr.mkR none .e (Tr.put f .e (k / 2) x))
 |f+1,.n v l r,k,x=>match k with
  |0=>.n x l r
  |k+1=>cond (Nat.beq (k%2) 0) (Tr.mkL v (Tr.put f l (k / 2) x) r) (Tr.mkR v l (Tr.put f r (k / 2) x))
inductive AV where
 |any
 |bool (b:Bool)
 |int (k:IntKind)(n:Int)
 |str (l:List Nat)
 |nil (v:Value)
 |pr (a off:Nat)
 |pv (cs:List AV)
 |sr (a off sz len:Nat)(cap:Option Nat)
 |sv (cs:List AV)(sz len:Nat)(cap:Option Nat)
 |mp (r:Nat)
 |it (r:Nat)
 |stp (a:Nat)
 |yl (a:Nat)
 |flt (k:FloatKind)(bits:Nat)
 |fn (f:Fn)(first cap:List AV)
 |ifc (t:Nat)(v:AV)
 |agg (cs:List AV)
 |tup (vs:List AV)
 deriving Inhabited
def Xl:Value->Bool
 |.pointer none|.slice none 0 0|.map none|.nilFunc|.nilIface=>true
 |_=>false
def B2(s:ByteArray):List Nat:=s.data.toList.map UInt8.toNat
def Af1{β:Type}:List Nat->(List Nat->β)->β
 |[],k=>k []
 |x::r,k=>C7 x fun x=>Af1 r fun r=>k (x::r)
def Yh(v:Value):AV:=
 match v with
 |.bool true=>.bool true
 |.bool false=>.bool false
 |.int k (.ofNat n)=>C7 n fun n=>.int k (.ofNat n)
 |.int k n=>.int k n
 |.string s=>Af1 (B2 s) .str
 |.float k n=>C7 n fun n=>.flt k n
 |v=>cond (Xl v) (.nil v) .any
def Akm:List Value->List AV
 |[]=>[]
 |v::r=>Yh v::Akm r
def Af2:Value->Bool
 |.bool _|.int _ _|.string _|.float _ _=>true
 |v=>Xl v
def Q5:List Value->Bool
 |[]=>true
 |v::r=>Af2 v&&Q5 r
def ofV(v:Value):AV:=
 match v with
 |.agg cs=>cond (Q5 cs.toList) (.agg (Akm cs.toList)) .any
 |.tuple vs=>.tup (Akm vs.toList)
 |.iface t x=>.ifc t (Yh x)
 |.func f a b=>cond (a.isEmpty&&b.isEmpty) (.fn f [] []) .any
 |v=>Yh v
def AV.cellsN(v:AV)(n:Nat):Option (List AV):=
 match v with
 |.any=>none
 |.tup _=>none
 |.agg cs=>cond (Nat.beq cs.length n) (some cs) none
 |v=>cond (Nat.beq n 1) (some [v]) none
inductive Key where
 |bool (b:Bool)
 |int (k:IntKind)(n:Int)
 |str (l:List Nat)
 |agg (cs:List Key)
inductive XE where
 |normal
 |exit (id:Nat)
 |ret
inductive LS where
 |ready
 |busy
 |done (x:XE)
inductive AO where
 |cells (vs:List AV)
 |map (kt:Nat)(es:List (Key×AV))(ver:Nat)
 |iter (m:Option Nat)(ver:Nat)(left:List (Key×AV))(cur:Option (Key×AV))
 |stamp (m ver:Nat)(k:Key)
 |loop (st:LS)
 deriving Inhabited
structure Sto where
 objs:Tr AO
 next:Nat
def nx(J:Sto):Nat:=match J with|⟨_,n⟩=>n
def Sto.get(J:Sto)(a:Nat):Option AO:=match J with|⟨o,_⟩=>o.get a
def Ty{α β:Type}(t:Tr α)(k:Tr α->β):β:=match t with|.e=>k .e|.n a b c=>k (.n a b c)
def Sto.set(J:Sto)(a:Nat)(o:AO):Sto:=match J with|⟨t,n⟩=>Ty (t.put (a+1) a (some o)) fun t=>⟨t,n⟩
def Sto.kill(J:Sto)(a:Nat):Sto:=match J with|⟨t,n⟩=>Ty (t.put (a+1) a none) fun t=>⟨t,n⟩
def Sto.new(J:Sto)(o:AO):Sto:=match J with|⟨t,n⟩=>Ty (t.put (n+1) n (some o)) fun t=>C7 (n+1) fun n=>⟨t,n⟩
def Sto.cells(J:Sto)(a:Nat):Option (List AV):=match J.get a with|some (.cells vs)=>some vs|_=>none
structure TI where
 desc:TypeDesc
 size:Nat
 bytes:Nat
 zero:Option (List AV)
 isAgg:Bool
def Mx:TypeDesc->Bool
 |.struct _|.array _ _=>true
 |_=>false
def Al3(agg:Bool)(z:Option Value):Option (List AV):=
 match z with
 |some z=>match z with
  |.agg cs=>match agg&&Q5 cs.toList with|true=>some (Akm cs.toList)|false=>none
  |v=>match !agg&&Af2 v with|true=>some [Yh v]|false=>none
 |none=>none
def Ay(P:Program)(t:Nat):Option TI:=
 match P.info? t,P.underlying t with
 |some i,some d=>some { desc:=d,size:=i.size,bytes:=i.bytes,zero:=Al3 (Mx d) i.zero,isAgg:=Mx d }
 |_,_=>none
abbrev Res:=Option (AV×Sto)
structure RF where
 aY:Nat
 tm:Tr AV
 nt:Nat
 ps:Array Tmp
 assign:Code
 body:Code
structure St where
 tm:Tr AV
 nt:Nat
 df:List (Nat×List AV)
 sto:Sto
inductive Tgt where
 |fn (f:Nat)
 |yl (a:Nat)
abbrev Hnd:=List AV->Sto->Res
abbrev Rec:=Tgt->Hnd
structure Env where
 P:Program
 gl:Nat->Option (List AV)
 sum:Nat->Option (List AV->Sto->Res)
 dsum:Nat->Option (List AV->Sto->Option Sto)
 byref:Nat->Bool
 hold:Nat->Option (Array Value->Prop):=fun _=>none
 loops:List RF:=[]
 rg:Nat->Bool:=fun _=>false
 pu:Nat->Bool:=fun _=>false
def Et:List AV->Nat->List AV->Option (List AV)
 |l,0,[]=>some l
 |_::r,0,x::xs=>match Et r 0 xs with|some l=>some (x::l)|none=>none
 |y::r,k+1,xs=>match Et r k xs with|some l=>some (y::l)|none=>none
 |_,_,_=>none
def Dr:Nat->List AV->Option (List AV)
 |0,_=>some []
 |n+1,x::r=>match Dr n r with|some l=>some (x::l)|none=>none
 |_+1,[]=>none
def rep(z:List AV):Nat->List AV
 |0=>[]
 |n+1=>z++rep z n
def Ff(ti:TI)(l:List AV):Option AV:=
 match ti.isAgg with
 |true=>match Dr ti.size l with|some cs=>some (.agg cs)|none=>none
 |false=>match l with|v::_=>some v|[]=>none
def Si:List AV->List (Nat×Nat×AV)->Option (List AV)
 |cs,[]=>some cs
 |cs,(off,size,v)::r=>match v.cellsN size with
  |some l=>match Et cs off l with
   |some cs'=>Si cs' r
   |none=>none
  |none=>none
def My:AV->Option Nat
 |.int _ (.ofNat n)=>some n
 |_=>none
def Lh(ti:TI):Option AV:=
 match ti.zero with
 |some z=>match ti.isAgg with|true=>some (.agg z)|false=>match z with|[v]=>some v|_=>none
 |none=>none
def Je(ti:TI)(v:AV):Bool:=match v with
 |.any=>false
 |.tup _=>false
 |.agg cs=>ti.isAgg&&Nat.beq cs.length ti.size
 |_=> !ti.isAgg
def Fm:List Nat->List Nat->Bool
 |[],[]=>true
 |x::r,y::s=>cond (Nat.beq x y) (Fm r s) false
 |_,_=>false
def C8:List Nat->List Nat->Bool
 |_,[]=>false
 |[],_::_=>true
 |a::x,b::y=>cond (Nat.blt a b) true (cond (Nat.beq a b) (C8 x y) false)
def Tz:Int->Int->Bool
 |.ofNat a,.ofNat b=>Nat.beq a b
 |.negSucc a,.negSucc b=>Nat.beq a b
 |_,_=>false
def T1:Int->Int->Bool
 |.ofNat a,.ofNat b=>Nat.ble a b
 |.negSucc a,.negSucc b=>Nat.ble b a
 |.negSucc _,.ofNat _=>true
 |.ofNat _,.negSucc _=>false
def Ed(a b:IntKind):Bool:=match a,b with
 |.i64,.i64=>true
 |.u8,.u8=>true
 |a,b=>decide (a=b)
mutual
def Key.eq:Key->Key->Bool
 |.bool a,.bool b=>cond a b (!b)
 |.int k a,.int k' b=>Ed k k'&&Tz a b
 |.str a,.str b=>Fm a b
 |.agg a,.agg b=>Key.eqs a b
 |_,_=>false
def Key.eqs:List Key->List Key->Bool
 |[],[]=>true
 |x::r,y::s=>cond (Key.eq x y) (Key.eqs r s) false
 |_,_=>false
end
mutual
def Key.lt:Key->Key->Bool
 |.bool a,.bool b=> !a&&b
 |.int _ a,.int _ b=> !T1 b a
 |.str a,.str b=>C8 a b
 |.agg a,.agg b=>Key.lts a b
 |_,_=>false
def Key.lts:List Key->List Key->Bool
 |x::r,y::s=>cond (Key.lt x y) true (cond (Key.eq x y) (Key.lts r s) false)
 |_,_=>false
end
def Akn(d:TypeDesc)(v:AV):Option Key:=
 match d,v with
 |.int j,.int k n=>cond (Ed j k) (some (.int k n)) none
 |.string,.str l=>some (.str l)
 |.bool,.bool b=>some (.bool b)
 |_,_=>none
def Z9(P:Program):List Field->List AV->Option (List Key)
 |[],[]=>some []
 |f::fs,v::vs=>match Ay P f.type with
  |some ti=>match Akn ti.desc v,Z9 P fs vs with
   |some k, some ks=>cond (f.name != "_" &&Nat.beq ti.size 1) (some (k::ks)) none
   |_,_=>none
  |none=>none
 |_,_=>none
def Jz:List Field->Nat->Bool
 |[],_=>true
 |f::fs,i=>Nat.beq f.offset i&&Jz fs (i+1)
def Aqg(P:Program)(fs:List Field)(v:AV):Option Key:=
 match v with
 |.agg cs=>match Z9 P fs cs with|some l=>some (.agg l)|none=>none
 |_=>none
def Ahu(d:TypeDesc):List AV->Option (List Key)
 |[]=>some []
 |v::vs=>match Akn d v,Ahu d vs with
  |some k,some ks=>some (k::ks)
  |_,_=>none
def Aqh(d:TypeDesc)(n:Nat)(v:AV):Option Key:=
 match v with
 |.agg cs=>match Nat.beq cs.length n&& !Nat.beq n 0 with
  |true=>match Ahu d cs with|some l=>some (.agg l)|none=>none
  |false=>none
 |_=>none
def D4(P:Program)(t:Nat)(v:AV):Option Key:=
 match Ay P t with
 |some ti=>match ti.desc with
  |.struct fs=>match Jz fs.toList 0&& !P.stoodInHeld t with
   |true=>Aqg P fs.toList v
   |false=>none
  |.array n e=>match Ay P e with
   |some te=>match Nat.beq te.size 1&& !te.isAgg with
    |true=>Aqh te.desc n v
    |false=>none
   |none=>none
  |d=>Akn d v
 |none=>none
def T2:Key->AV
 |.bool b=>.bool b
 |.int k n=>.int k n
 |.str l=>.str l
 |.agg cs=>.agg (cs.map fun|.bool b=>.bool b|.int k n=>.int k n|.str l=>.str l|.agg _=>.any)
def D5(k:Key):List (Key×AV)->Option AV
 |[]=>none
 |(k',v)::r=>cond (Key.eq k k') (some v) (D5 k r)
def Ph(k:Key)(v:AV):List (Key×AV)->List (Key×AV)
 |[]=>[]
 |(k',v')::r=>cond (Key.eq k k') ((k',v)::r) ((k',v')::Ph k v r)
def Nx(k:Key)(v:AV):List (Key×AV)->List (Key×AV)
 |[]=>[(k,v)]
 |(k',v')::r=>cond (Key.lt k k') ((k,v)::(k',v')::r) ((k',v')::Nx k v r)
def Adh(k:Key):List (Key×AV)->List (Key×AV)
 |[]=>[]
 |(k',v')::r=>cond (Key.eq k k') r ((k',v')::Adh k r)
def Ht{α:Type}:List α->List (α×List α)
 |[]=>[]
 |x::r=>(x,r)::(Ht r).map fun(y,s)=>(y,x::s)
def Li(len:Nat)(cap:Option Nat)(n:Nat):Bool:=cond (Nat.ble n len) true (match cap with|some q=>Nat.ble n q|none=>false)
def Mz(cap:Option Nat)(l:Nat):Option Nat:=match cap with|some q=>some (q-l)|none=>none
def Do(len:Nat)(cap:Option Nat)(lo hi mx:Option AV):Option (Nat×Nat×Option Nat):=
 match(match lo with|none=>some 0|some v=>My v),(match hi with|none=>some len|some v=>My v)with
 |some l,some h=>
  match mx with
  |none=>cond (Nat.ble l h&&Li len cap h) (some (l,h,Mz cap l)) none
  |some mv=>match My mv,hi with
   |some m,some _=>cond (Nat.ble l h&&Nat.ble h m&&Li len cap m) (some (l,h,some (m-l))) none
   |_,_=>none
 |_,_=>none
def Iq:List Nat->List AV
 |[]=>[]
 |b::r=>.int .u8 (.ofNat b)::Iq r
def Atz:List AV->Option (List Nat)
 |[]=>some []
 |.int .u8 (.ofNat n)::r=>match Atz r with|some l=>cond (Nat.blt n 256) (some (n::l)) none|none=>none
 |_=>none
def F9(J:Sto)(sz:Nat)(v:AV)(n:Nat):Option (List AV):=
 match v with
 |.sr a off _ _ _=>match J.cells a with|some vs=>Dr (n*sz) (vs.drop off)|none=>none
 |.sv cs _ _ _=>Dr (n*sz) cs
 |.nil (.slice none 0 0)=>match n with|0=>some []|_=>none
 |.str l=>match sz with|1=>Dr n (Iq l)|_=>none
 |_=>none
def lenA:AV->Option Nat
 |.sr _ _ _ len _=>some len
 |.sv _ _ len _=>some len
 |.nil (.slice none 0 0)=>some 0
 |.str l=>some l.length
 |_=>none
def sizeLim:Nat:=1099511627776
def Aaa:Nat:=9223372036854775807
def Ja(sz bytes n:Nat)(new old:List AV)(len:Nat)(J:Sto):Res:=
 cond (Nat.ble ((len+n)*(bytes+1)) sizeLim) (C7 (len+n) fun m=>some (.sr (nx J) 0 sz m none,J.new (.cells (old++new)))) none
def B6(J:Sto)(sz bytes:Nat)(d:AV)(n:Nat)(new:List AV):Res:=
 match n with
 |0=>match d with
  |.nil (.slice none 0 0)=>some (d,J)
  |.sv _ _ _ _=>some (d,J)
  |.sr _ _ _ _ _=>some (d,J)
  |_=>none
 |n'+1=>match d with
  |.nil (.slice none 0 0)=>Ja sz bytes (n'+1) new [] 0 J
  |.sv cs sz' len (some q)=>cond (Nat.beq sz' sz&& !Nat.ble (len+(n'+1)) q) (Ja sz bytes (n'+1) new cs len J) none
  |.sr a off sz' len cap=>cond (Nat.beq sz' sz)
    (match J.cells a with
    |none=>none
    |some vs=>match Dr (len*sz) (vs.drop off)with
     |none=>none
     |some old=>match cap with
      |some q=>match Nat.ble (len+(n'+1)) q with
       |true=>match Et vs (off+len*sz) new with
        |some vs'=>C7 (len+(n'+1)) fun m=>some (.sr a off sz m (some q),J.set a (.cells vs'))
        |none=>none
       |false=>Ja sz bytes (n'+1) new old len J
      |none=>Ja sz bytes (n'+1) new old len (J.kill a)) none
  |_=>none
def M0(k:IntKind):Int->Bool
 |.ofNat n=>match k with
  |.i64=>Nat.ble n 9223372036854775807
  |.u64=>Nat.ble n 18446744073709551615
  |.u8=>Nat.ble n 255
  |.i32=>Nat.ble n 2147483647
  |.u32=>Nat.ble n 4294967295
  |.i8=>Nat.ble n 127
  |.i16=>Nat.ble n 32767
  |.u16=>Nat.ble n 65535
 |.negSucc n=>match k with
  |.i64=>Nat.ble n 9223372036854775807
  |.i32=>Nat.ble n 2147483647
  |.i8=>Nat.ble n 127
  |.i16=>Nat.ble n 32767
  |_=>false
def Me(k:IntKind)(n:Int):AV:=
 match n with
 |.ofNat m=>C7 m fun m=>cond (M0 k (.ofNat m)) (.int k (.ofNat m)) (.int k (k.wrap (.ofNat m)))
 |.negSucc m=>C7 m fun m=>cond (M0 k (.negSucc m)) (.int k (.negSucc m)) (.int k (k.wrap (.negSucc m)))
def Ako:Int->Int->Int
 |.ofNat a,.ofNat b=>.ofNat (a+b)
 |a,b=>a+b
def Af3:Int->Int->Int
 |.ofNat a,.ofNat b=>cond (Nat.ble b a) (.ofNat (a-b)) (.ofNat a-.ofNat b)
 |a,b=>a-b
def Ic(op:BinOp)(k:IntKind)(a b:Int):Option AV:=
 match op with
 |.add=>some (Me k (Ako a b))
 |.sub=>some (Me k (Af3 a b))
 |.mul=>some (Me k (a*b))
 |.eql=>some (.bool (Tz a b))
 |.neq=>some (.bool (!Tz a b))
 |.leq=>some (.bool (T1 a b))
 |.lss=>some (.bool (!T1 b a))
 |.gtr=>some (.bool (!T1 a b))
 |.geq=>some (.bool (T1 b a))
 |.quo=>match a,b with
  |.ofNat a,.ofNat (b+1)=>some (Me k (.ofNat (a / (b+1))))
  |_,_=>none
 |.rem=>match a,b with
  |.ofNat a,.ofNat (b+1)=>C7 (a%(b+1)) fun m=>some (.int k (.ofNat m))
  |_,_=>none
 |_=>none
def T3(op:BinOp)(a b:List Nat):Option AV:=
 match op with
 |.eql=>some (.bool (Fm a b))
 |.neq=>some (.bool (!Fm a b))
 |.lss=>some (.bool (C8 a b))
 |.leq=>some (.bool (C8 a b||Fm a b))
 |.gtr=>some (.bool (!(C8 a b||Fm a b)))
 |.geq=>some (.bool (!C8 a b))
 |.add=>cond (Nat.ble (a.length+b.length) Aaa) (some (.str (a++b))) none
 |_=>none
def Pm(d:TypeDesc)(x y:AV):Bool:=
 match y with
 |.nil (.slice none 0 0)=>match d,x with|.slice _,.sr _ _ _ _ _=>true|.slice _,.sv _ _ (_+1) _=>true|_,_=>false
 |.nil (.pointer none)=>match d,x with|.pointer _,.pr _ _=>true|.pointer _,.pv _=>true|_,_=>false
 |.nil (.map none)=>match d,x with|.map _ _,.mp _=>true|_,_=>false
 |.nil .nilFunc=>match d,x with|.func _ _ _,.fn _ _ _=>true|_,_=>false
 |.nil .nilIface=>match d,x with|.interface _,.ifc _ _=>true|_,_=>false
 |_=>false
def Q6(d:TypeDesc)(x y:AV):Bool:=
 match d,x,y with
 |.slice _,.nil (.slice none 0 0),.nil (.slice none 0 0)=>true
 |.pointer _,.nil (.pointer none),.nil (.pointer none)=>true
 |.map _ _,.nil (.map none),.nil (.map none)=>true
 |.func _ _ _,.nil .nilFunc,.nil .nilFunc=>true
 |.interface _,.nil .nilIface,.nil .nilIface=>true
 |_,_,_=>false
def Ad7(d:TypeDesc)(x y:AV):Option Bool:=
 cond (Q6 d x y) (some true) (cond (Pm d x y||Pm d y x) (some false) none)
def Cm:Operand->Bool
 |.const _=>true
 |_=>false
def Pn(P:Program)(t:Nat)(x y:AV):Option Bool:=
 match x,y with
 |.agg l,.agg m=>match D4 P t (.agg l),D4 P t (.agg m)with
  |some a,some b=>some (Key.eq a b)
  |_,_=>none
 |_,_=>none
def Ir(P:Program)(ti:TI)(t:Nat)(cst:Bool)(x y:AV):Option Bool:=
 match cond cst (Ad7 ti.desc x y) none with
 |some b=>some b
 |none=>Pn P t x y
def isOrd(o:Option Ordering)(x:Ordering):Bool:=match o,x with
 |some .lt,.lt=>true
 |some .eq,.eq=>true
 |some .gt,.gt=>true
 |_,_=>false
def fltRes(k:FloatKind)(r:Option Nat):Option AV:=match r with|some n=>C7 n fun n=>some (.flt k n)|none=>none
def Aqi(op:BinOp)(k:FloatKind)(a b:Nat):Option AV:=none
def Wb(P:Program)(op:BinOp)(t:Nat)(cst:Bool)(x y:AV):Option AV:=
 match Ay P t with
 |some ti=>match x,y with
  |.int k a,.int k' b=>cond (Ed k k') (Ic op k a b) none
  |.str a,.str b=>T3 op a b
  |.flt k a,.flt k' b=>match decide (k=k')with|true=>Aqi op k a b|false=>none
  |.bool a,.bool b=>match op,ti.desc with
   |.eql,.bool=>some (.bool (cond a b (!b)))
   |.neq,.bool=>some (.bool (!cond a b (!b)))
   |_,_=>none
  |x,y=>match op with
   |.eql=>match Ir P ti t cst x y with
    |some b=>some (.bool b)
    |none=>none
   |.neq=>match Ir P ti t cst x y with
    |some b=>some (.bool (!b))
    |none=>none
   |_=>none
 |none=>none
def unA(op:UnOp)(x:AV):Option AV:=
 match op,x with
 |.not,.bool b=>some (.bool (!b))
 |.neg,.int k n=>some (Me k (Af3 0 n))
 |_,_=>none
def Po(x:AV)(n:Nat):Option AV:=
 match x with
 |.pr a off=>C7 (off+n) fun o=>some (.pr a o)
 |.pv cs=>some (.pv (cs.drop n))
 |_=>none
def opd(E:Env)(tm:Tr AV):Operand->AV
 |.tmp t=>match tm.get t with|some v=>v|none=>.any
 |.const v=>ofV v
 |.global g=>match E.gl g with|some cs=>.pv cs|none=>.any
 |.func f=>.fn (.func f) [] []
def opds(E:Env)(tm:Tr AV):List Operand->List AV
 |[]=>[]
 |x::r=>opd E tm x::opds E tm r
def opdO(E:Env)(tm:Tr AV):Option Operand->Option AV
 |none=>none
 |some x=>some (opd E tm x)
def Ad8(c a b:AV)(J:Sto):Res:=match c with
 |.bool true=>some (a,J)
 |.bool false=>some (b,J)
 |_=>none
def Jf(x:AV)(J:Sto):Res:=match x with
 |.pr a off=>some (.pr a off,J)
 |.pv cs=>some (.pv cs,J)
 |.fn (.func f) p q=>some (.fn (.func f) p q,J)
 |_=>none
def Aab(z:List AV)(J:Sto):Res:=some (.pr (nx J) 0,J.new (.cells z))
def sBox(size:Nat)(x:AV)(J:Sto):Res:=match x.cellsN size with
 |some cs=>some (.pr (nx J) 0,J.new (.cells cs))
 |none=>none
def Js(P:Program)(E:Env)(tm:Tr AV)(fs:List Field):List (Nat×Operand)->Option (List (Nat×Nat×AV))
 |[]=>some []
 |(i,x)::r=>match fs[i]?,Js P E tm fs r with
  |some f,some l=>match Ay P f.type with
   |some ti=>some ((f.offset,ti.size,opd E tm x)::l)
   |none=>none
  |_,_=>none
def Q7(P:Program):List Field->Bool
 |[]=>true
 |f::r=>match P.info? f.type with|some _=>Q7 P r|none=>false
def Is(E:Env)(tm:Tr AV)(size:Nat):List (Nat×Operand)->List (Nat×Nat×AV)
 |[]=>[]
 |(i,x)::r=>(i*size,size,opd E tm x)::Is E tm size r
def M2(z:List AV)(ps:List (Nat×Nat×AV))(J:Sto):Res:=match Si z ps with
 |some cs=>some (.agg cs,J)
 |none=>none
def Id(z:List AV)(size len:Nat)(byref:Bool)(ps:List (Nat×Nat×AV))(J:Sto):Res:=match Si (rep z len) ps with
 |some cs=>match byref with
  |true=>some (.sr (nx J) 0 size len (some len),J.new (.cells cs))
  |false=>some (.sv cs size len (some len),J)
 |none=>none
def Na(ti:TI)(x:AV)(J:Sto):Res:=match x with
 |.pr a off=>match J.cells a with
  |some vs=>match Ff ti (vs.drop off)with|some v=>some (v,J)|none=>none
  |none=>none
 |.pv cs=>match Ff ti cs with|some v=>some (v,J)|none=>none
 |_=>none
def An:AV:=.tup []
def Wc(size:Nat)(x v:AV)(J:Sto):Res:=match x,v.cellsN size with
 |.pr a off,some l=>match J.cells a with
  |some vs=>match Et vs off l with
   |some vs'=>some (An,J.set a (.cells vs'))
   |none=>none
  |none=>none
 |_,_=>none
def Sx(r:Option AV)(J:Sto):Res:=match r with|some v=>some (v,J)|none=>none
def Pp(k:IntKind)(x:AV)(J:Sto):Res:=match x with
 |.int _ n=>some (Me k n,J)
 |_=>none
def Aac(k:FloatKind)(x:AV)(J:Sto):Res:=none
def T4(x:AV)(J:Sto):Res:=match x with
 |.str l=>some (.str l,J)
 |_=>none
def Kx(x:AV)(J:Sto):Res:=match x with
 |.str l=>match l with
  |[]=>some (.sv [] 1 0 none,J)
  |l=>some (.sv (Iq l) 1 l.length none,J)
 |_=>none
def Ad9:AV->Bool
 |.str _=>false
 |_=>true
def Ny(x:AV)(J:Sto):Res:=none
def Aad(x:AV)(J:Sto):Res:=some (x,J)
def sIfc(t:Nat)(x:AV)(J:Sto):Res:=some (.ifc t x,J)
def Al4(f:Fn)(a b:List AV)(J:Sto):Res:=some (.fn f a b,J)
def T5(kt:Nat)(J:Sto):Res:=some (.mp (nx J),J.new (.map kt [] 0))
def We(kt:Nat)(x:AV)(J:Sto):Res:=match x with
 |.int _ _=>some (.mp (nx J),J.new (.map kt [] 0))
 |_=>none
def Nz(z:List AV)(size bytes:Nat)(l c:AV)(J:Sto):Res:=match l,c with
 |.int .i64 (.ofNat l),.int .i64 (.ofNat c)=>cond (Nat.ble l c&&Nat.ble (c*(bytes+1)) sizeLim)
   (some (.sr (nx J) 0 size l (some c),J.new (.cells (rep z c)))) none
 |_,_=>none
def Nb(x:AV)(lo hi:Option AV)(J:Sto):Res:=match x with
 |.str l=>match Do l.length (some l.length) lo hi none with
  |some (a,b,_)=>some (.str ((l.take b).drop a),J)
  |none=>none
 |_=>none
def Lj(size:Nat)(x:AV)(lo hi mx:Option AV)(J:Sto):Res:=match x with
 |.sr a off sz len cap=>match Nat.beq sz size with
  |true=>match Do len cap lo hi mx with
   |some (l,h,c)=>C7 (off+l*sz) fun o=>C7 (h-l) fun m=>some (.sr a o sz m c,J)
   |none=>none
  |false=>none
 |.sv cs sz len cap=>match Nat.beq sz size with
  |true=>match Do len cap lo hi mx with
   |some (l,h,c)=>match Dr ((h-l)*sz) (cs.drop (l*sz))with
    |some cs'=>C7 (h-l) fun m=>some (.sv cs' sz m c,J)
    |none=>none
   |none=>none
  |false=>none
 |.nil (.slice none 0 0)=>match Do 0 (some 0) lo hi mx with
  |some _=>some (.nil (.slice none 0 0),J)
  |none=>none
 |_=>none
def Wf(n size:Nat)(x:AV)(lo hi mx:Option AV)(J:Sto):Res:=none
def Aqj(n:Nat)(x:AV)(J:Sto):Res:=match Po x n with|some v=>some (v,J)|none=>none
def Af4(ti:TI)(off:Nat)(x:AV)(J:Sto):Res:=match x with
 |.agg cs=>match Ff ti (cs.drop off)with|some v=>some (v,J)|none=>none
 |_=>none
def Gt(size:Nat)(x i:AV)(J:Sto):Res:=match i with
 |.int _ (.ofNat n)=>match x with
  |.sr a off _ len _=>cond (Nat.blt n len) (C7 (off+n*size) fun o=>some (.pr a o,J)) none
  |.sv cs _ len _=>cond (Nat.blt n len) (some (.pv (cs.drop (n*size)),J)) none
  |_=>none
 |_=>none
def E6(len size:Nat)(x i:AV)(J:Sto):Res:=match i with
 |.int _ (.ofNat n)=>cond (Nat.blt n len) (match Po x (n*size)with|some v=>some (v,J)|none=>none) none
 |_=>none
def Lc(x i:AV)(J:Sto):Res:=match x,i with
 |.str l,.int _ (.ofNat n)=>match l[n]? with
  |some b=>some (.int .u8 (.ofNat b),J)
  |none=>none
 |_,_=>none
def Le(te:TI)(len:Nat)(x i:AV)(J:Sto):Res:=match x,i with
 |.agg cs,.int _ (.ofNat n)=>cond (Nat.blt n len) (match Ff te (cs.drop (n*te.size))with|some v=>some (v,J)|none=>none) none
 |_,_=>none
def Aae(ok:Bool)(v:AV)(b:Bool):AV:=match ok with|true=>.tup [v,.bool b]|false=>v
def Ky(kt:Nat)(key:Option Key)(z:AV)(ok:Bool)(m:AV)(J:Sto):Res:=match key with
 |some kv=>match m with
  |.mp r=>match J.get r with
   |some (.map kt' es _)=>match Nat.beq kt' kt with
    |true=>match D5 kv es with
     |some v=>some (Aae ok v true,J)
     |none=>some (Aae ok z false,J)
    |false=>none
   |_=>none
  |.nil (.map none)=>some (Aae ok z false,J)
  |_=>none
 |none=>none
def N1(kt:Nat)(key:Option Key)(te:TI)(m v:AV)(J:Sto):Res:=match key,m with
 |some kv,.mp r=>match J.get r with
  |some (.map kt' es ver)=>match Nat.beq kt' kt&&Je te v with
   |true=>match D5 kv es with
    |some _=>C7 (ver+1) fun w=>some (An,J.set r (.map kt (Ph kv v es) w))
    |none=>C7 (ver+1) fun w=>some (An,J.set r (.map kt (Nx kv v es) w))
   |false=>none
  |_=>none
 |_,_=>none
def Q8(kt:Nat)(key:Option Key)(z:AV)(m:AV)(J:Sto):Res:=match key,m with
 |some kv,.mp r=>match J.get r with
  |some (.map kt' es ver)=>match Nat.beq kt' kt with
   |true=>C7 (ver+1) fun w=>match D5 kv es with
    |some v=>some (.tup [v,.stp (nx J)],(J.set r (.map kt es w)).new (.stamp r w kv))
    |none=>some (.tup [z,.stp (nx J)],(J.set r (.map kt (Nx kv z es) w)).new (.stamp r w kv))
   |false=>none
  |_=>none
 |_,_=>none
def Mf(te:TI)(m st v:AV)(J:Sto):Res:=match m,st with
 |.mp r,.stp a=>match J.get a,J.get r with
  |some (.stamp r' w kv),some (.map kt es w')=>match Nat.beq r r'&&Nat.beq w w'&&Je te v with
   |true=>match D5 kv es with
    |some _=>C7 (w+1) fun w=>some (An,J.set r (.map kt (Ph kv v es) w))
    |none=>none
   |false=>none
  |_,_=>none
 |_,_=>none
def Af5(x:AV)(J:Sto):Res:=match x with
 |.nil (.map none)=>some (.it (nx J),J.new (.iter none 0 [] none))
 |.mp r=>match J.get r with
  |some (.map _ es ver)=>some (.it (nx J),J.new (.iter (some r) ver es none))
  |_=>none
 |_=>none
def Aaf(x:AV)(J:Sto):Res:=match x with
 |.it a=>match J.get a with
  |some (.iter (some r) ver _ (some (k,v)))=>match J.get r with
   |some (.map _ _ ver')=>cond (Nat.beq ver ver') (some (.tup [T2 k,v],J)) none
   |_=>none
  |_=>none
 |_=>none
def Nc(i:Nat)(x:AV)(J:Sto):Res:=match x with
 |.tup vs=>match vs[i]? with
  |some v=>some (v,J)
  |none=>none
 |_=>none
def Zr(t:Nat)(z:Option AV)(ok:Bool)(x:AV)(J:Sto):Res:=match x with
 |.ifc t' v=>match Nat.beq t' t with
  |true=>some (Aae ok v true,J)
  |false=>match ok,z with|true,some z=>some (.tup [z,.bool false],J)|_,_=>none
 |.nil .nilIface=>match ok,z with|true,some z=>some (.tup [z,.bool false],J)|_,_=>none
 |_=>none
def sLen(x:AV)(J:Sto):Res:=match x with
 |.sr _ _ _ len _=>some (.int .i64 (.ofNat len),J)
 |.sv _ _ len _=>some (.int .i64 (.ofNat len),J)
 |.nil (.slice none 0 0)=>some (.int .i64 0,J)
 |_=>none
def Zt(x:AV)(J:Sto):Res:=match x with
 |.str l=>C7 l.length fun n=>some (.int .i64 (.ofNat n),J)
 |_=>none
def T6(x:AV)(J:Sto):Res:=match x with
 |.mp r=>match J.get r with
  |some (.map _ es _)=>C7 es.length fun n=>some (.int .i64 (.ofNat n),J)
  |_=>none
 |.nil (.map none)=>some (.int .i64 0,J)
 |_=>none
def Kj(x:AV)(J:Sto):Res:=match x with
 |.sr _ _ _ _ (some q)=>some (.int .i64 (.ofNat q),J)
 |.sv _ _ _ (some q)=>some (.int .i64 (.ofNat q),J)
 |.nil (.slice none 0 0)=>some (.int .i64 0,J)
 |_=>none
def T7(size bytes:Nat)(d s:AV)(J:Sto):Res:=match lenA s with
 |some n=>match F9 J size s n with
  |some new=>B6 J size bytes d n new
  |none=>none
 |none=>none
def T8(z:List AV)(size bytes:Nat)(d s:AV)(J:Sto):Res:=match s with
 |.int .i64 (.ofNat n)=>cond (Nat.ble (n*(bytes+1)) sizeLim) (B6 J size bytes d n (rep z n)) none
 |_=>none
def Q9(x:AV)(J:Sto):Res:=match x with
 |.mp r=>match J.get r with
  |some (.map kt _ ver)=>C7 (ver+1) fun w=>some (An,J.set r (.map kt [] w))
  |_=>none
 |.nil (.map none)=>some (An,J)
 |_=>none
def Af6(z:List AV)(size:Nat)(x:AV)(J:Sto):Res:=match x with
 |.sr a off sz len _=>match Nat.beq sz size,J.cells a with
  |true,some vs=>match Et vs off (rep z len)with
   |some vs'=>some (An,J.set a (.cells vs'))
   |none=>none
  |_,_=>none
 |.nil (.slice none 0 0)=>some (An,J)
 |.sv _ _ 0 _=>some (An,J)
 |_=>none
def Aqk(size:Nat)(d s:AV)(J:Sto):Res:=none
def Af7(kt:Nat)(key:Option Key)(m:AV)(J:Sto):Res:=match key,m with
 |some kv,.mp r=>match J.get r with
  |some (.map kt' es ver)=>match Nat.beq kt' kt with
   |true=>C7 (ver+1) fun w=>some (An,J.set r (.map kt (Adh kv es) w))
   |false=>none
  |_=>none
 |some _,.nil (.map none)=>some (An,J)
 |_,_=>none
def Aag(a b:Int):Int:=cond (T1 a b) a b
def Ll(a b:Int):Int:=cond (T1 b a) a b
def Xm(f:Int->Int->Int)(x y:AV)(J:Sto):Res:=match x,y with
 |.int k a,.int k' b=>cond (Ed k k') (some (.int k (f a b),J)) none
 |_,_=>none
def Al5(x y z:AV)(J:Sto):Res:=match x,y,z with
 |.int k a,.int k' b,.int k'' c=>cond (Ed k k'&&Ed k k'') (some (.int k (Ll (Ll a b) c),J)) none
 |_,_,_=>none
def Ee(E:Env)(b:Builtin)(ti:TI)(ts:List Nat)(x:AV)(xs:List AV)(J:Sto):Res:=
 match b with
 |.len=>match ti.desc with
  |.slice _=>sLen x J
  |.string=>Zt x J
  |.map _ _=>T6 x J
  |.array n _=>some (.int .i64 (.ofNat n),J)
  |_=>none
 |.cap=>match ti.desc with
  |.slice _=>Kj x J
  |_=>none
 |.clear=>match ti.desc with
  |.map _ _=>Q9 x J
  |.slice e=>match Ay E.P e with
   |some te=>match te.zero with
    |some z=>match Nat.beq z.length te.size with
     |true=>Af6 z te.size x J
     |false=>none
    |none=>none
   |none=>none
  |_=>none
 |.append=>match ti.desc,ts,xs with
  |.slice e,t2::_,y::_=>match Ay E.P e,Ay E.P t2 with
   |some te,some tx=>match te.zero with
    |some z=>match Nat.beq z.length te.size with
     |true=>match tx.desc with
      |.slice _=>T7 te.size te.bytes x y J
      |.string=>T7 te.size te.bytes x y J
      |.int _=>T8 z te.size te.bytes x y J
      |_=>none
     |false=>none
    |none=>none
   |_,_=>none
  |_,_,_=>none
 |.copy=>match ti.desc,xs with
  |.slice e,y::_=>match Ay E.P e with
   |some te=>Aqk te.size x y J
   |none=>none
  |_,_=>none
 |.delete=>match ti.desc,xs with
  |.map kt _,y::_=>Af7 kt (D4 E.P kt y) x J
  |_,_=>none
 |.min=>match xs with
  |[y]=>Xm Aag x y J
  |_=>none
 |.max=>match xs with
  |[y]=>Xm Ll x y J
  |[y,z]=>Al5 x y z J
  |_=>none
 |_=>none
def Aw(E:Env)(op:Op)(tm:Tr AV)(J:Sto):Res:=
 match op with
 |.move x=>Aad (opd E tm x) J
 |.assign x=>Aad (opd E tm x) J
 |.pick c a b=>Ad8 (opd E tm c) (opd E tm a) (opd E tm b) J
 |.nilCheck x=>Jf (opd E tm x) J
 |.alloc t=>match Ay E.P t with
  |some ti=>match ti.zero with|some z=>Aab z J|none=>none
  |none=>none
 |.box t x=>match Ay E.P t with
  |some ti=>sBox ti.size (opd E tm x) J
  |none=>none
 |.build t parts=>match Ay E.P t with
  |some ti=>match ti.zero,ti.desc with
   |some z,.struct fs=>match Q7 E.P fs.toList,Js E.P E tm fs.toList parts.toList with
    |true,some ps=>M2 z ps J
    |_,_=>none
   |some z,.array _ e=>match Ay E.P e with
    |some te=>M2 z (Is E tm te.size parts.toList) J
    |none=>none
   |_,_=>none
  |none=>none
 |.buildSlice t len parts=>match Ay E.P t with
  |some ti=>match ti.desc with
   |.slice e=>match Ay E.P e with
    |some te=>match te.zero with
     |some z=>match Nat.ble (len*te.size) 16777216&&Nat.beq z.length te.size with
      |true=>Id z te.size len (E.byref e) (Is E tm te.size parts.toList) J
      |false=>none
     |none=>none
    |none=>none
   |_=>none
  |none=>none
 |.load t x=>match Ay E.P t with
  |some ti=>Na ti (opd E tm x) J
  |none=>none
 |.store t x v=>match Ay E.P t with
  |some ti=>Wc ti.size (opd E tm x) (opd E tm v) J
  |none=>none
 |.binOp op t x y _=>Sx (Wb E.P op t (Cm x||Cm y) (opd E tm x) (opd E tm y)) J
 |.unOp op _ x=>Sx (unA op (opd E tm x)) J
 |.convert s d x=>match Ay E.P s,Ay E.P d with
  |some ts,some td=>match td.desc with
   |.int k=>Pp k (opd E tm x) J
   |.float k=>Aac k (opd E tm x) J
   |.string=>match ts.desc with
    |.string=>T4 (opd E tm x) J
    |.slice e=>match Ay E.P e with
     |some te=>match te.desc with
      |.int .u8=>Ny (opd E tm x) J
      |_=>none
     |none=>none
    |_=>none
   |.slice e=>match ts.desc,Ay E.P e with
    |.string,some te=>match te.desc with
     |.int .u8=>Kx (opd E tm x) J
     |_=>none
    |_,_=>none
   |_=>none
  |_,_=>none
 |.makeInterface t x=>match Ay E.P t with
  |some ti=>match ti.desc with
   |.interface _=>none
   |_=>sIfc t (opd E tm x) J
  |none=>none
 |.makeFunc f first captured=>Al4 f (opds E tm first.toList) (opds E tm captured.toList) J
 |.makeMap t r=>match Ay E.P t with
  |some ti=>match ti.desc,r with
   |.map kt _,none=>T5 kt J
   |.map kt _,some h=>We kt (opd E tm h) J
   |_,_=>none
  |none=>none
 |.makeSlice t l c=>match Ay E.P t with
  |some ti=>match ti.desc with
   |.slice e=>match Ay E.P e with
    |some te=>match te.zero with
     |some z=>match Nat.beq z.length te.size with
      |true=>Nz z te.size te.bytes (opd E tm l) (opd E tm c) J
      |false=>none
     |none=>none
    |none=>none
   |_=>none
  |none=>none
 |.slice t x lo hi mx=>match Ay E.P t with
  |some ti=>match ti.desc with
   |.string=>match mx with|none=>Nb (opd E tm x) (opdO E tm lo) (opdO E tm hi) J|some _=>none
   |.slice e=>match Ay E.P e with
    |some te=>Lj te.size (opd E tm x) (opdO E tm lo) (opdO E tm hi) (opdO E tm mx) J
    |none=>none
   |.array n ee=>match Ay E.P ee with
    |some te=>Wf n te.size (opd E tm x) (opdO E tm lo) (opdO E tm hi) (opdO E tm mx) J
    |none=>none
   |_=>none
  |none=>none
 |.fieldAddr t x i=>match Ay E.P t with
  |some ti=>match ti.desc with
   |.struct fs=>match fs.toList[i]? with
    |some f=>match Ay E.P f.type with
     |some tf=>match tf.size with
      |0=>none
      |_+1=>Aqj f.offset (opd E tm x) J
     |none=>none
    |none=>none
   |_=>none
  |none=>none
 |.field t x i=>match Ay E.P t with
  |some ti=>match ti.desc with
   |.struct fs=>match fs.toList[i]? with
    |some f=>match Ay E.P f.type with
     |some tf=>Af4 tf f.offset (opd E tm x) J
     |none=>none
    |none=>none
   |_=>none
  |none=>none
 |.indexAddr t x i=>match Ay E.P t with
  |some ti=>match ti.desc with
   |.slice e=>match Ay E.P e with
    |some te=>Gt te.size (opd E tm x) (opd E tm i) J
    |none=>none
   |.array len e=>match Ay E.P e with
    |some te=>E6 len te.size (opd E tm x) (opd E tm i) J
    |none=>none
   |_=>none
  |none=>none
 |.index t x i=>match Ay E.P t with
  |some ti=>match ti.desc with
   |.string=>Lc (opd E tm x) (opd E tm i) J
   |.array len e=>match Ay E.P e with
    |some te=>Le te len (opd E tm x) (opd E tm i) J
    |none=>none
   |_=>none
  |none=>none
 |.lookup t m k ok=>match Ay E.P t with
  |some ti=>match ti.desc with
   |.map kt et=>match Ay E.P et with
    |some te=>match Lh te with
     |some z=>Ky kt (D4 E.P kt (opd E tm k)) z ok (opd E tm m) J
     |none=>none
    |none=>none
   |_=>none
  |none=>none
 |.mapUpdate t m k v=>match Ay E.P t with
  |some ti=>match ti.desc with
   |.map kt et=>match Ay E.P et with
    |some te=>N1 kt (D4 E.P kt (opd E tm k)) te (opd E tm m) (opd E tm v) J
    |none=>none
   |_=>none
  |none=>none
 |.mapEntry t m k=>match Ay E.P t with
  |some ti=>match ti.desc with
   |.map kt et=>match Ay E.P et with
    |some te=>match Lh te with
     |some z=>Q8 kt (D4 E.P kt (opd E tm k)) z (opd E tm m) J
     |none=>none
    |none=>none
   |_=>none
  |none=>none
 |.entryStore t m st v=>match Ay E.P t with
  |some ti=>match ti.desc with
   |.map _ et=>match Ay E.P et with
    |some te=>Mf te (opd E tm m) (opd E tm st) (opd E tm v) J
    |none=>none
   |_=>none
  |none=>none
 |.range t x=>match Ay E.P t with
  |some ti=>match ti.desc with
   |.map _ _=>Af5 (opd E tm x) J
   |_=>none
  |none=>none
 |.entry x=>Aaf (opd E tm x) J
 |.extract x i=>Nc i (opd E tm x) J
 |.typeAssert x _ t ok=>match Ay E.P t with
  |some ti=>match ti.desc with
   |.interface _=>none
   |_=>Zr t (Lh ti) ok (opd E tm x) J
  |none=>none
 |.call c=>match c.callee with
  |.builtin b=>match c.argTypes.toList,c.args.toList with
   |t::ts,x::xs=>match Ay E.P t with
    |some ti=>Ee E b ti ts (opd E tm x) (opds E tm xs) J
    |none=>none
   |_,_=>none
  |_=>none
 |_=>none
inductive Cls where
 |pure|read|eff
 deriving DecidableEq
def Bc(E:Env):Op->Cls
 |.move _|.assign _|.pick .. |.nilCheck _|.build .. |.fieldAddr .. |.field .. |.indexAddr .. |.index .. |.binOp .. |.unOp .. |.makeInterface .. |.makeFunc .. |.extract .. |.typeAssert .. =>.pure
 |.slice t _ _ _ _=>match Ay E.P t with
  |some ti=>match ti.desc with
   |.array _ _=>.read
   |_=>.pure
  |none=>.read
 |.load .. |.lookup .. |.entry _|.convert .. =>.read
 |.buildSlice t _ _=>match Ay E.P t with
  |some ti=>match ti.desc with
   |.slice e=>match E.byref e with|true=>.eff|false=>.pure
   |_=>.eff
  |none=>.eff
 |.call c=>match c.callee with
  |.builtin .len=>.read
  |.builtin .cap=>.pure
  |.builtin .min=>.pure
  |.builtin .max=>.pure
  |.value (.func f)=>match E.pu f with|true=>.pure|false=>.eff
  |_=>.eff
 |_=>.eff
def Ks:Nat:=4294967295
def Ka(d:Option Nat)(tm:Tr AV)(nt:Nat)(v:AV):Option (Tr AV):=
 match d with
 |none=>some tm
 |some d=>cond (Nat.blt d nt) (Ty (tm.put (d+1) d (some v)) some) none
def Akp(a b:Value):Bool:=
 match a,b with
 |.pointer none,.pointer none=>true
 |.slice none 0 0,.slice none 0 0=>true
 |.map none,.map none=>true
 |.nilFunc,.nilFunc=>true
 |.nilIface,.nilIface=>true
 |_,_=>false
def Aql:Fn->Fn->Bool
 |.func a,.func b=>Nat.beq a b
 |_,_=>false
def Af8(a b:Option Nat):Bool:=match a,b with|none,none=>true|some x,some y=>Nat.beq x y|_,_=>false
mutual
def AV.beq:AV->AV->Bool
 |.any,.any=>true
 |.bool a,.bool b=>cond a b (!b)
 |.int k a,.int k' b=>Ed k k'&&Tz a b
 |.str a,.str b=>Fm a b
 |.nil a,.nil b=>Akp a b
 |.pr a o,.pr b p=>Nat.beq a b&&Nat.beq o p
 |.pv l,.pv m=>AV.beqs l m
 |.sr a o s n c,.sr b p t m d=>Nat.beq a b&&Nat.beq o p&&Nat.beq s t&&Nat.beq n m&&Af8 c d
 |.sv l s n c,.sv m t k d=>AV.beqs l m&&Nat.beq s t&&Nat.beq n k&&Af8 c d
 |.mp a,.mp b=>Nat.beq a b
 |.it a,.it b=>Nat.beq a b
 |.stp a,.stp b=>Nat.beq a b
 |.yl a,.yl b=>Nat.beq a b
 |.flt k a,.flt k' b=>decide (k=k')&&Nat.beq a b
 |.fn f a b,.fn h c d=>Aql f h&&AV.beqs a c&&AV.beqs b d
 |.ifc t a,.ifc u b=>Nat.beq t u&&AV.beq a b
 |.agg l,.agg m=>AV.beqs l m
 |.tup l,.tup m=>AV.beqs l m
 |_,_=>false
def AV.beqs:List AV->List AV->Bool
 |[],[]=>true
 |x::r,y::s=>AV.beq x y&&AV.beqs r s
 |_,_=>false
end
def AV.join(a b:AV):AV:=cond (AV.beq a b) a .any
def Aea:List AV->List AV->Option (List AV)
 |[],[]=>some []
 |x::r,y::s=>match Aea r s with|some l=>some (AV.join x y::l)|none=>none
 |_,_=>none
def Aqm:List (Key×AV)->List (Key×AV)->Option (List (Key×AV))
 |[],[]=>some []
 |(k,x)::r,(l,y)::s=>cond (Key.eq k l) (match Aqm r s with|some t=>some ((k,AV.join x y)::t)|none=>none) none
 |_,_=>none
def joinO:AO->AO->Option AO
 |.cells a,.cells b=>match Aea a b with|some l=>some (.cells l)|none=>none
 |.map k a v,.map l b w=>cond (Nat.beq v w&&Nat.beq k l) (match Aqm a b with|some l=>some (.map k l v)|none=>none) none
 |_,_=>none
def Aah:Tr AV->Tr AV->Tr AV
 |.n (some x) l r,.n (some y) l' r'=>.n (some (AV.join x y)) (Aah l l') (Aah r r')
 |.n _ l r,.n _ l' r'=>.n none (Aah l l') (Aah r r')
 |_,_=>.e
def Pq:Tr AO->Tr AO->Tr AO
 |.n (some x) l r,.n (some y) l' r'=>.n (joinO x y) (Pq l l') (Pq r r')
 |.n _ l r,.n _ l' r'=>.n none (Pq l l') (Pq r r')
 |_,_=>.e
def At0(a b:Sto):Option Sto:=cond (Nat.beq a.next b.next) (some ⟨Pq a.objs b.objs,a.next⟩) none
def joinSt(a b:St):Option St:=
 match a.df,b.df with
 |[],[]=>cond (Nat.beq a.nt b.nt) (match At0 a.sto b.sto with|some J=>some ⟨Aah a.tm b.tm,a.nt,[],J⟩|none=>none) none
 |_,_=>none
def XE.beq:XE->XE->Bool
 |.normal,.normal=>true
 |.exit a,.exit b=>Nat.beq a b
 |.ret,.ret=>true
 |_,_=>false
def Ra:Op->Bool
 |.defer _=>true
 |_=>false
def D6(l:List Oper):Bool:=l.all fun o=> !Ra o.op
def Ln:Code->Bool
 |.region _ ops _=>D6 ops.toList
 |.seq a b=>Ln a&&Ln b
 |.cond _ a b=>Ln a&&Ln b
 |.block _ a=>Ln a
 |.loop a=>Ln a
 |.scope a=>Ln a
 |_=>true
def Bn(ops:List Oper)(o:Oper)(tm:Tr AV):Option Bool:=
 match o.guard with
 |none=>some true
 |some (j,want)=>match ops[j]? with
  |some oj=>match oj.dst with
   |some d=>match tm.get d with
    |some (.bool b)=>some (cond b want (!want))
    |some .any=>none
    |some _=>some false
    |none=>none
   |none=>none
  |none=>none
def Rb(v:AV)(args:List AV):Option (Nat×List AV):=
 match v with
 |.fn (.func k) first cap=>some (k,first++args++cap)
 |_=>none
def Af9(E:Env)(t:Nat)(name:String)(v:AV)(J:Sto):Option (Nat×AV):=
 match E.P.info? t with
 |some i=>match i.methods.find? (·.name==name)with
  |some m=>match m.path.toList with
   |[]=>match m.func with
    |some (f,ptr)=>match E.P.underlying t with
     |some d=>match d with
      |.pointer e=>match ptr with
       |true=>some (f,v)
       |false=>match Ay E.P e with
        |some te=>match Na te v J with
         |some (u,_)=>some (f,u)
         |none=>none
        |none=>none
      |_=>match ptr with
       |true=>none
       |false=>some (f,v)
     |none=>none
    |none=>none
   |_=>none
  |none=>none
 |none=>none
def opA(E:Env)(op:Op)(R:Rec)(tm:Tr AV)(J:Sto):Res:=
 match op with
 |.call c=>match c.callee with
  |.value v=>match opd E tm v with
   |.yl a=>R (.yl a) (opds E tm c.args.toList) J
   |u=>match Rb u (opds E tm c.args.toList)with
    |some (k,args)=>R (.fn k) args J
    |none=>none
  |.invoke x name=>match opd E tm x with
   |.ifc t v=>match Af9 E t name v J with
    |some (f,rv)=>R (.fn f) (rv::opds E tm c.args.toList) J
    |none=>none
   |_=>none
  |_=>Aw E (.call c) tm J
 |op=>Aw E op tm J
def Yi(E:Env)(ops:List Oper)(o:Oper)(R:Rec)(s:St):Option St:=
 match Bn ops o s.tm with
 |some true=>match o.op with
  |.defer c=>match c.callee,o.dst with
   |.value v,none=>match Rb (opd E s.tm v) (opds E s.tm c.args.toList)with
    |some ka=>cond (Nat.beq ka.1 Ks) none (some ⟨s.tm,s.nt,ka::s.df,s.sto⟩)
    |none=>none
   |_,_=>none
  |op=>match opA E op R s.tm s.sto with
   |some (v,J)=>match Ka o.dst s.tm s.nt v with
    |some tm=>some ⟨tm,s.nt,s.df,J⟩
    |none=>none
   |none=>none
 |some false=>match Ka o.dst s.tm s.nt An with
  |some tm=>some ⟨tm,s.nt,s.df,s.sto⟩
  |none=>none
 |none=>none
def Aga(J:Sto)(m:Option Nat)(ver:Nat):Bool:=
 match m with
 |none=>true
 |some r=>match J.get r with|some (.map _ _ v)=>Nat.beq v ver|_=>false
structure Ann where
 cls:Cls
 lo:Nat
 hi:Nat
def B5:Cls->Bool
 |.eff=>true
 |_=>false
def A8(E:Env):List Oper->Nat->List Nat
 |[],_=>[]
 |o::r,i=>match B5 (Bc E o.op)with
  |true=>i::A8 E r (i+1)
  |false=>A8 E r (i+1)
def Mg(b:List Nat):List Nat->Bool
 |[]=>true
 |i::r=>match r with
  |[]=>true
  |j::s=>(b.getD j 0).testBit i&&Mg b (j::s)
def Bl(p:Nat->Bool):List Nat->Nat
 |[]=>0
 |i::r=>match p i with|true=>Bl p r+1|false=>0
def Kb(E:Env)(b effs:List Nat):List Oper->Nat->List Ann
 |[],_=>[]
 |o::r,i=>C7 (Bl (fun e=>(b.getD i 0).testBit e) effs) fun lo=>
   C7 (Bl (fun e=> !(b.getD e 0).testBit i) effs) fun hi=>
   match Bc E o.op with
   |.pure=>⟨.pure,lo,hi⟩::Kb E b effs r (i+1)
   |.read=>⟨.read,lo,hi⟩::Kb E b effs r (i+1)
   |.eff=>⟨.eff,lo,hi⟩::Kb E b effs r (i+1)
def Eu(ops:Array Oper)(b:List Nat):Bool:=
 (List.range ops.size).all fun j=>(List.range j).all fun i=>(b.getD j 0).testBit i||match ops[i]?,ops[j]? with
  |some x,some y=>Oper.apart ops x y
  |_,_=>true
def Fo(ops:Array Oper):Bool:=
 (List.range ops.size).all fun j=>match ops[j]? with
  |some o=>o.after.all fun e=> !Region.binds .any e||decide (e.on<j)
  |none=>true
def Lo(E:Env)(ops:Array Oper):Option (List Ann):=
 let b:=(Region.before ops).toList
 let effs:=A8 E ops.toList 0
 match Eu ops b&&Fo ops&&Mg b effs&&Region.noSelect ops with
 |true=>some (Kb E b effs ops.toList 0)
 |false=>none
structure DS where
 s:St
 eps:List Sto
 log:List (Tr AV×AV)
def Rc(E:Env)(ops:List Oper)(o:Oper)(R:Rec)(d:DS):Option DS:=
 match Bn ops o d.s.tm with
 |some true=>match opA E o.op R d.s.tm d.s.sto with
  |some (v,J)=>match Ka o.dst d.s.tm d.s.nt v with
   |some tm=>match B5 (Bc E o.op)with
    |true=>some ⟨⟨tm,d.s.nt,d.s.df,J⟩,J::d.eps,(d.s.tm,v)::d.log⟩
    |false=>some ⟨⟨tm,d.s.nt,d.s.df,d.s.sto⟩,d.eps,(d.s.tm,v)::d.log⟩
   |none=>none
  |none=>none
 |some false=>match Ka o.dst d.s.tm d.s.nt An with
  |some tm=>match B5 (Bc E o.op)with
   |true=>some ⟨⟨tm,d.s.nt,d.s.df,d.s.sto⟩,d.s.sto::d.eps,(d.s.tm,An)::d.log⟩
   |false=>some ⟨⟨tm,d.s.nt,d.s.df,d.s.sto⟩,d.eps,(d.s.tm,An)::d.log⟩
  |none=>none
 |none=>none
def T9(E:Env)(ops:List Oper)(R:Rec):List Oper->DS->Option DS
 |[],d=>some d
 |o::r,d=>match Rc E ops o R d with
  |some d'=>T9 E ops R r d'
  |none=>none
def steady(E:Env)(ops:List Oper)(o:Oper)(tm:Tr AV)(v:AV)(l:List Sto):Bool:=
 match Bn ops o tm with
 |some true=>l.all fun J=>match Aw E o.op tm J with
  |some (u,_)=>AV.beq u v
  |none=>false
 |_=>true
def Sz(b es D:List Nat)(k:Nat):Bool:=es.all fun e=>match D.contains e with
 |true=> !(b.getD e 0).testBit k
 |false=> !(b.getD k 0).testBit e
structure Nd where
 D:List Nat
 J:Sto
 aC:List (Nat×AV)
def ovr(aC:List (Nat×AV))(V:Nat->AV)(k:Nat):AV:=match aC with
 |[]=>V k
 |(p,v)::_=>if k=p then v else V k
abbrev NL:=List (Nd×List Nat)
def Adi(nt:Nat):List Oper->List AV->Tr AV->Option (List (Tr AV))
 |[],[],tm=>some [tm]
 |o::r,v::vs,tm=>match Ka o.dst tm nt v with
  |some tm'=>match Adi nt r vs tm' with
   |some l=>some (tm::l)
   |none=>none
  |none=>none
 |_,_,_=>none
def Ahv(E:Env)(ops:List Oper)(R:Rec)(o:Oper)(tm:Tr AV)(J:Sto):Res:=match Bn ops o tm with
 |some true=>opA E o.op R tm J
 |_=>none
def N2(E:Env)(ops:List Oper)(R:Rec)(T:Nat->Tr AV)(V:Nat->AV)(i j:Nat)(D:List Nat)(J:Sto):Option (NL×Sto):=
 match ops[i]?,ops[j]? with
 |some oi,some oj=>match Ahv E ops R oi (T i) J,Ahv E ops R oj (T j) J with
  |some (v1,σi),some (v3,σj)=>match oi.op,oj.op with
   |.makeSlice _ _ _,.makeSlice _ _ _=>match v1,v3 with
    |.sr _ _ s1 l1 c1,.sr _ _ s2 l2 c2=>match σi.get (nx J),σj.get (nx J)with
     |some (.cells A),some (.cells B)=>
      cond (!Nat.beq i j&&AV.beq (V i) (.sr (nx J+2) 0 s1 l1 c1)&&AV.beq (V j) (.sr (nx J+3) 0 s2 l2 c2))
       (some ([(⟨D,J,[]⟩,[i,j]),(⟨i::D,σi,[(i,v1)]⟩,[j]),(⟨j::D,σj,[(j,v3)]⟩,[i])],((((σi.new (.cells B)).kill (nx J)).kill (nx J+1)).new (.cells A)).new (.cells B))) none
     |_,_=>none
    |_,_=>none
   |.store _ x _,.store _ y _=>match opd E (T i) x,opd E (T j) y with
    |.pr a _,.pr b _=>cond (!Nat.beq i j&& !Nat.beq a b&&AV.beq (V i) An&&AV.beq (V j) An)
      (match Ahv E ops R oj (T j) σi with
       |some (_,σij)=>some ([(⟨D,J,[]⟩,[i,j]),(⟨i::D,σi,[]⟩,[j]),(⟨j::D,σj,[]⟩,[i])],σij)
       |none=>none) none
    |_,_=>none
   |_,_=>none
  |_,_=>none
 |_,_=>none
def Ps(E:Env)(ops:List Oper)(R:Rec)(T:Nat->Tr AV)(V:Nat->AV)(e:Nat)(J:Sto):Option Sto:=
 match ops[e]? with
 |some o=>match Ahv E ops R o (T e) J with
  |some (v,J')=>cond (AV.beq (V e) v) (some J') none
  |none=>none
 |none=>none
def Ne(E:Env)(ops:List Oper)(R:Rec)(T:Nat->Tr AV)(V:Nat->AV)(b:List Nat):List Nat->List Nat->Sto->Option (NL×Nd)
 |[],D,J=>some ([],⟨D,J,[]⟩)
 |[e],D,J=>match Ps E ops R T V e J with
  |some J'=>some ([(⟨D,J,[]⟩,[e])],⟨e::D,J',[]⟩)
  |none=>none
 |e::j::r,D,J=>match(b.getD j 0).testBit e with
  |true=>match Ps E ops R T V e J with
   |some J'=>match Ne E ops R T V b (j::r) (e::D) J' with
    |some (m,nf)=>some ((⟨D,J,[]⟩,[e])::m,nf)
    |none=>none
   |none=>none
  |false=>match N2 E ops R T V e j D J with
   |some (l,J')=>match Ne E ops R T V b r (j::e::D) J' with
    |some (m,nf)=>some (l++m,nf)
    |none=>none
   |none=>none
def Lp(E:Env)(ops:List Oper)(R:Rec)(T:Nat->Tr AV)(V:Nat->AV)(J:Sto)(k:Nat):Bool:=match ops[k]? with
 |none=>true
 |some o=>match Bn ops o (T k)with
  |some true=>match opA E o.op R (T k) J with
   |some (v,_)=>AV.beq v (V k)
   |none=>false
  |some false=>AV.beq (V k) An
  |none=>false
def Aeb(b:List Nat)(aC:List (Nat×AV))(k:Nat):Bool:=match aC with
 |[]=>true
 |(p,_)::_=> !(b.getD k 0).testBit p
def Hm(E:Env)(ops:List Oper)(R:Rec)(T:Nat->Tr AV)(V:Nat->AV)(b es:List Nat)(x:Nd×List Nat):Bool:=
 (es.all fun e=>x.1.D.contains e|| !Sz b es x.1.D e||x.2.contains e)&&
 (List.range ops.length).all fun k=>x.1.D.contains k|| !Sz b es x.1.D k||(Aeb b x.1.aC k&&(es.contains k||Lp E ops R T V x.1.J k))
def Rd(E:Env)(ops:Array Oper)(R:Rec)(s:St)(vl:List AV):Option St:=
 match Adi s.nt ops.toList vl s.tm with
 |none=>none
 |some tl=>match Eu ops (Region.before ops).toList&&Fo ops with
  |false=>none
  |true=>match Ne E ops.toList R (fun k=>tl.getD k .e) (fun k=>vl.getD k .any) (Region.before ops).toList (A8 E ops.toList 0) [] s.sto with
   |none=>none
   |some (nl,nf)=>cond ((nl++[(nf,[])]).all (Hm E ops.toList R (fun k=>tl.getD k .e) (fun k=>vl.getD k .any) (Region.before ops).toList (A8 E ops.toList 0))&&
      nl.all fun x=>(A8 E ops.toList 0).any fun e=> !x.1.D.contains e)
     (some ⟨tl.getD ops.size .e,s.nt,s.df,nf.J⟩) none
def Aai(P:Program)(tm:Tr AV)(J:Sto):ResultVar->Option AV
 |.tmp t=>tm.get t
 |.cell a t=>match Ay P t with
  |some ti=>match tm.get a with
   |some (.pr b off)=>match J.cells b with
    |some vs=>Ff ti (vs.drop off)
    |none=>none
   |_=>none
  |none=>none
def Ahw(P:Program)(tm:Tr AV)(J:Sto):List ResultVar->Option (List AV)
 |[]=>some []
 |r::rs=>match Aai P tm J r,Ahw P tm J rs with
  |some v,some l=>some (v::l)
  |_,_=>none
def Akq:List AV->AV
 |[v]=>v
 |vs=>.tup vs
def Kz:List AV->Nat->Tr AV->Tr AV
 |[],_,t=>t
 |x::r,i,t=>Kz r (i+1) (t.put (i+1) i (some x))
def Sto.bump(J:Sto):Sto:=match J with|⟨t,n⟩=>C7 (n+1) fun n=>⟨t,n⟩
def H2:XE->LS
 |.normal=>.ready
 |x=>.done x
def Iu:XE->Bool
 |.normal=>true
 |_=>false
def Jt(b:Nat):List (Nat×List AV)->Bool
 |[]=>true
 |(k,[.yl _,.yl b'])::r=>Nat.beq k Ks&&Nat.beq b' b&&Jt b r
 |_=>false
section
structure Ctx where
 loc:Nat->Option (Nat×Nat)
 stm:Nat->Int
 res:Nat->Prop
 lr:Nat->Option Loop
def Ctx.own(C:Ctx)(c:Nat):Prop:=C.res c∨∃a o,C.loc a=some (c,o)
def csize(w:World)(c:Nat):Nat:=match w.heap[c]? with|some (.cells cs _ _)=>cs.size|_=>0
mutual
def R (C:Ctx) (N:Nat) (w:World):AV->Value->Prop
 |.any,_=>True
 |.bool b,v=>v=.bool b
 |.int k n,v=>v=.int k n
 |.str l,v=>∃s,v=.string s/\B2 s=l
 |.nil x,v=>v=x/\Xl x=true
 |.pr a off,v=>∃ad,v=.pointer (some ad)/\a<N/\∀c o,C.loc a=some (c,o)->ad=⟨c,o+off,none⟩
 |.pv cs,v=>∃c o,v=.pointer (some ⟨c,o,none⟩)/\(cs≠[]->¬C.own c)/\RC C N w c cs o
 |.sr a off sz len cap,v=>∃ad k,v=.slice (some ad) len k/\a<N/\len<=k/\(∀q,cap=some q->k=q)/\
   ∀c o,C.loc a=some (c,o)->(0<k->ad=⟨c,o+off,none⟩)/\o+off+k*sz<=csize w c
 |.sv cs sz len cap,v=>∃ado k,v=.slice ado len k/\len<=k/\(∀q,cap=some q->k=q)/\cs.length=len*sz/\(ado=none->k=0)/\
   ∀ad,ado=some ad->(0<k->ad.spot=none)/\(cs≠[]->¬C.own ad.block)/\RC C N w ad.block cs ad.off
 |.mp r,v=>∃c,v=.map (some c)/\r<N/\∀c' o,C.loc r=some (c',o)->c=c'
 |.it r,v=>∃c,v=.pointer (some ⟨c,0,none⟩)/\r<N/\∀c' o,C.loc r=some (c',o)->c=c'
 |.stp a,v=>v=.int .i64 (C.stm a)/\a<N
 |.flt k n,v=>v=.float k n
 |.yl a,v=>v=.func (.yield (C.stm a).toNat) #[] #[]/\a<N
 |.fn f p q,v=>∃a b,v=.func f a b/\RL C N w p a.toList/\RL C N w q b.toList
 |.ifc t x,v=>∃y,v=.iface t y/\R C N w x y
 |.agg cs,v=>∃a,v=.agg a/\RL C N w cs a.toList/\∀x∈a.toList,x.oneCell=true
 |.tup vs,v=>∃a,v=.tuple a/\RL C N w vs a.toList
def RC (C:Ctx) (N:Nat) (w:World) (c:Nat):List AV->Nat->Prop
 |[],_=>True
 |x::r,o=>(∃v,w.cell? ⟨c,o,none⟩=some v/\v.oneCell=true/\R C N w x v)/\RC C N w c r (o+1)
def RL (C:Ctx) (N:Nat) (w:World):List AV->List Value->Prop
 |[],[]=>True
 |x::r,v::s=>R C N w x v/\RL C N w r s
 |_,_=>False
end
structure Ext (C:Ctx)(N:Nat)(w:World)(C':Ctx)(N':Nat)(w':World):Prop where
 next:N<=N'
 size:w.heap.size<=w'.heap.size
 keep:∀b,b<w.heap.size->¬C.own b->¬C'.own b/\w'.heap[b]? =w.heap[b]?
 loc:∀a,a<N->∀p,C'.loc a=some p->C.loc a=some p
 stm:∀a,a<N->C'.stm a=C.stm a
 lr:∀a,a<N->C'.lr a=C.lr a
 bsz:∀a,a<N->∀c o,C'.loc a=some (c,o)->csize w' c=csize w c
 res:C'.res=C.res/\∀b,C.res b->w'.heap[b]? =w.heap[b]?
 os:w'.os=w.os/\w'.output=w.output
theorem Ext.refl(C N w):Ext C N w C N w:=
 ⟨nl,nl,fun _ _ h=>⟨h,rfl⟩,fun _ _ _ h=>h,fun _ _=>rfl,fun _ _=>rfl,fun _ _ _ _ _=>rfl,⟨rfl,fun _ _=>rfl⟩,rfl,rfl⟩
abbrev cf_:=@Ext.refl
theorem Ext.trans{C C₁ C₂:Ctx}{N N₁ N₂:Nat}{w w₁ w₂:World}(h:Ext C N w C₁ N₁ w₁)(k:Ext C₁ N₁ w₁ C₂ N₂ w₂):Ext C N w C₂ N₂ w₂ where
 next:=ai_ h.next k.next
 size:=ai_ h.size k.size
 keep b hb ho:=by
  obtain⟨h1,h2⟩:=h.keep b hb ho;obtain⟨k1,k2⟩:=k.keep b (ak_ hb h.size) h1
  grind
 loc a ha p hp:=h.loc a ha p (k.loc a (ak_ ha h.next) p hp)
 stm a ha:=(k.stm a (ak_ ha h.next)).trans (h.stm a ha)
 lr a ha:=(k.lr a (ak_ ha h.next)).trans (h.lr a ha)
 bsz a ha c o hc:=by
  have ha':=ak_ ha h.next;exact(k.bsz a ha' c o hc).trans (h.bsz a ha c o (k.loc a ha' _ hc))
 res:=⟨k.res.1.trans h.res.1,fun b hb=>(k.res.2 b (by rw[h.res.1];exact hb)).trans (h.res.2 b hb)⟩
 os:=⟨k.os.1.trans h.os.1,k.os.2.trans h.os.2⟩
theorem Al6{w:World}{a v}(h:w.cell? a=some v):a.block<w.heap.size:=by
 unfold World.cell? at h
 grind
theorem Ua{w w':World}{b}(h:w'.heap[b]? =w.heap[b]?)(o s):w'.cell? ⟨b,o,s⟩=w.cell? ⟨b,o,s⟩:=by
 unfold World.cell?;grind
section
variable {C C':Ctx}{N N':Nat}{w w':World}
mutual
theorem R.ext (e:Ext C N w C' N' w'):∀(x:AV) (v:Value),R C N w x v->R C' N' w' x v
 |.any,_,_=>by unfold R;trivial
 |.bool b,v,h=>by unfold R at *;exact h
 |.int k n,v,h=>by unfold R at *;exact h
 |.str l,v,h=>by unfold R at *;exact h
 |.nil x,v,h=>by unfold R at *;exact h
 |.pr a off,v,h=>by
  unfold R at *;obtain⟨ad,h1,h2,h3⟩:=h;exact⟨ad,h1,ak_ h2 e.next,fun c o hc=>h3 c o (e.loc a h2 _ hc)⟩
 |.pv cs,v,h=>by
  unfold R at *;obtain⟨c,o,h1,h2,h3⟩:=h;exact⟨c,o,h1,RC.extOwn e c cs o h2 h3,RC.ext e c cs o h2 h3⟩
 |.sr a off sz len cap,v,h=>by
  unfold R at *;obtain⟨ad,k,h1,h2,h3,h4,h5⟩:=h;refine⟨ad,k,h1,ak_ h2 e.next,h3,h4,fun c o hc=>?_⟩
  obtain⟨h6,h7⟩:=h5 c o (e.loc a h2 _ hc)
  exact⟨h6,by rw[e.bsz a h2 c o hc];exact h7⟩
 |.sv cs sz len cap,v,h=>by
  unfold R at *;obtain⟨ado,k,h1,h2,h3,h4,h5,h6⟩:=h;refine⟨ado,k,h1,h2,h3,h4,h5,fun ad ha=>?_⟩
  obtain⟨h7,h8,h9⟩:=h6 ad ha;exact⟨h7,RC.extOwn e ad.block cs ad.off h8 h9,RC.ext e ad.block cs ad.off h8 h9⟩
 |.mp r,v,h=>by
  unfold R at *;obtain⟨c,h1,h2,h3⟩:=h;exact⟨c,h1,ak_ h2 e.next,fun c' o hc=>h3 c' o (e.loc r h2 _ hc)⟩
 |.it r,v,h=>by
  unfold R at *;obtain⟨c,h1,h2,h3⟩:=h;exact⟨c,h1,ak_ h2 e.next,fun c' o hc=>h3 c' o (e.loc r h2 _ hc)⟩
 |.stp a,v,h=>by
  unfold R at *
  exact⟨by rw[e.stm a h.2];grind,ak_ h.2 e.next⟩
 |.flt k n,v,h=>by unfold R at *;exact h
 |.yl a,v,h=>by
  unfold R at *
  exact⟨by rw[e.stm a h.2];grind,ak_ h.2 e.next⟩
 |.fn f p q,v,h=>by
  unfold R at *;obtain⟨a,b,h1,h2,h3⟩:=h;exact⟨a,b,h1,RL.ext e p _ h2,RL.ext e q _ h3⟩
 |.ifc t x,v,h=>by
  unfold R at *;obtain⟨y,h1,h2⟩:=h;exact⟨y,h1,R.ext e x y h2⟩
 |.agg cs,v,h=>by
  unfold R at *;obtain⟨a,h1,h2,h3⟩:=h;exact⟨a,h1,RL.ext e cs _ h2,h3⟩
 |.tup vs,v,h=>by
  unfold R at *;obtain⟨a,h1,h2⟩:=h;exact⟨a,h1,RL.ext e vs _ h2⟩
theorem RC.extOwn (e:Ext C N w C' N' w') (c:Nat):∀(cs:List AV) (o:Nat),(cs≠[]->¬C.own c)->RC C N w c cs o->(cs≠[]->¬C'.own c)
 |[],_,_,_=>fun h=>absurd rfl h
 |x::r,o,ho,h=>fun _=>by
  unfold RC at h;obtain⟨⟨v,h1,_⟩,_⟩:=h
  exact(e.keep c (Al6 h1) (ho (by simp))).1
theorem RC.ext (e:Ext C N w C' N' w') (c:Nat):∀(cs:List AV) (o:Nat),(cs≠[]->¬C.own c)->RC C N w c cs o->RC C' N' w' c cs o
 |[],_,_,_=>by unfold RC;trivial
 |x::r,o,ho,h=>by
  unfold RC at *;obtain⟨⟨v,h1,h2,h3⟩,h4⟩:=h
  exact⟨⟨v,(Ua (e.keep c (Al6 h1) (ho (by simp))).2 o none).trans h1,h2,R.ext e x v h3⟩,RC.ext e c r (o+1) (fun _=>ho (by simp)) h4⟩
theorem RL.ext (e:Ext C N w C' N' w'):∀(l:List AV) (vs:List Value),RL C N w l vs->RL C' N' w' l vs
 |[],[],_=>by unfold RL;trivial
 |x::r,v::s,h=>by
  unfold RL at *;exact⟨R.ext e x v h.1,RL.ext e r s h.2⟩
 |[],_::_,h=>by unfold RL at h;grind
 |_::_,[],h=>by unfold RL at h;grind
end
theorem RL.length:∀{l:List AV} {vs:List Value},RL C N w l vs->l.length=vs.length
 |[],[],_=>rfl
 |x::r,v::s,h=>by unfold RL at h;simp[RL.length h.2]
 |[],_::_,h=>by unfold RL at h;grind
 |_::_,[],h=>by unfold RL at h;grind
theorem RL.get:∀{l:List AV} {vs:List Value} (_:RL C N w l vs) (i:Nat) (x:AV),l[i]? =some x->∃v,vs[i]? =some v/\R C N w x v
 |x::r,v::s,h,0,y,hy=>by unfold RL at h;grind
 |x::r,v::s,h,i+1,y,hy=>by unfold RL at h;exact RL.get h.2 i y gr
 |[],[],_,i,y,hy=>gr
 |[],_::_,h,_,_,_=>gr
 |_::_,[],h,_,_,_=>by unfold RL at h;grind
theorem RL.append:∀{l:List AV} {vs:List Value} {l':List AV} {vs':List Value},RL C N w l vs->RL C N w l' vs'->RL C N w (l++l') (vs++vs')
 |[],[],_,_,_,k=>k
 |x::r,v::s,_,_,h,k=>by unfold RL at h;show RL C N w (x::(r++_)) (v::(s++_));unfold RL;exact⟨h.1,RL.append h.2 k⟩
 |[],_::_,_,_,h,_=>by unfold RL at h;grind
 |_::_,[],_,_,h,_=>by unfold RL at h;grind
theorem RL.drop:∀{l:List AV} {vs:List Value} (n:Nat),RL C N w l vs->RL C N w (l.drop n) (vs.drop n)
 |[],[],n,h=>by simp[RL]
 |x::r,v::s,0,h=>h
 |x::r,v::s,n+1,h=>by unfold RL at h;simpa using RL.drop n h.2
 |[],_::_,_,h=>by unfold RL at h;grind
 |_::_,[],_,h=>by unfold RL at h;grind
theorem RC.get:∀{cs:List AV} {c o:Nat} (_:RC C N w c cs o) (i:Nat) (x:AV),cs[i]? =some x->∃v,w.cell? ⟨c,o+i,none⟩=some v/\v.oneCell=true/\R C N w x v
 |x::r,c,o,h,0,y,hy=>by unfold RC at h;grind
 |x::r,c,o,h,i+1,y,hy=>by
  unfold RC at h;have:=RC.get h.2 i y gr
  grind
 |[],_,_,_,i,y,hy=>gr
theorem RC.drop:∀{cs:List AV} {c o:Nat} (n:Nat),RC C N w c cs o->RC C N w c (cs.drop n) (o+n)
 |cs,c,o,0,h=>h
 |[],_,_,n+1,_=>by simp[RC]
 |x::r,c,o,n+1,h=>by
  unfold RC at h;have:=RC.drop n h.2
  grind
theorem RC.take:∀{cs:List AV} {c o:Nat} (n:Nat) {l:List AV},Dr n cs=some l->RC C N w c cs o->RC C N w c l o
 |cs,c,o,0,l,ht,h=>by simp[Dr]at ht;subst ht;unfold RC;trivial
 |x::r,c,o,n+1,l,ht,h=>by
  unfold RC at h;simp only[Dr]at ht;cases hr:Dr n r with
  |none=>simp[hr]at ht
  |some l'=>
   simp[hr]at ht
   subst ht;unfold RC;exact⟨h.1,RC.take n hr h.2⟩
 |[],_,_,n+1,l,ht,h=>by simp[Dr]at ht
end
theorem Hu:∀{n:Nat} {l l':List AV},Dr n l=some l'->l'=l.take n/\l'.length=n
 |0,l,l',h=>by simp[Dr]at h;grind
 |n+1,[],l',h=>by simp[Dr]at h
 |n+1,x::r,l',h=>by
  simp only[Dr]at h;cases hr:Dr n r with
  |none=>simp[hr]at h
  |some l''=>
   simp[hr]at h
   subst h;obtain⟨h1,h2⟩:=Hu hr
   exact⟨by simp[h1],by simp[h2]⟩
theorem Tr.get_mkL{α}(v)(l r:Tr α)(k):(Tr.mkL v l r).get k=(Tr.n v l r).get k:=by cases l<;>rfl
abbrev ge_:=@Tr.get_mkL
theorem Tr.get_mkR{α}(v)(l r:Tr α)(k):(Tr.mkR v l r).get k=(Tr.n v l r).get k:=by cases r<;>rfl
abbrev gf_:=@Tr.get_mkR
theorem Aqn{n:Nat}(h:¬n=0):Nat.beq n 0=false:=by cases n with|zero=>exact absurd rfl h|succ n=>rfl
theorem Tr.get_succ{α}(v)(l r:Tr α)(k):(Tr.n v l r).get (k+1)=if k%2=0 then l.get (k / 2)else r.get (k / 2):=by
 simp only[Tr.get]
 by_cases h:k%2=0
 ·simp[h]
 ·have:Nat.beq (k%2) 0=false:=Aqn h
  grind
abbrev cz_:=@Tr.get_succ
theorem Tr.get_put_ne{α}:∀(f:Nat) (t:Tr α) (k:Nat) (x:Option α) (j:Nat),j≠k->(t.put f k x).get j=t.get j
 |0,t,k,x,j,h=>rfl
 |f+1,.e,0,x,j,h=>by
  cases j with
  |zero=>exact absurd rfl h
  |succ j=>simp[Tr.put,cz_,Tr.get]
 |f+1,.n v l r,0,x,j,h=>by
  cases j with
  |zero=>exact absurd rfl h
  |succ j=>simp[Tr.put,cz_]
 |f+1,.e,k+1,x,j,h=>by
  simp only[Tr.put]
  by_cases hk:k%2=0
  ·have hb:Nat.beq (k%2) 0=true:=by simp[hk]
   simp only[hb,cond_true,ge_];cases j with
   |zero=>simp[Tr.get]
   |succ j=>
    rw[cz_]
    by_cases hj:j%2=0
    ·rw[if_pos hj,Tr.get_put_ne f _ _ _ _ Om];simp[Tr.get]
    ·rw[if_neg hj];simp[Tr.get]
  ·have hb:Nat.beq (k%2) 0=false:=Aqn hk;simp only[hb,cond_false,gf_];cases j with
   |zero=>simp[Tr.get]
   |succ j=>
    rw[cz_]
    by_cases hj:j%2=0
    ·rw[if_pos hj];simp[Tr.get]
    ·rw[if_neg hj,Tr.get_put_ne f _ _ _ _ Om];simp[Tr.get]
 |f+1,.n v l r,k+1,x,j,h=>by
  simp only[Tr.put]
  by_cases hk:k%2=0
  ·have hb:Nat.beq (k%2) 0=true:=by simp[hk]
   simp only[hb,cond_true,ge_];cases j with
   |zero=>simp[Tr.get]
   |succ j=>
    rw[cz_,cz_]
    by_cases hj:j%2=0
    ·rw[if_pos hj,if_pos hj,Tr.get_put_ne f _ _ _ _ Om]
    ·grind
  ·have hb:Nat.beq (k%2) 0=false:=Aqn hk;simp only[hb,cond_false,gf_];cases j with
   |zero=>simp[Tr.get]
   |succ j=>
    rw[cz_,cz_]
    by_cases hj:j%2=0
    ·grind
    ·rw[if_neg hj,if_neg hj,Tr.get_put_ne f _ _ _ _ Om]
abbrev eg_:=@Tr.get_put_ne
theorem Tr.get_put_eq{α}:∀(f:Nat) (t:Tr α) (k:Nat) (x:Option α),k<f->(t.put f k x).get k=x
 |0,t,k,x,h=>absurd h Om
 |f+1,.e,0,x,_=>rfl
 |f+1,.n v l r,0,x,_=>rfl
 |f+1,.e,k+1,x,h=>by
  simp only[Tr.put]
  by_cases hk:k%2=0
  ·have hb:Nat.beq (k%2) 0=true:=by simp[hk]
   simp only[hb,cond_true,ge_];rw[cz_,if_pos hk,Tr.get_put_eq f .e (k / 2) x Om]
  ·have hb:Nat.beq (k%2) 0=false:=Aqn hk;simp only[hb,cond_false,gf_];rw[cz_,if_neg hk,Tr.get_put_eq f .e (k / 2) x Om]
 |f+1,.n v l r,k+1,x,h=>by
  simp only[Tr.put]
  by_cases hk:k%2=0
  ·have hb:Nat.beq (k%2) 0=true:=by simp[hk]
   simp only[hb,cond_true,ge_];rw[cz_,if_pos hk,Tr.get_put_eq f l (k / 2) x Om]
  ·have hb:Nat.beq (k%2) 0=false:=Aqn hk;simp only[hb,cond_false,gf_];rw[cz_,if_neg hk,Tr.get_put_eq f r (k / 2) x Om]
abbrev eh_:=@Tr.get_put_eq
theorem Tr.get_put{α}(t:Tr α)(k x j):(t.put (k+1) k x).get j=if j=k then x else t.get j:=by
 by_cases h:j=k
 ·subst h;rw[if_pos rfl,eh_ _ _ _ _ Om]
 ·rw[if_neg h,eg_ _ _ _ _ _ h]
abbrev dd_:=@Tr.get_put
theorem Ef{α β}(t)(k:Tr α->β):Ty t k=k t:=by cases t<;>rfl
theorem Sto.get_set(J:Sto)(a o b):(J.set a o).get b=if b=a then some o else J.get b:=by
 cases J;simp only[Sto.set,Ef,Sto.get,dd_]
abbrev aa_:=@Sto.get_set
theorem Sto.get_kill(J:Sto)(a b):(J.kill a).get b=if b=a then none else J.get b:=by
 cases J;simp only[Sto.kill,Ef,Sto.get,dd_]
abbrev bf_:=@Sto.get_kill
theorem Sto.get_new(J o b):(J.new o).get b=if b=nx J then some o else J.get b:=by
 cases J;simp only[Sto.new,Ef,Ak,Sto.get,nx,dd_];rfl
abbrev ag_:=@Sto.get_new
theorem Aq(J a o):nx (J.set a o)=nx J:=by cases J;simp only[Sto.set,Ef,nx]
theorem B3(J a):nx (J.kill a)=nx J:=by cases J;simp only[Sto.kill,Ef,nx]
theorem Ao(J o):nx (J.new o)=nx J+1:=by cases J;simp only[Sto.new,Ef,Ak,nx]
mutual
def KV:Key->Value->Prop
 |.bool b,v=>v=.bool b
 |.int k n,v=>v=.int k n
 |.str l,v=>∃s,v=.string s/\B2 s=l
 |.agg cs,v=>∃a,v=.agg a/\KVs cs a.toList
def KVs:List Key->List Value->Prop
 |[],[]=>True
 |x::r,v::s=>KV x v/\KVs r s
 |_,_=>False
end
def KS(d:TypeDesc)(v:Value):Prop:=
 match d with
 |.int k=>∃n,v=.int k n
 |.string=>∃s,v=.string s
 |.bool=>∃b,v=.bool b
 |_=>False
def KFs(P:Program):List Field->List Value->Prop
 |[],[]=>True
 |f::fs, v::vs=>(∃i d, P.info? f.type=some i/\P.underlying f.type=some d/\i.size=1/\Mx d=false/\KS d v/\f.name≠ "_")/\KFs P fs vs
 |_,_=>False
def KA(P:Program)(kt:Nat)(v:Value):Prop:=
 ∃n e a d inf,P.underlying kt=some (.array n e)/\v=.agg a/\P.info? e=some inf/\inf.size=1/\P.underlying e=some d/\Mx d=false/\a.size=n/\n≠0/\∀x∈a.toList,KS d x
def KT(P:Program)(kt:Nat)(v:Value):Prop:=
 (∃d,P.underlying kt=some d/\KS d v)∨
 (∃fs a,P.underlying kt=some (.struct fs)/\v=.agg a/\KFs P fs.toList a.toList/\Jz fs.toList 0=true/\P.stoodInHeld kt=false)∨KA P kt v
def ER(C:Ctx)(N:Nat)(w:World):List (Key×AV)->List MapEntry->Prop
 |[],[]=>True
 |x::r,e::s=>(KV x.1 e.key/\R C N w x.2 e.val)/\ER C N w r s
 |_,_=>False
structure D8 (P:Program)(C:Ctx)(N:Nat)(w:World)(kt:Nat)(es:List (Key×AV))(E:Array MapEntry)(clock:Nat):Prop where
 typed:∀e∈E.toList,KT P kt e.key
 perm:∃L,List.Perm L E.toList/\ER C N w es L
 keys:(E.toList.map (·.key)).Nodup
 born:∀e∈E.toList,e.born<clock
 apart:(E.toList.map (·.born)).Nodup
def codeX:XE->Code
 |.normal=>.skip
 |.exit id=>.exit id
 |.ret=>.ret
def C9(r:Loop):LS->Loop
 |.ready=>{ r with state:=.ready,pending:=none }
 |.busy=>{ r with state:=.busy,pending:=none }
 |.done x=>{ r with state:=.done,pending:=some (codeX x) }
def OR(P:Program)(C:Ctx)(w:World)(J:Sto)(a:Nat):AO->Prop
 |.cells vs=>∃c o cs T,C.loc a=some (c,o)/\w.heap[c]? =some (.cells cs T (0,0))/\RC C (nx J) w c vs o
 |.map kt es _=>∃c E clock,C.loc a=some (c,0)/\w.heap[c]? =some (.map E clock)/\D8 P C (nx J) w kt es E clock
 |.iter none _ left _=>∃c since seen last,C.loc a=some (c,0)/\w.heap[c]? =some (.mapIter none since seen last)/\left=[]
 |.iter (some m) ver left cur=>m<nx J/\∃c cm since seen last,C.loc a=some (c,0)/\w.heap[c]? =some (.mapIter (some cm) since seen last)/\
   ∀kt es ver',J.get m=some (.map kt es ver')->ver<=ver'/\(ver=ver'->∃E,C.loc m=some (cm,0)/\w.heap[cm]? =some (.map E since)/\last=since/\
    (∃L,List.Perm L (E.toList.filter fun e=> !seen.contains e.born)/\ER C (nx J) w left L)/\
    ∀k v,cur=some (k,v)->∃e∈E.toList,seen.back? =some e.born/\KV k e.key/\R C (nx J) w v e.val)
 |.stamp m ver k=>m<nx J/\∀kt es ver',J.get m=some (.map kt es ver')->ver<=ver'/\(ver=ver'->∃cm E clock,C.loc m=some (cm,0)/\w.heap[cm]? =some (.map E clock)/\
    ∃e∈E.toList,KV k e.key/\C.stm a=e.born)
 |.loop st=>∃c r,C.loc a=some (c,0)/\C.lr a=some r/\w.heap[c]? =some (.loop (C9 r st))
def Zu:AO->Bool
 |.stamp .. =>true
 |_=>false
structure Sim (P:Program)(C:Ctx)(w:World)(J:Sto):Prop where
 obj:∀a O,J.get a=some O->OR P C w J a O
 bound:∀a O,J.get a=some O->a<nx J
 dom:∀a p,C.loc a=some p->∃O,J.get a=some O/\Zu O=false
 inj:∀a b c o o',C.loc a=some (c,o)->C.loc b=some (c,o')->a=b
 lt:∀a c o,C.loc a=some (c,o)->c<w.heap.size
 rlt:∀b,C.res b->b<w.heap.size
 rdis:∀a c o,C.loc a=some (c,o)->¬C.res c
section
variable {C C':Ctx}{N N':Nat}{w w':World}
theorem ER.ext(e:Ext C N w C' N' w'):∀{l:List (Key×AV)} {L:List MapEntry},ER C N w l L->ER C' N' w' l L
 |[],[],_=>by unfold ER;trivial
 |x::r,f::s,h=>by unfold ER at *;exact⟨⟨h.1.1,R.ext e _ _ h.1.2⟩,ER.ext e h.2⟩
 |[],_::_,h=>by unfold ER at h;grind
 |_::_,[],h=>by unfold ER at h;grind
theorem D8.ext{P}(e:Ext C N w C' N' w'){kt es E clock}(h:D8 P C N w kt es E clock):D8 P C' N' w' kt es E clock:=
 ⟨h.typed,let⟨L,h1,h2⟩:=h.perm;⟨L,h1,h2.ext e⟩,h.keys,h.born,h.apart⟩
theorem RC.extHeap(e:Ext C N w C' N' w')(c)(hh:w'.heap[c]? =w.heap[c]?):∀(cs:List AV) (o:Nat),RC C N w c cs o->RC C' N' w' c cs o
 |[],_,_=>by unfold RC;trivial
 |x::r,o,h=>by
  unfold RC at *;obtain⟨⟨v,h1,h2,h3⟩,h4⟩:=h;exact⟨⟨v,(Ua hh o none).trans h1,h2,R.ext e x v h3⟩,RC.extHeap e c hh r (o+1) h4⟩
abbrev gg_:=@RC.extHeap
end
theorem OR.ext{P C C' w w' J J' a O}(h:OR P C w J a O)(e:Ext C (nx J) w C' (nx J') w')(ha:a<nx J)
  (hl:C'.loc a=C.loc a)(hh:∀c o,C.loc a=some (c,o)->w'.heap[c]? =w.heap[c]?)
  (hm:∀m,m<nx J->∀kt es' v',J'.get m=some (.map kt es' v')->∃kt' es v,J.get m=some (.map kt' es v)/\v<=v'/\(v=v'->C'.loc m=C.loc m/\∀c o,C.loc m=some (c,o)->w'.heap[c]? =w.heap[c]?)):
  OR P C' w' J' a O:=by
 cases O with
 |cells vs=>
  obtain⟨c,o,cs,T,h1,h2,h3⟩:=h;exact⟨c,o,cs,T,hl.trans h1,(hh c o h1).trans h2,gg_ e c (hh c o h1) vs o h3⟩
 |map kt es ver=>
  obtain⟨c,E,clock,h1,h2,h3⟩:=h;exact⟨c,E,clock,hl.trans h1,(hh c 0 h1).trans h2,h3.ext e⟩
 |iter m ver left cur=>
  cases m with
  |none=>
   obtain⟨c,since,seen,last,h1,h2,h3⟩:=h;exact⟨c,since,seen,last,hl.trans h1,(hh c 0 h1).trans h2,h3⟩
  |some m=>
   obtain⟨h0,c,cm,since,seen,last,h1,h2,h3⟩:=h;refine⟨ak_ h0 e.next,c,cm,since,seen,last,hl.trans h1,(hh c 0 h1).trans h2,fun kt es' v' hg=>?_⟩
   obtain⟨kt',es,v,g1,g2,g3⟩:=hm m h0 kt es' v' hg;obtain⟨k1,k2⟩:=h3 kt' es v g1;refine⟨ai_ k1 g2,fun hv=>?_⟩
   have hv1:ver=v:=by omega
   obtain⟨g4,g5⟩:=g3 Om;obtain⟨E,q1,q2,q3,⟨L,q4,q5⟩,q6⟩:=k2 hv1;exact⟨E,g4.trans q1,(g5 cm 0 q1).trans q2,q3,⟨L,q4,q5.ext e⟩,fun k x hk=>let⟨f,f1,f2,f3,f4⟩:=q6 k x hk;⟨f,f1,f2,f3,R.ext e _ _ f4⟩⟩
 |stamp m ver k=>
  obtain⟨h0,h3⟩:=h;refine⟨ak_ h0 e.next,fun kt es' v' hg=>?_⟩
  obtain⟨kt',es,v,g1,g2,g3⟩:=hm m h0 kt es' v' hg;obtain⟨k1,k2⟩:=h3 kt' es v g1;refine⟨ai_ k1 g2,fun hv=>?_⟩
  have hv1:ver=v:=by omega
  obtain⟨g4,g5⟩:=g3 Om;obtain⟨cm,E,clock,q1,q2,f,f1,f2,f3⟩:=k2 hv1
  exact⟨cm,E,clock,g4.trans q1,(g5 cm 0 q1).trans q2,f,f1,f2,by rw[e.stm a ha];exact f3⟩
 |loop st=>
  obtain⟨c,r,h1,h2,h3⟩:=h;exact⟨c,r,hl.trans h1,(e.lr a ha).trans h2,(hh c 0 h1).trans h3⟩
attribute [grind=] Sto.get_set Sto.get_new Sto.get_kill Aq Ao B3
end
structure Wr (w w':World)(c:Nat)(O:Obj):Prop where
 size:w'.heap.size=w.heap.size
 here:w'.heap[c]? =some O
 other:∀b,b≠c->w'.heap[b]? =w.heap[b]?
 os:w'.os=w.os/\w'.output=w.output
structure Pu (w w':World)(O:Obj):Prop where
 size:w'.heap.size=w.heap.size+1
 here:w'.heap[w.heap.size]? =some O
 other:∀b,b<w.heap.size->w'.heap[b]? =w.heap[b]?
 os:w'.os=w.os/\w'.output=w.output
theorem Pu.of_push{w w' O}(h:w'.heap=w.heap.push O)(os:w'.os=w.os/\w'.output=w.output):Pu w w' O:=
 ⟨gr,gr,gr,os⟩
abbrev fa_:=@Pu.of_push
def Ctx.add(C:Ctx)(a c o:Nat):Ctx:={ C with loc:=fun b=>if b=a then some (c,o)else C.loc b }
def Ctx.del(C:Ctx)(a:Nat):Ctx:={ C with loc:=fun b=>if b=a then none else C.loc b }
def Ctx.addStm(C:Ctx)(a:Nat)(n:Int):Ctx:={ C with stm:=fun b=>if b=a then n else C.stm b }
section
variable {P:Program}{C:Ctx}{w w':World}{J:Sto}
theorem Sim.own_lt(h:Sim P C w J){c}(hc:C.own c):c<w.heap.size:=hc.elim (h.rlt c) fun⟨a,o,ho⟩=>h.lt a c o ho
theorem Sim.same(h:Sim P C w J)(hs:w.heap.size<=w'.heap.size)(hh:∀b,b<w.heap.size->w'.heap[b]? =w.heap[b]?)(os:w'.os=w.os/\w'.output=w.output):
  Sim P C w' J/\Ext C (nx J) w C (nx J) w':=by
 have e:Ext C (nx J) w C (nx J) w':=⟨nl,hs,fun b hb ho=>⟨ho,hh b hb⟩,fun _ _ _ h=>h,fun _ _=>rfl,fun _ _=>rfl,
  fun a _ c o hc=>by unfold csize;rw[hh c (h.lt a c o hc)],⟨rfl,fun b hb=>hh b (h.rlt b hb)⟩,os⟩
 refine⟨⟨fun a O hg=>?_,h.bound,h.dom,h.inj,fun a c o hl=>ak_ (h.lt a c o hl) hs,fun b hb=>ak_ (h.rlt b hb) hs,h.rdis⟩,e⟩
 exact(h.obj a O hg).ext e (h.bound a O hg) rfl (fun c o hc=>hh c (h.lt a c o hc)) fun m _ kt es' v' hg'=>⟨kt,es',v',hg',nl,fun _=>⟨rfl,fun c o hc=>hh c (h.lt m c o hc)⟩⟩
theorem Sim.push(h:Sim P C w J){O}(p:Pu w w' O):Sim P C w' J/\Ext C (nx J) w C (nx J) w':=
 h.same (by have:=p.size;omega) p.other p.os
theorem Sim.new(h:Sim P C w J){B}(p:Pu w w' B)(O)(hO:Zu O=false)
  (hrel:Ext C (nx J) w (C.add (nx J) w.heap.size 0) (nx J+1) w'->OR P (C.add (nx J) w.heap.size 0) w' (J.new O) (nx J) O):
  Sim P (C.add (nx J) w.heap.size 0) w' (J.new O)/\Ext C (nx J) w (C.add (nx J) w.heap.size 0) (nx J+1) w':=by
 have hne:∀{a},a<nx J->¬a=nx J:=gr
 have bk:∀a,a<nx J->(C.add (nx J) w.heap.size 0).loc a=C.loc a:=fun a ha=>by simp[Ctx.add,hne ha]
 have e:Ext C (nx J) w (C.add (nx J) w.heap.size 0) (nx J+1) w':=⟨by omega,by have:=p.size;omega,
  fun b hb ho=>⟨fun hh=>hh.elim (fun hr=>ho (.inl hr)) fun⟨a,o,hao⟩=>by
   by_cases ha:a=nx J
   ·subst ha;simp[Ctx.add]at hao;omega
   ·simp[Ctx.add,ha]at hao;exact ho (.inr ⟨a,o,hao⟩),p.other b hb⟩,
  gr,fun _ _=>rfl,fun _ _=>rfl,
  fun a ha c o hc=>by rw[bk a ha]at hc;unfold csize;rw[p.other c (h.lt a c o hc)],⟨rfl,fun b hb=>p.other b (h.rlt b hb)⟩,p.os⟩
 refine⟨⟨fun a X hg=>?_,fun a X hg=>?_,fun a q hq=>?_,fun a b c o o' ha hb=>?_,fun a c o hl=>?_,fun b hb=>by have:=h.rlt b hb;have:=p.size;omega,fun a c o hl hr=>?_⟩,e⟩
 ·rw[ag_]at hg
  by_cases ha:a=nx J
  ·grind
  ·rw[if_neg ha]at hg;have hlt:=h.bound a X hg;refine(h.obj a X hg).ext gr hlt (bk a hlt) (fun c o hc=>p.other c (h.lt a c o hc)) fun m hm kt es' v' hg'=>?_
   rw[ag_,if_neg (hne hm)]at hg';exact⟨kt,es',v',hg',nl,fun _=>⟨bk m hm,fun c o hc=>p.other c (h.lt m c o hc)⟩⟩
 ·rw[Ao];rw[ag_]at hg
  by_cases ha:a=nx J
  ·omega
  ·rw[if_neg ha]at hg;have:=h.bound a X hg;omega
 ·rw[ag_]
  by_cases ha:a=nx J
  ·grind
  ·simp[Ctx.add,ha]at hq;rw[if_neg ha];exact h.dom a q hq
 ·by_cases ha':a=nx J
  ·by_cases hb':b=nx J
   ·omega
   ·simp[Ctx.add,ha']at ha;simp[Ctx.add,hb']at hb;have:=h.lt b c o' hb;omega
  ·by_cases hb':b=nx J
   ·simp[Ctx.add,ha']at ha;simp[Ctx.add,hb']at hb;have:=h.lt a c o ha;omega
   ·simp[Ctx.add,ha']at ha;simp[Ctx.add,hb']at hb;exact h.inj a b c o o' ha hb
 ·by_cases ha:a=nx J
  ·simp[Ctx.add,ha]at hl;have:=p.size;omega
  ·simp[Ctx.add,ha]at hl;have:=h.lt a c o hl;have:=p.size;omega
 ·by_cases ha:a=nx J
  ·simp[Ctx.add,ha]at hl;have:=h.rlt c hr;omega
  ·simp[Ctx.add,ha]at hl;exact h.rdis a c o hl hr
theorem Sim.upd(h:Sim P C w J){a c o B}(hl:C.loc a=some (c,o))(p:Wr w w' c B)(hsz:csize w' c=csize w c){O₀}(h₀:J.get a=some O₀)
  (O)(hO:Zu O=false)(hver:∀kt es v,O=.map kt es v->∃kt₀ es₀ v₀,O₀=.map kt₀ es₀ v₀/\v₀<v)
  (hrel:Ext C (nx J) w C (nx J) w'->OR P C w' (J.set a O) a O):
  Sim P C w' (J.set a O)/\Ext C (nx J) w C (nx J) w':=by
 have dq:∀b c' o',b≠a->C.loc b=some (c',o')->w'.heap[c']? =w.heap[c']? :=fun b c' o' hb hc=>p.other c' (fun hcc=>hb (h.inj b a c' o' o hc (hcc▸hl)))
 have e:Ext C (nx J) w C (nx J) w':=⟨nl,by rw[p.size];grind,
  fun b _ ho=>⟨ho,p.other b (fun hb=>ho (.inr (hb▸⟨a,o,hl⟩)))⟩,fun _ _ _ h=>h,fun _ _=>rfl,fun _ _=>rfl,
  fun b _ c' o' hc=>by
   by_cases hb:b=a
   ·grind
   ·unfold csize;grind,⟨rfl,fun b hb=>p.other b (fun hbc=>h.rdis a c o hl (hbc▸hb))⟩,p.os⟩
 refine⟨⟨fun b X hg=>?_,fun b X hg=>?_,fun b q hq=>?_,h.inj,fun b c' o' hc=>by rw[p.size];exact h.lt b c' o' hc,fun b hb=>by rw[p.size];exact h.rlt b hb,h.rdis⟩,e⟩
 ·rw[aa_]at hg
  by_cases hb:b=a
  ·grind
  ·rw[if_neg hb]at hg;refine(h.obj b X hg).ext gr (h.bound b X hg) rfl (fun c' o' hc=>dq b c' o' hb hc) fun m _ kt es' v' hg'=>?_
   grind
 ·rw[Aq];rw[aa_]at hg
  by_cases hb:b=a
  ·subst hb;exact h.bound b O₀ h₀
  ·rw[if_neg hb]at hg;exact h.bound b X hg
 ·rw[aa_]
  by_cases hb:b=a
  ·grind
  ·rw[if_neg hb];exact h.dom b q hq
theorem Sim.kill(h:Sim P C w J)(a):Sim P (C.del a) w (J.kill a)/\Ext C (nx J) w (C.del a) (nx J) w:=by
 have bk:∀b p,(C.del a).loc b=some p->b≠a/\C.loc b=some p:=fun b p hp=>by
  by_cases hb:b=a
  ·simp[Ctx.del,hb]at hp
  ·simp[Ctx.del,hb]at hp;grind
 have e:Ext C (nx J) w (C.del a) (nx J) w:=⟨nl,nl,fun b _ ho=>⟨fun hh=>hh.elim (fun hr=>ho (.inl hr)) fun⟨x,o,hx⟩=>ho (.inr ⟨x,o,(bk x _ hx).2⟩),rfl⟩,
  fun b _ p hp=>(bk b p hp).2,fun _ _=>rfl,fun _ _=>rfl,fun _ _ _ _ _=>rfl,⟨rfl,fun _ _=>rfl⟩,rfl,rfl⟩
 refine⟨⟨fun b X hg=>?_,fun b X hg=>?_,fun b q hq=>?_,fun x y c o o' hx hy=>h.inj x y c o o' (bk x _ hx).2 (bk y _ hy).2,fun x c o hx=>h.lt x c o (bk x _ hx).2,h.rlt,fun x c o hx=>h.rdis x c o (bk x _ hx).2⟩,e⟩
 ·rw[bf_]at hg
  by_cases hb:b=a
  ·grind
  ·rw[if_neg hb]at hg
   refine(h.obj b X hg).ext gr (h.bound b X hg) (by simp[Ctx.del,hb]) (fun _ _ _=>rfl) fun m _ kt es' v' hg'=>?_
   rw[bf_]at hg'
   by_cases hm:m=a
   ·grind
   ·rw[if_neg hm]at hg';exact⟨kt,es',v',hg',nl,fun _=>⟨by simp[Ctx.del,hm],fun _ _ _=>rfl⟩⟩
 ·rw[B3];rw[bf_]at hg
  by_cases hb:b=a
  ·grind
  ·rw[if_neg hb]at hg;exact h.bound b X hg
 ·obtain⟨hb,hq'⟩:=bk b q hq;rw[bf_,if_neg hb];exact h.dom b q hq'
theorem Sim.replace(h:Sim P C w J){a c o o' B}(hl:C.loc a=some (c,o))(p:Wr w w' c B){O₀}(h₀:J.get a=some O₀)
  (O)(hO:Zu O=false)
  (hrel:Ext C (nx J) w ((C.del a).add (nx J) c o') (nx J+1) w'->OR P ((C.del a).add (nx J) c o') w' ((J.kill a).new O) (nx J) O):
  Sim P ((C.del a).add (nx J) c o') w' ((J.kill a).new O)/\Ext C (nx J) w ((C.del a).add (nx J) c o') (nx J+1) w':=by
 have han:a<nx J:=h.bound a O₀ h₀;have dq:∀b c' o',b≠a->C.loc b=some (c',o')->w'.heap[c']? =w.heap[c']? :=fun b c' o' hb hc=>p.other c' (fun hcc=>hb (h.inj b a c' o' o hc (hcc▸hl)))
 have bk:∀b q,((C.del a).add (nx J) c o').loc b=some q->(b=nx J/\q=(c,o'))∨(b≠nx J/\b≠a/\C.loc b=some q):=fun b q hq=>by
  by_cases hb:b=nx J
  ·simp[Ctx.add,hb]at hq;grind
  ·by_cases hb':b=a
   ·simp[Ctx.add,Ctx.del,hb,hb']at hq;omega
   ·simp[Ctx.add,Ctx.del,hb,hb']at hq;grind
 have jd:∀b,b<nx J->b≠a->((C.del a).add (nx J) c o').loc b=C.loc b:=fun b hb hb'=>by simp[Ctx.add,Ctx.del,hb',show ¬b=nx J by omega]
 have cr:∀b X,((J.kill a).new O).get b=some X->(b=nx J/\X=O)∨(b≠nx J/\b≠a/\J.get b=some X):=gr
 have e:Ext C (nx J) w ((C.del a).add (nx J) c o') (nx J+1) w':=⟨by omega,by rw[p.size];grind,
  fun b _ ho=>⟨fun hh=>hh.elim (fun hr=>ho (.inl hr)) fun⟨x,y,hxy⟩=>by
   rcases bk x _ hxy with⟨_,hq⟩|⟨_,_,hq⟩
   ·cases hq;exact ho (.inr ⟨a,o,hl⟩)
   ·exact ho (.inr ⟨x,y,hq⟩),p.other b (fun hb=>ho (.inr (hb▸⟨a,o,hl⟩)))⟩,
  gr,fun _ _=>rfl,fun _ _=>rfl,
  fun b hb c' y hc=>by
   rcases bk b _ hc with⟨h1,_⟩|⟨_,h2,h3⟩
   ·omega
   ·unfold csize;grind,⟨rfl,fun b hb=>p.other b (fun hbc=>h.rdis a c o hl (hbc▸hb))⟩,p.os⟩
 have hnx:nx ((J.kill a).new O)=nx J+1:=gr
 refine⟨⟨fun b X hg=>?_,fun b X hg=>?_,fun b q hq=>?_,fun x y c' y1 y2 hx hy=>?_,fun x c' y hx=>?_,fun b hb=>by rw[p.size];exact h.rlt b hb,fun x c' y hx=>?_⟩,e⟩
 ·rcases cr b X hg with⟨h1,h2⟩|⟨h1,h2,h3⟩
  ·grind
  ·have hlt:=h.bound b X h3;refine(h.obj b X h3).ext gr hlt (jd b hlt h2) (fun c' y hc=>dq b c' y h2 hc) fun m hm kt es' v' hg'=>?_
   grind
 ·rw[hnx]
  rcases cr b X hg with⟨h1,_⟩|⟨_,_,h3⟩
  ·omega
  ·have:=h.bound b X h3;omega
 ·rcases bk b q hq with⟨h1,_⟩|⟨h1,h2,h3⟩
  ·grind
  ·obtain⟨X,k1,k2⟩:=h.dom b q h3
   grind
 ·rcases bk x _ hx with⟨h1,h2⟩|⟨h1,h2,h3⟩<;>rcases bk y _ hy with⟨k1,k2⟩|⟨k1,k2,k3⟩
  ·omega
  ·cases h2;exact absurd (h.inj y a _ _ _ k3 hl) k2
  ·cases k2;exact absurd (h.inj x a _ _ _ h3 hl) h2
  ·exact h.inj x y c' y1 y2 h3 k3
 ·rw[p.size]
  rcases bk x _ hx with⟨_,h2⟩|⟨_,_,h3⟩
  ·cases h2;exact h.lt a c o hl
  ·exact h.lt x c' y h3
 ·rcases bk x _ hx with⟨_,h2⟩|⟨_,_,h3⟩
  ·cases h2;exact h.rdis a c o hl
  ·exact h.rdis x c' y h3
theorem Sim.newStamp(h:Sim P C w J)(n:Int)(m ver k)(hm:m<nx J)(hrel:∀kt es ver',J.get m=some (.map kt es ver')->ver<=ver'/\(ver=ver'->∃cm E clock,C.loc m=some (cm,0)/\w.heap[cm]? =some (.map E clock)/\
        ∃e∈E.toList,KV k e.key/\n=e.born)):
    Sim P (C.addStm (nx J) n) w (J.new (.stamp m ver k))/\Ext C (nx J) w (C.addStm (nx J) n) (nx J+1) w:=by
  have hne:∀{a},a<nx J->¬a=nx J:=gr
  have e:Ext C (nx J) w (C.addStm (nx J) n) (nx J+1) w:=⟨by omega,nl,fun b _ ho=>⟨ho,rfl⟩,fun _ _ _ h=>h,
    fun a ha=>by simp[Ctx.addStm,hne ha],fun _ _=>rfl,fun _ _ _ _ _=>rfl,⟨rfl,fun _ _=>rfl⟩,rfl,rfl⟩
  refine⟨⟨fun a X hg=>?_,fun a X hg=>?_,fun a q hq=>?_,h.inj,h.lt,h.rlt,h.rdis⟩,e⟩
  · rw[ag_]at hg
    by_cases ha:a=nx J
    · subst ha;simp at hg;subst hg
      refine⟨gr,fun kt es ver' hg'=>?_⟩
      rw[ag_,if_neg (hne hm)]at hg';obtain⟨h1,h2⟩:=hrel kt es ver' hg';refine⟨h1,fun hv=>?_⟩
      obtain⟨cm,E,clock,q1,q2,f,f1,f2,f3⟩:=h2 hv
      exact⟨cm,E,clock,q1,q2,f,f1,f2,by simp[Ctx.addStm,f3]⟩
    · rw[if_neg ha]at hg
      refine(h.obj a X hg).ext gr (h.bound a X hg) rfl (fun _ _ _=>rfl) fun x hx kt es' v' hg'=>?_
      rw[ag_,if_neg (hne hx)]at hg';exact⟨kt,es',v',hg',nl,fun _=>⟨rfl,fun _ _ _=>rfl⟩⟩
  · rw[Ao]
    rw[ag_]at hg
    by_cases ha:a=nx J
    · omega
    · rw[if_neg ha]at hg;have:=h.bound a X hg;omega
  · obtain⟨X,h1,h2⟩:=h.dom a q hq
    have:=h.bound a X h1
    grind
end
theorem Hb(c o n):(⟨c,o,none⟩:Addr).add n=⟨c,o+n,none⟩:=by
 unfold Addr.add;grind
section
variable {P:Program}{C:Ctx}{N:Nat}{w:World}
theorem Mh:∀(cs:List AV) (c o i:Nat) (acc:Array Value),RC C N w c cs (o+i)->
  ∃l,(loadCellsFrom ⟨c,o,none⟩ i cs.length acc).run P w=.ok (acc++l.toArray) w/\RL C N w cs l/\∀x∈l,x.oneCell=true
 |[],c,o,i,acc,_=>⟨[],by simp[loadCellsFrom],by unfold RL;trivial,by simp⟩
 |x::r,c,o,i,acc,h=>by
  unfold RC at h;obtain⟨⟨v,h1,h2,h3⟩,h4⟩:=h;obtain⟨l,k1,k2,k3⟩:=Mh r c o (i+1) (acc.push v) h4
  refine⟨v::l,?_,by unfold RL;grind,gr⟩
  simp only[as_,loadCellsFrom,Sem.run_bind,run_load,Hb,h1,Result.andThen_ok,k1]
  simp
theorem Adj{cs c o}(h:RC C N w c cs o):
  ∃a,(loadCells ⟨c,o,none⟩ cs.length).run P w=.ok a w/\RL C N w cs a.toList/\∀x∈a.toList,x.oneCell=true:=by
 obtain⟨l,h1,h2,h3⟩:=Mh (P:=P) cs c o 0 #[] h
 exact⟨l.toArray,by simpa[loadCells]using h1,gr,gr⟩
def Wg:Array Value->Nat->List Value->Array Value
 |cs,_,[]=>cs
 |cs,k,v::r=>Wg (cs.setIfInBounds k v) (k+1) r
theorem Nf:∀(l:List Value) (cs:Array Value) (k:Nat),(Wg cs k l).size=cs.size
 |[],_,_=>rfl
 |v::r,cs,k=>by simp[Wg,Nf r]
theorem Pw:∀(l:List Value) (cs:Array Value) (k:Nat),k+l.length<=cs.size->∀j,(Wg cs k l)[j]? =if k<=j/\j<k+l.length then l[j-k]? else cs[j]?
 |[],cs,k,_,j=>by simp[Wg];omega
 |v::r,cs,k,h,j=>by
  simp only[as_]at h;rw[Wg,Pw r _ _ gr]
  grind
theorem Akr(v:Value):v.oneCell'=v.oneCell:=by cases v<;>rfl
theorem Lq:∀(l:List Value) (w:World) (c o i:Nat) (cs:Array Value) (T:TypeId),w.heap[c]? =some (.cells cs T (0,0))->
  (∀x∈l,x.oneCell=true)->o+i+l.length<=cs.size->∃w',(storeCells ⟨c,o,none⟩ l i).run P w=.ok () w'/\Wr w w' c (.cells (Wg cs (o+i) l) T (0,0))
 |[],w,c,o,i,cs,T,h,_,_=>⟨w,by simp[storeCells],⟨rfl,h,fun _ _=>rfl,rfl,rfl⟩⟩
 |v::r,w,c,o,i,cs,T,h,h1,h2=>by
  simp only[as_]at h2
  have dm:w.cell? ⟨c,o+i,none⟩=some cs[o+i]:=by
   unfold World.cell?;grind
  have hfr:w.frozen? ⟨c,o+i,none⟩=false:=by unfold World.frozen?;simp[h]
  have hw1:(w.setCell ⟨c,o+i,none⟩ v).heap[c]? =some (.cells (cs.setIfInBounds (o+i) v) T (0,0)):=by
   simp only[World.setCell,dq_,if_true];simp[h]
  obtain⟨w',k1,k2⟩:=Lq r (w.setCell ⟨c,o+i,none⟩ v) c o (i+1) (cs.setIfInBounds (o+i) v) T hw1 (fun x hx=>h1 x (by simp[hx])) gr
  refine⟨w',?_,?_⟩
  ·have hv:v.oneCell'=true:=by rw[Akr];grind
   simp only[storeCells,Sem.run_bind,Hb,run_store P w _ v _ hv,dm,hfr,bp_,if_false,Result.andThen_ok];exact k1
  ·refine⟨by rw[k2.size];simp[World.setCell],?_,fun b hb=>?_,k2.os⟩
   ·rw[k2.here,Wg,show o+i+1=o+(i+1) by omega]
   ·rw[k2.other b hb];simp only[World.setCell,dq_]
    grind
end
def Runs{α:Type}(P:Program)(C:Ctx)(w:World)(J:Sto)(s:Sem α)(ok:α->Value->Prop)(v:AV)(J':Sto):Prop:=
 ∃y x w' C',s.run P w=.ok y w'/\ok y x/\Sim P C' w' J'/\Ext C (nx J) w C' (nx J') w'/\R C' (nx J') w' v x
abbrev Iv(P:Program)(C:Ctx)(w:World)(J:Sto)(s:Sem Value)(v:AV)(J':Sto):Prop:=Runs P C w J s (fun y x=>y=x) v J'
section
variable {P:Program}{C:Ctx}{w:World}{J J':Sto}
theorem Ap{t:TypeId}{ti}(h:Ay P t=some ti):∃i d,P.info? t=some i/\P.underlying t=some d/\ti.desc=d/\ti.size=i.size/\ti.bytes=i.bytes/\ti.zero=Al3 (Mx d) i.zero/\ti.isAgg=Mx d:=by
 unfold Ay at h
 grind
theorem Aa{t d}(h:P.underlying t=some d)(w):(underlying t).run P w=.ok d w:=by
 unfold underlying;simp[h]
theorem Cq{t i}(h:P.info? t=some i)(w):(typeInfo t).run P w=.ok i w:=by
 unfold typeInfo;simp[h]
theorem A9{t i}(h:P.info? t=some i)(w):(sizeOf t).run P w=.ok i.size w:=by
 unfold sizeOf;simp[Cq h]
theorem Fp{t d}(h:P.underlying t=some d)(w):(isAgg t).run P w=.ok (Mx d) w:=by
 unfold isAgg;simp only[Sem.run_bind,Aa h,Result.andThen_ok];cases d<;>rfl
theorem Sj{v}(h:Af2 v=true):v.oneCell=true:=by
 cases v<;>first|rfl|(simp[Af2,Xl]at h)
theorem Adk{v}(h:Xl v=true):v.oneCell=true:=by
 cases v<;>first|rfl|(simp[Xl]at h)
theorem R.oneCell{N x v}(h:R C N w x v)(h1:x≠.any)(h2:∀l,x≠.agg l)(h3:∀l,x≠.tup l):v.oneCell=true:=by
 cases x<;>unfold R at h
 case any=>exact absurd rfl h1
 case bool=>subst h;rfl
 case int=>subst h;rfl
 case str=>obtain⟨s,rfl,_⟩:=h;rfl
 case nil=>obtain⟨rfl,h⟩:=h;exact Adk h
 case pr=>obtain⟨ad,rfl,_⟩:=h;rfl
 case pv=>obtain⟨c,o,rfl,_⟩:=h;rfl
 case sr=>obtain⟨ad,k,rfl,_⟩:=h;rfl
 case sv=>obtain⟨ad,k,rfl,_⟩:=h;rfl
 case mp=>obtain⟨c,rfl,_⟩:=h;rfl
 case it=>obtain⟨c,rfl,_⟩:=h;rfl
 case stp=>obtain⟨rfl,_⟩:=h;rfl
 case yl=>obtain⟨rfl,_⟩:=h;rfl
 case flt=>subst h;rfl
 case fn=>obtain⟨a,b,rfl,_⟩:=h;rfl
 case ifc=>obtain⟨y,rfl,_⟩:=h;rfl
 case agg l=>exact absurd rfl (h2 l)
 grind
theorem Ng{v:Value}(h:v.oneCell=true):v.cells=#[v]:=by
 cases v<;>first|rfl|(simp[Value.oneCell]at h)
theorem Hc{N x n l v}(h:x.cellsN n=some l)(hr:R C N w x v):
  RL C N w l v.cells.toList/\v.cells.size=n/\l.length=n/\∀y∈v.cells.toList,y.oneCell=true:=by
 have one:x≠.any->(∀l,x≠.agg l)->(∀l,x≠.tup l)->cond (Nat.beq n 1) (some [x]) none=some l->
   RL C N w l v.cells.toList/\v.cells.size=n/\l.length=n/\∀y∈v.cells.toList,y.oneCell=true:=by
  intro h1 h2 h3 h4;have hv:=hr.oneCell h1 h2 h3
  have hn:n=1:=by
   by_cases hn:n=1
   ·exact hn
   ·have:Nat.beq n 1=false:=by rw[bz_];intro hb;exact hn (ac_ hb)
    grind
  subst hn
  simp at h4
  subst h4;rw[Ng hv]
  refine⟨by simp only[RL];grind,rfl,rfl,gr⟩
 cases x<;>simp only[AV.cellsN]at h
 case any=>cases h
 case tup=>cases h
 case agg cs=>
  unfold R at hr;obtain⟨a,rfl,h1,h2⟩:=hr
  have hn:cs.length=n:=by
   by_cases hn:cs.length=n
   ·exact hn
   ·have:Nat.beq cs.length n=false:=by rw[bz_];intro hb;exact hn (ac_ hb)
    grind
  simp[hn]at h
  subst h;have:=h1.length
  exact⟨h1,by simp[Value.cells];grind,hn,h2⟩
 all_goals exact one gr gr gr h
theorem Aec{β}:∀(l:List Nat) (k:List Nat->β),Af1 l k=k l
 |[],k=>rfl
 |x::r,k=>by simp only[Af1,Ak,Aec r]
theorem Lr{N}(v):R C N w (Yh v) v:=by
 unfold Yh
 split
 ·unfold R;rfl
 ·unfold R;rfl
 ·rw[Ak];unfold R;rfl
 ·unfold R;rfl
 ·rw[Aec];unfold R;grind
 ·rw[Ak];unfold R;rfl
 ·cases h:Xl v
  ·simp only[cond_false];unfold R;trivial
  ·simp only[cond_true];unfold R;grind
theorem N3{N}:∀(l:List Value),RL C N w (Akm l) l
 |[]=>by unfold Akm RL;trivial
 |v::r=>by unfold Akm RL;exact⟨Lr v,N3 r⟩
theorem Py:∀{l:List Value},Q5 l=true->∀x∈l,x.oneCell=true
 |[],_,x,hx=>gr
 |v::r,h,x,hx=>by
  simp only[Q5,ad_]at h
  rcases an_.1 hx with rfl|hx
  ·exact Sj h.1
  ·exact Py h.2 x hx
theorem Fq{b z l}(h:Al3 b z=some l){N}:∃v,z=some v/\RL C N w l v.cells.toList/\(∀x∈v.cells.toList,x.oneCell=true)/\
  (b=true->∃a,v=.agg a)/\(b=false->∃u,l=[u]/\R C N w u v):=by
 unfold Al3 at h
 split at h
 ·rename_i v
  split at h
  ·rename_i cs
   split at h
   ·rename_i hp
    simp only[ad_]at hp;cases h;exact⟨.agg cs,rfl,N3 _,Py hp.2,fun _=>⟨cs,rfl⟩,gr⟩
   grind
  ·rename_i hna
   split at h
   ·rename_i hp
    simp only[ad_,bi_]at hp;cases h;have h1:=Sj hp.2;refine⟨v,rfl,?_⟩;rw[Ng h1]
    exact⟨(by unfold RL;exact⟨Lr v,by unfold RL;trivial⟩),gr,gr,fun _=>⟨_,rfl,Lr v⟩⟩
   grind
 grind
end
section
variable {C:Ctx}{N:Nat}{w:World}
theorem Aoj(v):R C N w (ofV v) v:=by
 unfold ofV
 split
 ·rename_i cs
  cases h:Q5 cs.toList
  ·simp only[cond_false];unfold R;trivial
  ·simp only[cond_true];unfold R;exact⟨cs,rfl,N3 _,Py h⟩
 ·unfold R;exact⟨_,rfl,N3 _⟩
 ·unfold R;exact⟨_,rfl,Lr _⟩
 ·rename_i f a b
  cases h:(a.isEmpty&&b.isEmpty)
  ·simp only[cond_false];unfold R;trivial
  ·simp only[cond_true]
   simp at h
   unfold R
   exact⟨a,b,rfl,by rw[h.1];unfold RL;trivial,by rw[h.2];unfold RL;trivial⟩
 ·exact Lr v
end
def TR(C:Ctx)(N:Nat)(w:World)(tm:Tr AV)(tmps:Array Value):Prop:=∀i v,tm.get i=some v->R C N w v (tmps.getD i undef)
def Gk(L:RF)(C:Ctx)(N:Nat)(w:World):Prop:=
 L.aY<N/\(∀c o,C.loc L.aY=some (c,o)->c=(C.stm L.aY).toNat)/\∃r,C.lr L.aY=some r/\TR C N w L.tm r.tmps/\r.tmps.size=L.nt/\r.params=L.ps/\r.assign=L.assign/\r.body=L.body
def Iw(C:Ctx)(N:Nat)(w:World)(E:Env):Prop:=(∀g cs,E.gl g=some cs->R C N w (.pv cs) (.pointer (some ⟨g,0,none⟩)))/\
 (∀c P,E.hold c=some P->¬C.own c/\∃cs T fz,w.heap[c]? =some (.cells cs T fz)/\P cs)/\∀L∈E.loops,Gk L C N w
section
variable {E:Env}{C C':Ctx}{N N':Nat}{w w':World}{tm:Tr AV}{a:Act}
theorem TR.ext{tmps}(h:TR C N w tm tmps)(e:Ext C N w C' N' w'):TR C' N' w' tm tmps:=fun i v hv=>R.ext e _ _ (h i v hv)
theorem Gk.ext{L}(h:Gk L C N w)(e:Ext C N w C' N' w'):Gk L C' N' w':=by
 obtain⟨h1,h2,r,h3,h4,h5,h6⟩:=h
 exact⟨ak_ h1 e.next,fun c o hc=>by rw[e.stm _ h1];exact h2 c o (e.loc _ h1 _ hc),r,(e.lr _ h1).trans h3,h4.ext e,h5,h6⟩
theorem Iw.ext(h:Iw C N w E)(e:Ext C N w C' N' w'):Iw C' N' w' E:=by
 refine⟨fun g cs hg=>R.ext e _ _ (h.1 g cs hg),fun c P hc=>?_,fun L hL=>(h.2.2 L hL).ext e⟩
 obtain⟨h1,cs,T,fz,h2,h3⟩:=h.2.1 c P hc;obtain⟨k1,k2⟩:=e.keep c (bc_.1 h2).1 h1
 grind
theorem Be(hg:Iw C N w E)(ht:TR C N w tm a.tmps)(x):R C N w (opd E tm x) (a.eval x):=by
 cases x with
 |tmp t=>
  simp only[opd,Act.eval]
  split
  ·rename_i v hv;exact ht t v hv
  ·unfold R;trivial
 |const v=>exact Aoj v
 |global g=>
  simp only[opd,Act.eval]
  split
  ·rename_i cs hc;exact hg.1 g cs hc
  ·unfold R;trivial
 |func f=>
  simp only[opd,Act.eval];unfold R
  exact⟨#[],#[],rfl,by unfold RL;trivial,by unfold RL;trivial⟩
theorem Dm(hg:Iw C N w E)(ht:TR C N w tm a.tmps):∀(l:List Operand),RL C N w (opds E tm l) (l.map a.eval)
 |[]=>by simp only[opds,gs_];unfold RL;trivial
 |x::r=>by simp only[opds,cn_];unfold RL;exact⟨Be hg ht x,Dm hg ht r⟩
end
theorem Jg(a b):Tz a b=(a==b):=by
 cases a<;>cases b<;>simp only[Tz]
 ·rename_i m n
  by_cases h:m=n
  ·subst h;simp
  ·have:Nat.beq m n=false:=by rw[bz_];intro hb;exact h (ac_ hb)
   grind
 ·rfl
 ·rfl
 ·rename_i m n
  by_cases h:m=n
  ·subst h;simp
  ·have:Nat.beq m n=false:=by rw[bz_];intro hb;exact h (ac_ hb)
   grind
theorem Ec(a b):T1 a b=decide (a<=b):=by
 cases a<;>cases b<;>simp only[T1]
 ·rename_i m n
  rw[fq_,hb_,decide_eq_true_iff];simp
 ·grind
 ·grind
 ·rename_i m n
  rw[fq_,hb_,decide_eq_true_iff];omega
theorem N4(a b):Ed a b=true↔a=b:=by cases a<;>cases b<;>simp[Ed]
theorem Pz(k n)(h:M0 k n=true):k.wrap n=n:=by
 cases n with
 |ofNat m=>
  have e:Int.ofNat m=(m:Int):=rfl;rw[e];cases k
  ·have h':m<=127:=al_ h;exact IntWalk.i8_in _ ⟨by omega,by omega⟩
  ·have h':m<=32767:=al_ h;exact IntWalk.i16_in _ ⟨by omega,by omega⟩
  ·have h':m<=2147483647:=al_ h;exact IntWalk.i32_in _ ⟨by omega,by omega⟩
  ·have h':m<=9223372036854775807:=al_ h;exact IntWalk.i64_in _ ⟨by omega,by omega⟩
  ·have h':m<=255:=al_ h;exact IntWalk.u8_in _ ⟨by omega,by omega⟩
  ·have h':m<=65535:=al_ h;exact IntWalk.u16_in _ ⟨by omega,by omega⟩
  ·have h':m<=4294967295:=al_ h;exact IntWalk.u32_in _ ⟨by omega,by omega⟩
  ·have h':m<=18446744073709551615:=al_ h;exact IntWalk.u64_in _ ⟨by omega,by omega⟩
 |negSucc m=>
  have e:Int.negSucc m= -((m:Int)+1):=by omega
  cases k
  ·have h':m<=127:=al_ h;rw[e];exact IntWalk.i8_in _ ⟨by omega,by omega⟩
  ·have h':m<=32767:=al_ h;rw[e];exact IntWalk.i16_in _ ⟨by omega,by omega⟩
  ·have h':m<=2147483647:=al_ h;rw[e];exact IntWalk.i32_in _ ⟨by omega,by omega⟩
  ·have h':m<=9223372036854775807:=al_ h;rw[e];exact IntWalk.i64_in _ ⟨by omega,by omega⟩
  all_goals (cases h)
theorem Nh(k n):Me k n=.int k (k.wrap n):=by
 have key:∀m:Int,cond (M0 k m) (AV.int k m) (.int k (k.wrap m))=.int k (k.wrap m):=fun m=>by
  cases h:M0 k m
  ·rfl
  ·simp[Pz k m h]
 cases n<;>simp only[Me,Ak]<;>exact key _
theorem Aok(a b):Ako a b=a+b:=by cases a<;>cases b<;>rfl
theorem Wh(a b):Af3 a b=a-b:=by
 cases a with
 |ofNat m=>cases b with
  |ofNat n=>
   simp only[Af3];cases h:Nat.ble n m
   ·rfl
   ·simp only[cond_true];have:n<=m:=by simpa using h
    grind
  |negSucc n=>rfl
 |negSucc m=>cases b<;>rfl
theorem Xo{a b}(h:B2 a=B2 b):a=b:=by
 unfold B2 at h
 have h1:a.data.toList=b.data.toList:=by
  have key:∀(l m:List UInt8),l.map UInt8.toNat=m.map UInt8.toNat->l=m:=by
   intro l
   induction l with
   |nil=>intro m h;cases m with
    |nil=>rfl
    |cons=>simp at h
   |cons x r ih=>intro m h;cases m with
    |nil=>simp at h
    |cons y s=>simp only[cn_,dl_]at h;rw[UInt8.toNat_inj.1 h.1,ih s h.2]
  grind
 cases a;cases b;simp at h1;grind
theorem Gu:∀(a b:List Nat),Fm a b=true↔a=b
 |[],[]=>by simp[Fm]
 |[],_::_=>by simp[Fm]
 |_::_,[]=>by simp[Fm]
 |x::r,y::s=>by
  simp only[Fm]
  by_cases h:x=y
  ·subst h;simp[Gu r s]
  ·have:Nat.beq x y=false:=by rw[bz_];intro hb;exact h (ac_ hb)
   grind
theorem Lt(a b):Fm (B2 a) (B2 b)=(a.toList==b.toList):=by
 rw[fq_,Gu];simp only[Go.ByteArray.toList_eq,beq_iff_eq]
 constructor
 ·intro h;rw[Xo h]
 ·intro h;unfold B2;rw[h]
theorem Aaj:∀(a b:List UInt8),C8 (a.map UInt8.toNat) (b.map UInt8.toNat)=Op.bytesLess a b
 |_,[]=>by cases ‹List UInt8›<;>simp[C8,Op.bytesLess]
 |[],_::_=>by simp[C8,Op.bytesLess]
 |x::r,y::s=>by
  simp only[cn_,C8,Op.bytesLess,Aaj r s]
  by_cases h:x<y
  ·have:Nat.blt x.toNat y.toNat=true:=by simp[Nat.blt];exact UInt8.lt_iff_toNat_lt.1 h
   grind
  ·have h1:Nat.blt x.toNat y.toNat=false:=by
    rw[bz_];intro hb
    have:x.toNat<y.toNat:=by simp[Nat.blt]at hb;exact hb
    exact h (UInt8.lt_iff_toNat_lt.2 this)
   by_cases h2:x=y
   ·subst h2;simp[h1,h]
   ·have:Nat.beq x.toNat y.toNat=false:=by rw[bz_];intro hb;exact h2 (UInt8.toNat_inj.1 (ac_ hb))
    grind
theorem Aak(a b):B2 (a++b)=B2 a++B2 b:=by
 unfold B2;simp
theorem Fg(a):(B2 a).length=a.size:=by unfold B2;simp
section
variable {P:Program}{C:Ctx}{N:Nat}{w:World}
theorem Al7(a b:Int):(!decide (b<=a))=decide (a<b):=gr
theorem Ahx{op k a b v}(h:Ic op k a b=some v)(t):∃x,(binOp op t (.int k a) (.int k b)).run P w=.ok x w/\R C N w v x:=by
 cases op<;>simp only[Ic]at h
 case add=>cases h;exact⟨_,by simp only[binOp];simp[Op.intArith];rfl,by rw[Nh,Aok];unfold R;rfl⟩
 case sub=>cases h;exact⟨_,by simp only[binOp];simp[Op.intArith];rfl,by rw[Nh,Wh];unfold R;rfl⟩
 case mul=>cases h;exact⟨_,by simp only[binOp];simp[Op.intArith];rfl,by rw[Nh];unfold R;rfl⟩
 case eql=>cases h;exact⟨_,by simp only[binOp];simp[Op.intCmp];rfl,by unfold R;rw[Jg]⟩
 case neq=>cases h;exact⟨_,by simp only[binOp];simp[Op.intCmp];rfl,by unfold R;rw[Jg];rfl⟩
 case lss=>cases h;exact⟨_,by simp only[binOp];simp[Op.intCmp];rfl,by unfold R;rw[Ec,Al7]⟩
 case leq=>cases h;exact⟨_,by simp only[binOp];simp[Op.intCmp];rfl,by unfold R;rw[Ec]⟩
 case gtr=>cases h;exact⟨_,by simp only[binOp];simp[Op.intCmp];rfl,by unfold R;rw[Ec,Al7]⟩
 case geq=>cases h;exact⟨_,by simp only[binOp];simp[Op.intCmp];rfl,by unfold R;rw[Ec]⟩
 case quo=>
  split at h
  ·rename_i a b
   cases h
   refine⟨_,by simp only[binOp];simp[Op.intDiv];rfl,?_⟩
   rw[Nh];unfold R;rfl
  ·cases h
 case rem=>
  split at h
  ·rename_i a b
   rw[Ak]at h;cases h
   exact⟨_,by simp only[binOp];simp[Op.intDiv];rfl,by unfold R;rfl⟩
  ·cases h
 all_goals (cases h)
end
section
variable {P:Program}{C:Ctx}{N:Nat}{w:World}
theorem Ub{t:TypeId}{ti}(hti:Ay P t=some ti){z}(hz:Lh ti=some z):∃Z,(zeroValue t).run P w=.ok Z w/\R C N w z Z:=by
 obtain⟨i,d,g1,g2,g3,g4,_,g6,g7⟩:=Ap hti;unfold Lh at hz
 split at hz
 ·rename_i l hl
  rw[g6]at hl;obtain⟨Z,q1,q2,q3,q4,q5⟩:=Fq (C:=C) (w:=w) (N:=N) hl
  refine⟨Z,by unfold zeroValue;simp[Cq g1,q1],?_⟩
  rw[g7]at hz;cases hb:Mx d
  ·grind
  ·simp only[hb]at hz;cases hz;obtain⟨a,rfl⟩:=q4 hb;unfold R;exact⟨a,rfl,q2,q3⟩
 grind
end
section
variable {P:Program}{C:Ctx}{N:Nat}{w:World}
def Dz(P:Program)(C:Ctx)(N:Nat)(w:World)(s:Sem Value)(v:AV):Prop:=∃x,s.run P w=.ok x w/\R C N w v x
theorem Dz.runs{J s v}(hs:Sim P C w J)(h:Dz P C (nx J) w s v):Iv P C w J s v J:=
 let⟨x,h1,h2⟩:=h;⟨x,x,w,C,h1,rfl,hs,cf_ _ _ _,h2⟩
theorem E7{op t x y a b}(h1:∀l m,¬(a=.agg l/\b=.agg m))(h2:¬(a=.nilIface/\b=.nilIface)):
  (eqGuard op t x y a b).run P w=.ok () w:=by
 cases op<;>first
  |(simp[eqGuard];done)
  |(cases a<;>cases b<;>first
    |(simp[eqGuard];done)
    |exact absurd ⟨rfl,rfl⟩ h2
    |exact absurd ⟨rfl,rfl⟩ (h1 _ _))
theorem Adl{op t x y}(h:(Cm x||Cm y)=true):(eqGuard op t x y .nilIface .nilIface).run P w=.ok () w:=by
 cases op<;>first
  |(simp[eqGuard];done)
  |(cases x<;>cases y<;>first
    |(simp[Cm]at h;done)
    |(simp[eqGuard];done))
theorem Ahy{op a b v}(h:T3 op (B2 a) (B2 b)=some v)(t):
  ∃x,(binOp op t (.string a) (.string b)).run P w=.ok x w/\R C N w v x:=by
 have hl:C8 (B2 a) (B2 b)=Op.bytesLess a.toList b.toList:=by rw[ByteArray.toList_eq,ByteArray.toList_eq];exact Aaj _ _
 cases op<;>simp only[T3]at h
 case add=>
  cases hb:Nat.ble ((B2 a).length+(B2 b).length) Aaa
  ·grind
  ·simp only[hb,cond_true]at h;cases h;have hle:=al_ hb;rw[Fg,Fg]at hle
   have hm:¬(((a.size+b.size:Nat):Int)>IntKind.i64.max):=by
    have:IntKind.i64.max=9223372036854775807:=by decide
    rw[this];unfold Aaa at hle;omega
   refine⟨.string (a++b),?_,by unfold R;exact⟨_,rfl,Aak a b⟩⟩
   simp only[binOp,Op.stringOp,Sem.run_ite,if_neg hm,Sem.run_pure]
 case eql=>cases h;exact⟨_,by simp only[binOp];simp[Op.stringOp];rfl,by unfold R;rw[Lt]⟩
 case neq=>cases h;exact⟨_,by simp only[binOp];simp[Op.stringOp];rfl,by unfold R;rw[Lt]⟩
 case lss=>cases h;exact⟨_,by simp only[binOp];simp[Op.stringOp];rfl,by unfold R;rw[hl]⟩
 case leq=>cases h;exact⟨_,by simp only[binOp];simp[Op.stringOp];rfl,by unfold R;rw[hl,Lt]⟩
 case gtr=>cases h;exact⟨.bool (!(Op.bytesLess a.toList b.toList||a.toList==b.toList)),by simp only[binOp,Op.stringOp,Sem.run_pure],by unfold R;rw[hl,Lt]⟩
 case geq=>cases h;exact⟨_,by simp only[binOp];simp[Op.stringOp];rfl,by unfold R;rw[hl]⟩
 all_goals (cases h)
structure EqR (P:Program)(w:World)(t:TypeId)(X Y:Value)(b:Bool):Prop where
 eql:(binOp .eql t X Y).run P w=.ok (.bool b) w
 neq:(binOp .neq t X Y).run P w=.ok (.bool !b) w
theorem EqR.mk'{t X Y b}(h:∀d,(Op.equalIn (d+1) t X Y).run P w=.ok b w)
  (e1:binOp .eql t X Y=(do pure (.bool (←Op.equal t X Y))))(e2:binOp .neq t X Y=(do pure (.bool (!(←Op.equal t X Y))))):EqR P w t X Y b:=by
 have h':(Op.equal t X Y).run P w=.ok b w:=h 9999
 exact⟨by rw[e1];simp only[Sem.run_bind,h',Result.andThen_ok,Sem.run_pure],by rw[e2];simp only[Sem.run_bind,h',Result.andThen_ok,Sem.run_pure]⟩
section
variable {t:TypeId}{d:TypeDesc}
theorem EqR.slice(hd:P.underlying t=some d)(h:∃e,d=.slice e)(ad n k):EqR P w t (.slice (some ad) n k) (.slice none 0 0) false/\EqR P w t (.slice none 0 0) (.slice (some ad) n k) false/\EqR P w t (.slice none 0 0) (.slice none 0 0) true:=by
 obtain⟨e,rfl⟩:=h
 exact⟨.mk' (fun d=>by simp[Op.equalIn,Aa hd]) rfl rfl,.mk' (fun d=>by simp[Op.equalIn,Aa hd]) rfl rfl,.mk' (fun d=>by simp[Op.equalIn,Aa hd]) rfl rfl⟩
abbrev gh_:=@EqR.slice
theorem EqR.pointer(hd:P.underlying t=some d)(h:∃e,d=.pointer e)(ad):EqR P w t (.pointer (some ad)) (.pointer none) false/\EqR P w t (.pointer none) (.pointer (some ad)) false/\EqR P w t (.pointer none) (.pointer none) true:=by
 obtain⟨e,rfl⟩:=h
 exact⟨.mk' (fun d=>by simp[Op.equalIn,Aa hd]) rfl rfl,.mk' (fun d=>by simp[Op.equalIn,Aa hd]) rfl rfl,.mk' (fun d=>by simp[Op.equalIn,Aa hd]) rfl rfl⟩
abbrev gk_:=@EqR.pointer
theorem EqR.map(hd:P.underlying t=some d)(h:∃k e,d=.map k e)(c):EqR P w t (.map (some c)) (.map none) false/\EqR P w t (.map none) (.map (some c)) false/\EqR P w t (.map none) (.map none) true:=by
 obtain⟨k,e,rfl⟩:=h
 exact⟨.mk' (fun d=>by simp[Op.equalIn,Aa hd]) rfl rfl,.mk' (fun d=>by simp[Op.equalIn,Aa hd]) rfl rfl,.mk' (fun d=>by simp[Op.equalIn,Aa hd]) rfl rfl⟩
theorem EqR.func(hd:P.underlying t=some d)(h:∃a b c,d=.func a b c)(f p q):EqR P w t (.func f p q) .nilFunc false/\EqR P w t .nilFunc (.func f p q) false/\EqR P w t .nilFunc .nilFunc true:=by
 obtain⟨a,b,c,rfl⟩:=h
 exact⟨.mk' (fun d=>by simp[Op.equalIn,Aa hd]) rfl rfl,.mk' (fun d=>by simp[Op.equalIn,Aa hd]) rfl rfl,.mk' (fun d=>by simp[Op.equalIn,Aa hd]) rfl rfl⟩
theorem EqR.iface(hd:P.underlying t=some d)(h:∃m,d=.interface m)(u v):EqR P w t (.iface u v) .nilIface false/\EqR P w t .nilIface (.iface u v) false/\EqR P w t .nilIface .nilIface true:=by
 obtain⟨m,rfl⟩:=h
 exact⟨.mk' (fun d=>by simp[Op.equalIn,Aa hd]) rfl rfl,.mk' (fun d=>by simp[Op.equalIn,Aa hd]) rfl rfl,.mk' (fun d=>by simp[Op.equalIn,Aa hd]) rfl rfl⟩
theorem EqR.bool(hd:P.underlying t=some .bool)(a b):EqR P w t (.bool a) (.bool b) (a==b):=
 .mk' (fun d=>by simp[Op.equalIn,Aa hd]) rfl rfl
end
def Al8(X:Value):Prop:=∀l,X≠.agg l
theorem Uc{d t}(hd:P.underlying t=some d){x y X Y}(hx:R C N w x X)(hy:R C N w y Y)(h:Pm d x y=true):
  EqR P w t X Y false/\EqR P w t Y X false/\Al8 X/\Al8 Y:=by
 unfold Pm at h
 split at h
 ·unfold R at hy;obtain⟨rfl,_⟩:=hy
  split at h
  ·unfold R at hx;obtain⟨ad,k,rfl,_⟩:=hx
   have:=gh_ (w:=w) hd ⟨_,rfl⟩ ad;exact⟨(this _ _).1,(this _ _).2.1,(fun _ h=>by cases h),(fun _ h=>by cases h)⟩
  ·unfold R at hx;obtain⟨ado,k,rfl,hle,_,_,hn,_⟩:=hx
   obtain _|ad:=ado
   ·grind
   have:=gh_ (w:=w) hd ⟨_,rfl⟩ ad;exact⟨(this _ _).1,(this _ _).2.1,(fun _ h=>by cases h),(fun _ h=>by cases h)⟩
  grind
 ·unfold R at hy;obtain⟨rfl,_⟩:=hy
  split at h
  ·unfold R at hx;obtain⟨ad,rfl,_⟩:=hx
   have:=gk_ (w:=w) hd ⟨_,rfl⟩ ad;exact⟨this.1,this.2.1,(fun _ h=>by cases h),(fun _ h=>by cases h)⟩
  ·unfold R at hx;obtain⟨c,o,rfl,_⟩:=hx
   have:=gk_ (w:=w) hd ⟨_,rfl⟩ ⟨c,o,none⟩;exact⟨this.1,this.2.1,(fun _ h=>by cases h),(fun _ h=>by cases h)⟩
  grind
 ·unfold R at hy;obtain⟨rfl,_⟩:=hy
  split at h
  ·unfold R at hx;obtain⟨c,rfl,_⟩:=hx
   have:=EqR.map (w:=w) hd ⟨_,_,rfl⟩ c;exact⟨this.1,this.2.1,(fun _ h=>by cases h),(fun _ h=>by cases h)⟩
  grind
 ·unfold R at hy;obtain⟨rfl,_⟩:=hy
  split at h
  ·unfold R at hx;obtain⟨a,b,rfl,_⟩:=hx
   have:=EqR.func (w:=w) hd ⟨_,_,_,rfl⟩;exact⟨(this _ _ _).1,(this _ _ _).2.1,(fun _ h=>by cases h),(fun _ h=>by cases h)⟩
  grind
 ·unfold R at hy;obtain⟨rfl,_⟩:=hy
  split at h
  ·unfold R at hx;obtain⟨z,rfl,_⟩:=hx
   have:=EqR.iface (w:=w) hd ⟨_,rfl⟩;exact⟨(this _ _).1,(this _ _).2.1,(fun _ h=>by cases h),(fun _ h=>by cases h)⟩
  grind
 grind
theorem Ahz{d t}(hd:P.underlying t=some d){x y X Y}(hx:R C N w x X)(hy:R C N w y Y){b}(h:Ad7 d x y=some b):
  EqR P w t X Y b/\Al8 X/\Al8 Y:=by
 unfold Ad7 at h;cases hb:Q6 d x y
 ·simp only[hb,cond_false]at h;cases h1:Pm d x y
  ·cases h2:Pm d y x
   ·grind
   ·simp[h2]at h;subst h;have:=Uc hd hy hx h2;grind
  ·simp[h1]at h;subst h;have:=Uc hd hx hy h1;grind
 ·simp only[hb,cond_true,af_]at h;subst h;unfold Q6 at hb
  split at hb
  ·unfold R at hx hy;obtain⟨rfl,_⟩:=hx;obtain⟨rfl,_⟩:=hy
   exact⟨(gh_ (w:=w) hd ⟨_,rfl⟩ ⟨0,0,none⟩ 0 0).2.2,(fun _ h=>by cases h),(fun _ h=>by cases h)⟩
  ·unfold R at hx hy;obtain⟨rfl,_⟩:=hx;obtain⟨rfl,_⟩:=hy
   exact⟨(gk_ (w:=w) hd ⟨_,rfl⟩ ⟨0,0,none⟩).2.2,(fun _ h=>by cases h),(fun _ h=>by cases h)⟩
  ·unfold R at hx hy;obtain⟨rfl,_⟩:=hx;obtain⟨rfl,_⟩:=hy
   exact⟨(EqR.map (w:=w) hd ⟨_,_,rfl⟩ 0).2.2,(fun _ h=>by cases h),(fun _ h=>by cases h)⟩
  ·unfold R at hx hy;obtain⟨rfl,_⟩:=hx;obtain⟨rfl,_⟩:=hy
   exact⟨(EqR.func (w:=w) hd ⟨_,_,_,rfl⟩ (.func 0) #[] #[]).2.2,(fun _ h=>by cases h),(fun _ h=>by cases h)⟩
  ·unfold R at hx hy;obtain⟨rfl,_⟩:=hx;obtain⟨rfl,_⟩:=hy
   exact⟨(EqR.iface (w:=w) hd ⟨_,rfl⟩ 0 .nilIface).2.2,(fun _ h=>by cases h),(fun _ h=>by cases h)⟩
  grind
theorem Wi{d x k v}(h:Akn d x=some k)(hr:R C N w x v):KV k v/\KS d v:=by
 unfold Akn at h
 split at h
 ·rename_i j k' n
  cases hk:Ed j k'
  ·grind
  ·simp only[hk,cond_true,af_]at h;subst h;have:=(N4 j k').1 hk;subst this;unfold R at hr;subst hr
   exact⟨by unfold KV;rfl,n,rfl⟩
 ·rename_i l
  cases h;unfold R at hr;obtain⟨s,rfl,h2⟩:=hr
  exact⟨by unfold KV;grind,s,rfl⟩
 ·rename_i b
  cases h;unfold R at hr;subst hr
  exact⟨by unfold KV;rfl,b,rfl⟩
 grind
theorem Aal:∀{fs:List Field} {cs:List AV} {ks:List Key} {vs:List Value},Z9 P fs cs=some ks->RL C N w cs vs->KVs ks vs/\KFs P fs vs
 |[],[],ks,vs,h,hr=>by
  simp only[Z9,af_]at h;subst h;cases vs with
  |nil=>exact⟨by unfold KVs;trivial,by unfold KFs;trivial⟩
  |cons=>unfold RL at hr;exact hr.elim
 |f::fs,c::cs,ks,vs,h,hr=>by
  cases vs with
  |nil=>unfold RL at hr;exact hr.elim
  |cons v vs=>
   unfold RL at hr;simp only[Z9]at h
   split at h
   ·rename_i ti hti
    split at h
    ·rename_i k ks' hk hks
     cases hb:(f.name != "_" &&Nat.beq ti.size 1)
     ·grind
     ·simp only[hb,cond_true,af_]at h;subst h;simp only[ad_,bne_iff_ne,ne_eq]at hb;obtain⟨i,d,h1,h2,h3,h4,_,_,_⟩:=Ap hti;obtain⟨q1,q2⟩:=Wi hk hr.1;obtain⟨q3,q4⟩:=Aal hks hr.2
      have hs:i.size=1:=by rw[←h4];exact ac_ hb.2
      rw[h3]at q2
      exact⟨by unfold KVs;grind,by unfold KFs;exact⟨⟨i,d,h1,h2,hs,by cases d<;>first|rfl|exact q2.elim,q2,hb.1⟩,q4⟩⟩
    grind
   ·cases h
 |[],_::_,_,_,h,_=>by simp[Z9]at h
 |_::_,[],_,_,h,_=>by simp[Z9]at h
theorem Aam{d}:∀{cs:List AV} {ks:List Key} {vs:List Value},Ahu d cs=some ks->RL C N w cs vs->KVs ks vs/\∀x∈vs,KS d x
 |[],ks,vs,h,hr=>by
  simp only[Ahu,af_]at h;subst h;cases vs with
  |nil=>exact⟨by unfold KVs;trivial,by simp⟩
  |cons=>unfold RL at hr;exact hr.elim
 |c::cs,ks,vs,h,hr=>by
  cases vs with
  |nil=>unfold RL at hr;exact hr.elim
  |cons v vs=>
   unfold RL at hr;simp only[Ahu]at h
   split at h
   ·rename_i k ks' hk hks
    cases h;obtain⟨q1,q2⟩:=Wi hk hr.1;obtain⟨q3,q4⟩:=Aam hks hr.2
    refine⟨by unfold KVs;grind,fun x hx=>?_⟩
    grind
   ·cases h
theorem H3{kt:TypeId}{x k v}(h:D4 P kt x=some k)(hr:R C N w x v):KV k v/\KT P kt v:=by
 unfold D4 at h
 split at h
 ·rename_i ti hti
  obtain⟨i,d,h1,h2,h3,h4,_,_,_⟩:=Ap hti
  split at h
  ·rename_i fs hfs
   cases hb:(Jz fs.toList 0&& !P.stoodInHeld kt)
   ·grind
   ·simp only[hb]at h;unfold Aqg at h
    split at h
    ·rename_i cs
     split at h
     ·rename_i l hl
      cases h;unfold R at hr;obtain⟨a,rfl,q1,q2⟩:=hr;obtain⟨g1,g2⟩:=Aal hl q1;simp only[ad_,bi_]at hb
      exact⟨by unfold KV;grind,.inr (.inl ⟨fs,a,gr,rfl,g2,hb.1,hb.2⟩)⟩
     grind
    grind
  ·rename_i n e hne
   split at h
   ·rename_i te hte
    obtain⟨i',d',e1,e2,e3,e4,_,_,e5⟩:=Ap hte;cases hb:(Nat.beq te.size 1&& !te.isAgg)
    ·grind
    ·simp only[hb]at h;simp only[ad_,bi_]at hb;unfold Aqh at h
     split at h
     ·rename_i cs
      cases bl:(Nat.beq cs.length n&& !Nat.beq n 0)
      ·grind
      ·simp only[bl]at h;simp only[ad_,bi_]at bl
       split at h
       ·rename_i l hl
        cases h;unfold R at hr;obtain⟨a,rfl,q1,q2⟩:=hr;obtain⟨g1,g2⟩:=Aam hl q1;rw[e3]at g2
        refine⟨by unfold KV;grind,.inr (.inr ⟨n,e,a,d',i',gr,rfl,e1,by rw[←e4];exact ac_ hb.1,e2,gr,?_,?_,g2⟩)⟩
        ·have:=q1.length;rw[←cd_,←this];exact ac_ bl.1
        ·rintro rfl;cases bl.2
       grind
     grind
   grind
  ·obtain⟨g1,g2⟩:=Wi h hr;rw[h3]at g2;exact⟨g1,.inl ⟨d,h2,g2⟩⟩
 grind
theorem Wj{d k k' v v'}(h:KV k v)(h':KV k' v')(t:KS d v)(t':KS d v'):
  (Key.eq k k'=true↔v=v')/\∀(t:TypeId),P.underlying t=some d->∀n,(Op.equalIn (n+1) t v v').run P w=.ok (Key.eq k k') w:=by
 unfold KS at t t'
 split at t
 ·obtain⟨n,rfl⟩:=t;obtain⟨m,rfl⟩:=t'
  cases k<;>unfold KV at h<;>first|(cases h;done)|(obtain⟨_,hh,_⟩:=h;cases hh;done)|skip
  cases k'<;>unfold KV at h'<;>first|(cases h';done)|(obtain⟨_,hh,_⟩:=h';cases hh;done)|skip
  cases h;cases h';have hk:∀j:IntKind,Ed j j=true:=fun j=>(N4 j j).2 rfl
  refine⟨by simp[Key.eq,hk,Jg],fun t ht n=>?_⟩
  rw[run_equalIn_int _ _ _ _ _ _ _ ht];simp[Key.eq,hk,Jg]
 ·obtain⟨n,rfl⟩:=t;obtain⟨m,rfl⟩:=t'
  cases k<;>unfold KV at h<;>first|(cases h;done)|skip
  cases k'<;>unfold KV at h'<;>first|(cases h';done)|skip
  ·obtain⟨s,q1,q2⟩:=h;obtain⟨s',q3,q4⟩:=h';cases q1;cases q3;subst q2;subst q4;refine⟨?_,fun t ht n=>?_⟩
   ·simp only[Key.eq,Gu,Value.string.injEq];exact⟨Xo,gr⟩
   ·rw[run_equalIn_string _ _ _ _ _ ht];simp only[Key.eq,Lt]
  ·grind
  grind
 ·obtain⟨n,rfl⟩:=t;obtain⟨m,rfl⟩:=t'
  cases k<;>unfold KV at h<;>first|(cases h;done)|(obtain⟨_,hh,_⟩:=h;cases hh;done)|skip
  cases k'<;>unfold KV at h'<;>first|(cases h';done)|(obtain⟨_,hh,_⟩:=h';cases hh;done)|skip
  cases h;cases h'
  refine⟨by cases n<;>cases m<;>simp[Key.eq],fun t ht _=>?_⟩
  rw[run_equalIn_bool' _ _ _ _ _ ht];cases n<;>cases m<;>simp[Key.eq]
 grind
theorem Aan(n xs ys):∀(fs:List Field) (i:Nat) (ks ks':List Key) (vs vs':List Value),Jz fs i=true->KFs P fs vs->KFs P fs vs'->KVs ks vs->KVs ks' vs'->
  (∀j,j<vs.length->xs[i+j]? =vs[j]?)->(∀j,j<vs'.length->ys[i+j]? =vs'[j]?)->
  (Key.eqs ks ks'=true↔vs=vs')/\(Op.eqFields (n+1) xs ys fs).run P w=.ok (Key.eqs ks ks') w
 |[],i,ks,ks',vs,vs',_,h1,h2,h3,h4,_,_=>by
  cases vs<;>unfold KFs at h1<;>first|exact h1.elim|skip
  cases vs'<;>unfold KFs at h2<;>first|exact h2.elim|skip
  cases ks<;>unfold KVs at h3<;>first|exact h3.elim|skip
  cases ks'<;>unfold KVs at h4<;>first|exact h4.elim|skip
  exact⟨by simp[Key.eqs],by simp[Op.eqFields,Key.eqs]⟩
 |f::fs,i,ks,ks',vs,vs',h0,h1,h2,h3,h4,h5,h6=>by
  cases vs with
  |nil=>unfold KFs at h1;exact h1.elim
  |cons v vs=>
  cases vs' with
  |nil=>unfold KFs at h2;exact h2.elim
  |cons v' vs'=>
  cases ks with
  |nil=>unfold KVs at h3;exact h3.elim
  |cons k ks=>
  cases ks' with
  |nil=>unfold KVs at h4;exact h4.elim
  |cons k' ks'=>
  unfold KFs at h1 h2;unfold KVs at h3 h4;obtain⟨⟨inf,d,g1,g2,g3,g4,g5,g6⟩,h1⟩:=h1;obtain⟨⟨inf',d',e1,e2,_,_,e5,_⟩,h2⟩:=h2;rw[g2]at e2;cases e2;simp only[Jz,ad_]at h0;have ho:f.offset=i:=ac_ h0.1;obtain⟨q1,q2⟩:=Wj (P:=P) (w:=w) h3.1 h4.1 g5 e5
  obtain⟨q3,q4⟩:=Aan n xs ys fs (i+1) ks ks' vs vs' h0.2 h1 h2 h3.2 h4.2 (fun j hj=>by have:=h5 (j+1) gr;grind)
   (fun j hj=>by have:=h6 (j+1) gr;grind)
  have hx:(part f.type xs f.offset).run P w=.ok v w:=by
   have:=h5 0 (by simp)
   unfold part;simp only[Sem.run_bind,Fp g2,Result.andThen_ok,g4,bp_,if_false,ho]
   simp at this;simp[this]
  have hy:(part f.type ys f.offset).run P w=.ok v' w:=by
   have:=h6 0 (by simp)
   unfold part;simp only[Sem.run_bind,Fp g2,Result.andThen_ok,g4,bp_,if_false,ho]
   simp at this;simp[this]
  constructor
  ·simp only[Key.eqs,dl_]
   grind
  ·simp only[Op.eqFields,if_pos g6,Sem.run_bind,hx,hy,Result.andThen_ok,q2 _ g2 n,Sem.run_ite,q4,Sem.run_pure,Key.eqs]
   grind
theorem Aed(n){e d inf}(g1:P.info? e=some inf)(g3:inf.size=1)(g2:P.underlying e=some d)(g4:Mx d=false)(xs ys):∀(ks ks':List Key) (vs vs':List Value) (i:Nat),vs.length=vs'.length->(∀x∈vs,KS d x)->(∀x∈vs',KS d x)->KVs ks vs->KVs ks' vs'->
  (∀j,j<vs.length->xs[i+j]? =vs[j]?)->(∀j,j<vs'.length->ys[i+j]? =vs'[j]?)->
  (Key.eqs ks ks'=true↔vs=vs')/\(Op.eqItems (n+1) e (P.cellsOf e) xs ys (List.range' i vs.length)).run P w=.ok (Key.eqs ks ks') w
 |ks,ks',[],[],i,_,_,_,h3,h4,_,_=>by
  cases ks<;>unfold KVs at h3<;>first|exact h3.elim|skip
  cases ks'<;>unfold KVs at h4<;>first|exact h4.elim|skip
  exact⟨by simp[Key.eqs],by simp[Op.eqItems,Key.eqs]⟩
 |_,_,[],_::_,_,hl,_,_,_,_,_,_=>by cases hl
 |_,_,_::_,[],_,hl,_,_,_,_,_,_=>by cases hl
 |ks,ks',v::vs,v'::vs',i,hl,h1,h2,h3,h4,h5,h6=>by
  cases ks with
  |nil=>unfold KVs at h3;exact h3.elim
  |cons k ks=>
  cases ks' with
  |nil=>unfold KVs at h4;exact h4.elim
  |cons k' ks'=>
  unfold KVs at h3 h4
  have hc:P.cellsOf e=1:=by simp[Program.cellsOf,g1,g3]
  obtain⟨q1,q2⟩:=Wj (P:=P) (w:=w) h3.1 h4.1 (h1 v (by simp)) (h2 v' (by simp))
  obtain⟨q3,q4⟩:=Aed n g1 g3 g2 g4 xs ys ks ks' vs vs' (i+1) gr (fun x hx=>h1 x (by simp[hx])) (fun x hx=>h2 x (by simp[hx])) h3.2 h4.2 (fun j hj=>by have:=h5 (j+1) gr;grind)
   (fun j hj=>by have:=h6 (j+1) gr;grind)
  have hx:(part e xs (i*P.cellsOf e)).run P w=.ok v w:=by
   have:=h5 0 (by simp)
   unfold part;simp only[Sem.run_bind,Fp g2,Result.andThen_ok,g4,bp_,if_false,hc,fr_]
   simp at this;simp[this]
  have hy:(part e ys (i*P.cellsOf e)).run P w=.ok v' w:=by
   have:=h6 0 (by simp)
   unfold part;simp only[Sem.run_bind,Fp g2,Result.andThen_ok,g4,bp_,if_false,hc,fr_]
   simp at this;simp[this]
  constructor
  ·simp only[Key.eqs,dl_]
   grind
  ·simp only[as_,cj_,Op.eqItems,Sem.run_bind,hx,hy,Result.andThen_ok,q2 _ g2 n,Sem.run_ite,q4,Sem.run_pure,Key.eqs]
   grind
theorem Al9{kt:TypeId}{k k' v v'}(h:KV k v)(h':KV k' v')(t:KT P kt v)(t':KT P kt v'):
  (Key.eq k k'=true↔v=v')/\∀n,(Op.equalIn (n+2) kt v v').run P w=.ok (Key.eq k k') w:=by
 rcases t with⟨d,ht,t⟩|⟨fs,a,ht,rfl,t1,t2,t3⟩|⟨len,e,a,d,inf,ht,rfl,g1,g3,g2,g4,t1,t0,t2⟩
 ·rcases t' with⟨d',ht',t'⟩|⟨fs,a,ht',rfl,_,_,_⟩|⟨_,_,_,_,_,ht',rfl,_⟩
  ·rw[ht]at ht';cases ht';obtain⟨q1,q2⟩:=Wj (P:=P) (w:=w) h h' t t'
   grind
  ·rw[ht]at ht';cases ht';exact t.elim
  ·rw[ht]at ht';cases ht';exact t.elim
 case inr.inr=>
  rcases t' with⟨d',ht',t'⟩|⟨fs,a,ht',rfl,_,_,_⟩|⟨len',e',a',d',inf',ht',rfl,g1',_,g2',_,t1',_,t2'⟩
  ·rw[ht]at ht';cases ht';exact t'.elim
  ·grind
  ·rw[ht]at ht';cases ht';rw[g2]at g2';cases g2'
   cases k<;>unfold KV at h<;>first|(cases h;done)|(obtain⟨_,hh,_⟩:=h;cases hh;done)|skip
   cases k'<;>unfold KV at h'<;>first|(cases h';done)|(obtain⟨_,hh,_⟩:=h';cases hh;done)|skip
   obtain⟨_,hh,h⟩:=h;cases hh;obtain⟨_,hh,h'⟩:=h';cases hh;have key:=fun n=>Aed (P:=P) (w:=w) n g1 g3 g2 g4 a a' _ _ a.toList a'.toList 0 gr t2 t2' h h' gr gr
   constructor
   ·simp only[Key.eq];rw[(key 0).1]
    constructor
    ·intro hl;rw[Array.toList_inj.1 hl]
    grind
   ·intro n;have:=(key n).2;rw[run_equalIn_array w (n+1) a a' ht g1,dr_,←t1,←cd_,this];simp only[Key.eq]
 ·rcases t' with⟨d',ht',t'⟩|⟨fs',a',ht',rfl,t4,_,_⟩|⟨_,_,_,_,_,ht',rfl,_⟩
  ·rw[ht]at ht';cases ht';exact t'.elim
  case inr.inr=>rw[ht]at ht';cases ht'
  ·rw[ht]at ht';cases ht'
   cases k<;>unfold KV at h<;>first|(cases h;done)|(obtain⟨_,hh,_⟩:=h;cases hh;done)|skip
   cases k'<;>unfold KV at h'<;>first|(cases h';done)|(obtain⟨_,hh,_⟩:=h';cases hh;done)|skip
   obtain⟨_,hh,h⟩:=h;cases hh;obtain⟨_,hh,h'⟩:=h';cases hh
   have hf:P.fieldsOf kt=fs:=by unfold Program.fieldsOf;rw[ht]
   have key:=fun n=>Aan (P:=P) (w:=w) n a a' fs.toList 0 _ _ a.toList a'.toList t2 t1 t4 h h' gr gr
   constructor
   ·simp only[Key.eq];rw[(key 0).1]
    constructor
    ·intro hl;rw[Array.toList_inj.1 hl]
    grind
   ·intro n;rw[run_equalIn_struct w (n+1) kt a a' gr t3,hf,(key n).2];simp only[Key.eq]
theorem Kt(e n a):∀(fs:List Field) (i:Nat) (vs:List Value),Jz fs i=true->KFs P fs vs->(∀j,j<vs.length->a[i+j]? =vs[j]?)->
  (forIn fs PUnit.unit fun f _=>if f.name≠ "_" then do
    let x←part f.type a f.offset
    Instr.checkKey e (n+1) f.type x
    pure (ForInStep.yield PUnit.unit)
   else pure (ForInStep.yield PUnit.unit):Sem PUnit).run P w=.ok PUnit.unit w
 |[],_,_,_,_,_=>by simp
 |f::fs,i,vs,h0,h1,h2=>by
  cases vs with
  |nil=>unfold KFs at h1;exact h1.elim
  |cons v vs=>
  unfold KFs at h1;obtain⟨⟨inf,d,g1,g2,g3,g4,g5,g6⟩,h1⟩:=h1;simp only[Jz,ad_]at h0;have ho:f.offset=i:=ac_ h0.1
  have hx:(part f.type a f.offset).run P w=.ok v w:=by
   have:=h2 0 (by simp)
   unfold part;simp only[Sem.run_bind,Fp g2,Result.andThen_ok,g4,bp_,if_false,ho]
   simp at this;simp[this]
  have hc:(Instr.checkKey e (n+1) f.type v).run P w=.ok () w:=by
   unfold Instr.checkKey;simp only[Sem.run_bind,Aa g2,Result.andThen_ok];unfold KS at g5
   split at g5
   ·obtain⟨_,rfl⟩:=g5;rfl
   ·obtain⟨_,rfl⟩:=g5;rfl
   ·obtain⟨_,rfl⟩:=g5;rfl
   grind
  have:=Kt e n a fs (i+1) vs h0.2 h1 (fun j hj=>by have:=h2 (j+1) gr;grind)
  simp only[List.forIn_cons,Sem.run_bind,if_pos g6,hx,Result.andThen_ok,hc,Sem.run_pure];exact this
theorem Lu(e n){el d inf}(g1:P.info? el=some inf)(g3:inf.size=1)(g2:P.underlying el=some d)(g4:Mx d=false)(a):∀(vs:List Value) (i:Nat),(∀x∈vs,KS d x)->(∀j,j<vs.length->a[i+j]? =vs[j]?)->
  (forIn (List.range' i vs.length) PUnit.unit fun i _=>do
    let s←sizeOf el
    let x←part el a (i*s)
    Instr.checkKey e (n+1) el x
    pure (ForInStep.yield PUnit.unit):Sem PUnit).run P w=.ok PUnit.unit w
 |[],_,_,_=>by simp
 |v::vs,i,h1,h2=>by
  have g5:=h1 v (by simp)
  have hx:(part el a i).run P w=.ok v w:=by
   have:=h2 0 (by simp)
   unfold part;simp only[Sem.run_bind,Fp g2,Result.andThen_ok,g4,bp_,if_false]
   simp at this;simp[this]
  have hc:(Instr.checkKey e (n+1) el v).run P w=.ok () w:=by
   unfold Instr.checkKey;simp only[Sem.run_bind,Aa g2,Result.andThen_ok];unfold KS at g5
   split at g5
   ·obtain⟨_,rfl⟩:=g5;rfl
   ·obtain⟨_,rfl⟩:=g5;rfl
   ·obtain⟨_,rfl⟩:=g5;rfl
   grind
  have hs:(sizeOf el).run P w=.ok 1 w:=by rw[run_sizeOf w g1];simp[Program.cellsOf,g1,g3]
  have:=Lu e n g1 g3 g2 g4 a vs (i+1) (fun x hx=>h1 x (by simp[hx])) (fun j hj=>by have:=h2 (j+1) gr;grind)
  simp only[as_,cj_,List.forIn_cons,Sem.run_bind,hs,fr_,hx,Result.andThen_ok,hc,Sem.run_pure]
  grind
theorem C3{kt:TypeId}{v}(t:KT P kt v)(e n):(Instr.checkKey e (n+2) kt v).run P w=.ok () w:=by
 rcases t with⟨d,ht,t⟩|⟨fs,a,ht,rfl,t1,t2,t3⟩|⟨len,el,a,d,inf,ht,rfl,g1,g3,g2,g4,t1,t0,t2⟩
 case inr.inr=>
  unfold Instr.checkKey;simp only[Sem.run_bind,Aa ht,Result.andThen_ok];have:=Lu (w:=w) e n g1 g3 g2 g4 a a.toList 0 t2 gr;simp only[Std.Legacy.Range.forIn_eq_forIn_range',Std.Legacy.Range.size,es_,Nat.add_one_sub_one,Nat.div_one];rw[cd_,t1]at this;rw[this]
  rfl
 ·unfold Instr.checkKey;simp only[Sem.run_bind,Aa ht,Result.andThen_ok];unfold KS at t
  split at t
  ·obtain⟨_,rfl⟩:=t;rfl
  ·obtain⟨_,rfl⟩:=t;rfl
  ·obtain⟨_,rfl⟩:=t;rfl
  grind
 ·unfold Instr.checkKey;simp only[Sem.run_bind,Aa ht,Result.andThen_ok];rw[←Array.forIn_toList];have:=Kt (w:=w) e n a fs.toList 0 a.toList t2 t1 gr;rw[this]
  rfl
end
section
variable {P:Program}{C:Ctx}{N:Nat}{w:World}
theorem Aao{t:TypeId}{x y X Y}(hx:R C N w x X)(hy:R C N w y Y){b}(h:Pn P t x y=some b):
  ∃l m,X=.agg l/\Y=.agg m/\EqR P w t X Y b/\KT P t X:=by
 unfold Pn at h
 split at h
 ·rename_i cs ds
  split at h
  ·rename_i k k' hk hk'
   cases h;obtain⟨v1,t1⟩:=H3 hk hx;obtain⟨v2,t2⟩:=H3 hk' hy;unfold R at hx hy;obtain⟨l,rfl,_⟩:=hx;obtain⟨m,rfl,_⟩:=hy;have:=(Al9 (P:=P) (w:=w) v1 v2 t1 t2).2;refine⟨l,m,rfl,rfl,⟨?_,?_⟩,t1⟩
   ·rw[run_eql_struct,this 9998];rfl
   ·rw[run_neq_struct,this 9998];rfl
  grind
 grind
theorem Ud{t:TypeId}{l}(h:KT P t (.agg l)):P.eqGuardType P.depth t=false:=by
 rcases h with⟨d,ht,h⟩|⟨fs,a,ht,_,h1,h2,h3⟩|⟨n,e,a,d,inf,ht,hh,g1,g3,g2,g4,t1,t0,t2⟩
 ·unfold KS at h;grind
 case inr.inr=>
  have hd:P.depth=(2*(P.types.size+Made.depth))+1+1:=by unfold Program.depth;omega
  rw[hd]
  generalize 2*(P.types.size+Made.depth)=m
  unfold Program.eqGuardType;rw[ht];simp only;unfold Program.eqGuardType;rw[g2]
  obtain⟨x,hx⟩:∃x,x∈a.toList:=by
   cases hl:a.toList with
   |nil=>exact absurd (by rw[←t1,←cd_,hl];rfl) t0
   |cons x _=>exact⟨x,by simp⟩
  have:=t2 x hx;unfold KS at this
  split at this<;>first|rfl|exact this.elim
 ·have hd:P.depth=(2*(P.types.size+Made.depth))+1+1:=by unfold Program.depth;omega
  rw[hd]
  generalize 2*(P.types.size+Made.depth)=n
  unfold Program.eqGuardType;rw[ht];simp only[←Array.any_toList]
  have key:∀(fs:List Field) (vs:List Value), KFs P fs vs->(fs.any fun f=>f.name != "_" &&P.eqGuardType (n+1) f.type)=false:=by
   intro fs
   induction fs with
   |nil=>intro vs _;rfl
   |cons f fs ih=>
    intro vs hk;cases vs with
    |nil=>unfold KFs at hk;exact hk.elim
    |cons v vs=>
     unfold KFs at hk;obtain⟨⟨i,d,g1,g2,g3,g4,g5,g6⟩,hk⟩:=hk;simp only[dh_,ih vs hk,gl_]
     have:P.eqGuardType (n+1) f.type=false:=by
      unfold Program.eqGuardType;rw[g2];unfold KS at g5
      grind
     simp[this]
  grind
theorem Ah0{op k a b v}(h:Aqi op k a b=some v)(t):
  ∃x,(binOp op t (.float k a) (.float k b)).run P w=.ok x w/\R C N w v x:=by
 unfold Aqi at h;cases h
theorem Aks{op}{t:TypeId}{xo yo x y X Y}(hx:R C N w x X)(hy:R C N w y Y){v}
  (h:Wb P op t (Cm xo||Cm yo) x y=some v):Dz P C N w (do eqGuard op t xo yo X Y;binOp op t X Y) v:=by
 have fin:∀{v:AV},(eqGuard op t xo yo X Y).run P w=.ok () w->Dz P C N w (binOp op t X Y) v->Dz P C N w (do eqGuard op t xo yo X Y;binOp op t X Y) v:=by
  intro v h1 ⟨z,h2,h3⟩
  exact⟨z,by simp only[Sem.run_bind,h1,Result.andThen_ok,h2],h3⟩
 unfold Wb at h
 split at h
 ·rename_i ti hti
  obtain⟨i,d,_,hd,hdd,_⟩:=Ap hti
  split at h
  ·rename_i k a k' b
   unfold R at hx hy;subst hx;subst hy;cases hk:Ed k k'
   ·grind
   ·simp only[hk,cond_true]at h;have:=(N4 k k').1 hk;subst this
    exact fin (E7 (fun _ _ hh=>by cases hh.1) (fun hh=>by cases hh.1)) (Ahx h t)
  ·unfold R at hx hy;obtain⟨s,rfl,rfl⟩:=hx;obtain⟨u,rfl,rfl⟩:=hy
   exact fin (E7 (fun _ _ hh=>by cases hh.1) (fun hh=>by cases hh.1)) (Ahy h t)
  ·rename_i k a k' b
   unfold R at hx hy;subst hx;subst hy
   split at h
   ·rename_i hk
    have:=of_decide_eq_true hk;subst this
    exact fin (E7 (fun _ _ hh=>by cases hh.1) (fun hh=>by cases hh.1)) (Ah0 h t)
   grind
  ·rename_i a b
   unfold R at hx hy;subst hx;subst hy
   split at h
   ·rename_i hb
    cases h;have:=EqR.bool (w:=w) (hd.trans gr) a b
    exact fin (E7 (fun _ _ hh=>by cases hh.1) (fun hh=>by cases hh.1)) ⟨_,this.eql,by unfold R;cases a<;>cases b<;>rfl⟩
   ·rename_i hb
    cases h;have:=EqR.bool (w:=w) (hd.trans gr) a b
    exact fin (E7 (fun _ _ hh=>by cases hh.1) (fun hh=>by cases hh.1)) ⟨_,this.neq,by unfold R;cases a<;>cases b<;>rfl⟩
   grind
  ·have other:∀b,Ir P ti t (Cm xo||Cm yo) x y=some b->EqR P w t X Y b/\(eqGuard op t xo yo X Y).run P w=.ok () w:=by
    intro b hb;unfold Ir at hb
    split at hb
    ·rename_i b' hb'
     cases hb
     cases hc:(Cm xo||Cm yo)
     ·grind
     ·simp only[hc,cond_true]at hb'
      obtain⟨h1,h2,h3⟩:=Ahz (by rw[hdd];exact hd) hx hy hb'
      refine⟨h1,?_⟩
      by_cases hn:X=.nilIface/\Y=.nilIface
      ·obtain⟨rfl,rfl⟩:=hn;exact Adl hc
      ·exact E7 (fun l m hh=>h2 l hh.1) hn
    ·obtain⟨l,m,rfl,rfl,h1,h2⟩:=Aao hx hy hb;exact⟨h1,run_eqGuard_agg w op t xo yo l m (Ud h2)⟩
   split at h
   ·split at h
    ·rename_i b hb
     cases h;obtain⟨h1,h2⟩:=other b hb
     exact fin h2 ⟨_,h1.eql,by unfold R;rfl⟩
    grind
   ·split at h
    ·rename_i b hb
     cases h;obtain⟨h1,h2⟩:=other b hb
     exact fin h2 ⟨_,h1.neq,by unfold R;rfl⟩
    grind
   grind
 grind
theorem Aol{op x X}(hx:R C N w x X){v}(h:unA op x=some v):Dz P C N w (Op.unary op X) v:=by
 unfold unA at h
 split at h
 ·cases h;unfold R at hx;subst hx;exact⟨_,rfl,by unfold R;rfl⟩
 ·cases h;unfold R at hx;subst hx
  refine⟨_,by simp[Op.unary,Op.intArith];rfl,?_⟩
  rw[Nh,Wh,Int.zero_sub];unfold R;rfl
 grind
theorem S0{x n X}(h:My x=some n)(hx:R C N w x X):∃k,X=.int k (n:Int):=by
 unfold My at h
 split at h
 ·cases h;unfold R at hx;grind
 grind
theorem P0{t:TypeId}{ti}(hti:Ay P t=some ti){l c o}(hc:RC C N w c l o){v}(h:Ff ti l=some v):
  Dz P C N w (loadVar t ⟨c,o,none⟩) v:=by
 obtain⟨i,d,h1,h2,h3,h4,_,_,h5⟩:=Ap hti;unfold Ff at h;unfold loadVar Dz;simp only[Sem.run_bind,Fp h2,Result.andThen_ok];rw[←h5];cases ha:ti.isAgg
 ·simp only[ha]at h;simp only[bp_,if_false]
  split at h
  ·cases h;unfold RC at hc;obtain⟨⟨x,q1,q2,q3⟩,_⟩:=hc
   exact⟨x,by simp[q1],q3⟩
  grind
 ·simp only[ha]at h
  split at h
  ·rename_i cs hcs
   cases h;obtain⟨a,q1,q2,q3⟩:=Adj (P:=P) (hc.take _ hcs);have hl:=(Hu hcs).2
   refine⟨.agg a,?_,by unfold R;grind⟩
   simp only[if_true,Sem.run_bind,A9 h1,Result.andThen_ok];rw[←h4,←hl,q1]
   simp
  grind
theorem P1{J J'}(hs:Sim P C w J){t:TypeId}{ti}(hti:Ay P t=some ti){x X}(hx:R C (nx J) w x X){v}(h:Na ti x J=some (v,J')):
  J'=J/\Dz P C (nx J) w (Instr.loadAt t X) v:=by
 unfold Na at h
 split at h
 ·rename_i a off
  split at h
  ·rename_i vs hvs
   split at h
   ·rename_i u hu
    cases h;refine⟨rfl,?_⟩;unfold R at hx;obtain⟨ad,rfl,_,hl⟩:=hx;unfold Sto.cells at hvs
    split at hvs
    ·rename_i vs' hg
     cases hvs;obtain⟨c,o,cs,T,k1,k2,k3⟩:=hs.obj a _ hg;rw[hl c o k1];exact P0 hti (k3.drop off) hu
    grind
   grind
  grind
 ·split at h
  ·rename_i u hu
   cases h;refine⟨rfl,?_⟩;unfold R at hx;obtain⟨c,o,rfl,_,k3⟩:=hx;exact P0 hti k3 hu
  grind
 grind
theorem Ue{x X}(hx:R C N w x X){n v}(h:Po x n=some v):∃ad,X=.pointer (some ad)/\R C N w v (.pointer (some (ad.add n))):=by
 unfold Po at h
 split at h
 ·rw[Ak]at h;cases h;unfold R at hx;obtain⟨ad,rfl,h1,h2⟩:=hx;refine⟨ad,rfl,?_⟩;unfold R
  exact⟨ad.add n,rfl,h1,fun c o hc=>by rw[h2 c o hc,Hb,Nat.add_assoc]⟩
 ·cases h;unfold R at hx;obtain⟨c,o,rfl,h1,h2⟩:=hx;refine⟨⟨c,o,none⟩,rfl,?_⟩;rw[Hb];unfold R;refine⟨c,o+n,rfl,fun hne=>h1 ?_,h2.drop n⟩
  grind
 grind
theorem Adm{t:TypeId}{ti}(hti:Ay P t=some ti){fs}(hfs:ti.desc=.struct fs){i f}(hf:fs.toList[i]? =some f){tf}(htf:Ay P f.type=some tf)
  (hsz:tf.size≠0){x X}(hx:R C N w x X){v}(h:Po x f.offset=some v):Dz P C N w (Instr.fieldAt t X i) v:=by
 obtain⟨_,d,_,h2,h3,_⟩:=Ap hti;obtain⟨fi,_,g1,_,_,g4,_⟩:=Ap htf;obtain⟨ad,rfl,hr⟩:=Ue hx h;refine⟨.pointer (some (ad.add f.offset)),?_,hr⟩;unfold Instr.fieldAt;have hf':fs[i]? =some f:=gr
 simp only[Sem.run_bind,Aa (h2.trans (by rw[←h3,hfs])),Result.andThen_ok,hf',Instr.sureAddr,Sem.run_pure,fieldPlace,A9 g1,Sem.run_ite]
 rw[if_neg gr]
 simp
theorem Ah1{t:TypeId}{ti}(hti:Ay P t=some ti){fs}(hfs:ti.desc=.struct fs){i f}(hf:fs.toList[i]? =some f){tf}(htf:Ay P f.type=some tf)
  {cs X}(hx:R C N w (.agg cs) X){v}(h:Ff tf (cs.drop f.offset)=some v):Dz P C N w (Instr.field t X i) v:=by
 obtain⟨_,d,_,h2,h3,_⟩:=Ap hti;have hf':fs[i]? =some f:=gr;unfold R at hx;obtain⟨a,rfl,q1,q2⟩:=hx;unfold Instr.field
 have hp:Dz P C N w (part f.type a f.offset) v:=by
  obtain⟨fi,fd,g1,g2,g3,g4,_,_,g5⟩:=Ap htf;unfold Ff at h;unfold part Dz;simp only[Sem.run_bind,Fp g2,Result.andThen_ok];rw[←g5];have hd:=q1.drop f.offset;cases ha:tf.isAgg
  ·simp only[ha]at h;simp only[bp_,if_false]
   split at h
   ·rename_i u r he
    cases h;have:(cs.drop f.offset)[0]? =some v:=gr;obtain⟨x,k1,k2⟩:=hd.get 0 v this;have:a[f.offset]? =some x:=gr
    exact⟨x,by simp[this],k2⟩
   grind
  ·simp only[ha]at h
   split at h
   ·rename_i l hl
    cases h
    refine⟨.agg (a.extract f.offset (f.offset+fi.size)),by simp[A9 g1],?_⟩
    obtain⟨t1,t2⟩:=Hu hl;unfold R;refine⟨_,rfl,?_,?_⟩
    ·have e:(a.extract f.offset (f.offset+fi.size)).toList=(a.toList.drop f.offset).take tf.size:=by
      rw[g4];simp[gd_]
     rw[e,t1]
     have key:∀(n:Nat) (l:List AV) (vs:List Value),RL C N w l vs->RL C N w (l.take n) (vs.take n):=by
      intro n
      induction n with
      |zero=>intro l vs _;simp only[List.take_zero];unfold RL;trivial
      |succ n ih=>intro l vs hl;cases l<;>cases vs<;>unfold RL at hl<;>first|exact hl.elim|(simp only[List.take_nil];unfold RL;trivial)|(simp only[List.take_succ_cons];unfold RL;exact⟨hl.1,ih _ _ hl.2⟩)
     grind
    ·intro y hy;refine q2 y ?_
     simp at hy
     grind
   grind
 obtain⟨x,k1,k2⟩:=hp
 exact⟨x,by simp only[Sem.run_bind,Aa (h2.trans (by rw[←h3,hfs])),Result.andThen_ok,hf',asAgg,Sem.run_pure,k1],k2⟩
theorem Wl{J J'}{t e:TypeId}{ti te}(hti:Ay P t=some ti)(hd:ti.desc=.slice e)(hte:Ay P e=some te){x i X I}(hx:R C N w x X)(hi:R C N w i I){v}
  (h:Gt te.size x i J=some (v,J')):J'=J/\Dz P C N w (Instr.indexAt t X I) v:=by
 obtain⟨_,d,_,h2,h3,_⟩:=Ap hti;obtain⟨ei,_,g1,_,_,g4,_⟩:=Ap hte
 have hu:=h2.trans (by rw[←h3,hd])
 unfold Gt at h
 split at h
 ·rename_i k n
  unfold R at hi;subst hi
  split at h
  ·rename_i a off sz len cap
   cases hb:Nat.blt n len
   ·grind
   ·simp only[hb,cond_true,Ak,af_,ba_]at h;obtain⟨rfl,rfl⟩:=h;have hlt:n<len:=al_ hb;refine⟨rfl,?_⟩;unfold R at hx;obtain⟨ad,kk,rfl,q1,q2,q3,q4⟩:=hx;refine⟨.pointer (some (ad.add (n*ei.size))),?_,?_⟩
    ·unfold Instr.indexAt;simp only[asIntOf,Sem.run_bind,Sem.run_pure,Result.andThen_ok,Aa hu]
     rw[if_pos ⟨by simp,gr⟩]
     simp[A9 g1]
    ·unfold R;refine⟨_,rfl,q1,fun c o hc=>?_⟩
     rw[(q4 c o hc).1 Om,Hb,g4];grind
  ·rename_i cs sz len cap
   cases hb:Nat.blt n len
   ·grind
   ·simp only[hb,cond_true,af_,ba_]at h;obtain⟨rfl,rfl⟩:=h;have hlt:n<len:=al_ hb;refine⟨rfl,?_⟩;unfold R at hx;obtain⟨ado,kk,rfl,q2,q3,q4,q0,q567⟩:=hx
    obtain _|ad:=ado
    ·grind
    obtain⟨q5,q6,q7⟩:=q567 ad rfl;have hsp:=q5 Om;obtain⟨b,o,sp⟩:=ad;simp only at hsp;subst hsp;refine⟨.pointer (some ⟨b,o+n*ei.size,none⟩),?_,?_⟩
    ·unfold Instr.indexAt;simp only[asIntOf,Sem.run_bind,Sem.run_pure,Result.andThen_ok,Aa hu]
     rw[if_pos ⟨by simp,gr⟩]
     simp[A9 g1,Hb]
    ·unfold R;rw[g4];exact⟨b,_,rfl,fun hne=>q6 (fun hh=>hne gr),q7.drop _⟩
  grind
 grind
theorem Sa{J J'}{t e:TypeId}{len ti te}(hti:Ay P t=some ti)(hd:ti.desc=.array len e)(hte:Ay P e=some te){x i X I}(hx:R C N w x X)(hi:R C N w i I){v}
  (h:E6 len te.size x i J=some (v,J')):J'=J/\Dz P C N w (Instr.indexAt t X I) v:=by
 obtain⟨_,d,_,h2,h3,_⟩:=Ap hti;obtain⟨ei,_,g1,_,_,g4,_⟩:=Ap hte
 have hu:=h2.trans (by rw[←h3,hd])
 unfold E6 at h
 split at h
 ·rename_i k n
  unfold R at hi;subst hi;cases hb:Nat.blt n len
  ·grind
  ·simp only[hb,cond_true]at h
   split at h
   ·rename_i u hp
    cases h;have hlt:n<len:=al_ hb;obtain⟨ad,rfl,hr⟩:=Ue hx hp;refine⟨rfl,.pointer (some (ad.add (n*ei.size))),?_,gr⟩;unfold Instr.indexAt;simp only[asIntOf,Sem.run_bind,Sem.run_pure,Result.andThen_ok,Aa hu,Instr.sureAddr]
    rw[if_pos ⟨by simp,gr⟩]
    simp[A9 g1]
   grind
 grind
theorem Ah2{s}{n b:Nat}(h:(B2 s)[n]? =some b):∃u:UInt8,s[n]? =some u/\u.toNat=b:=by
 unfold B2 at h;simp only[br_,cy_]at h;obtain⟨u,h1,h2⟩:=h;refine⟨u,?_,h2⟩;have hlt:n<s.data.toList.length:=(ae_.1 h1).1
 have d8:n<s.size:=by simpa using hlt
 rw[getElem?_pos s n d8];have:=(ae_.1 h1).2;simp only[Array.getElem_toList]at this;rw[←this];rfl
theorem Yj{J J'}{t:TypeId}{ti}(hti:Ay P t=some ti)(hd:ti.desc=.string){x i X I}(hx:R C N w x X)(hi:R C N w i I){v}
  (h:Lc x i J=some (v,J')):J'=J/\Dz P C N w (Instr.index t X I) v:=by
 obtain⟨_,d,_,h2,h3,_⟩:=Ap hti
 have hu:=h2.trans (by rw[←h3,hd])
 unfold Lc at h
 split at h
 ·rename_i l k n
  split at h
  ·rename_i b hb
   cases h;unfold R at hx hi;subst hi;obtain⟨s,rfl,rfl⟩:=hx;obtain⟨u,q1,q2⟩:=Ah2 hb
   refine⟨rfl,.int .u8 u.toNat,?_,by unfold R;grind⟩
   unfold Instr.index;simp only[asIntOf,Sem.run_bind,Sem.run_pure,Result.andThen_ok,Aa hu];have:(if(0:Int)<=Int.ofNat n then s[(Int.ofNat n).toNat]? else none)=some u:=gr;rw[this]
   rfl
  grind
 grind
end
section
variable {P:Program}{C:Ctx}{N:Nat}{w:World}
def RO(C:Ctx)(N:Nat)(w:World):Option AV->Option Value->Prop
 |none,none=>True
 |some x,some v=>R C N w x v
 |_,_=>False
theorem Hv{n y:Nat}{k code}(h:n<=y):(Instr.sliceBound (.int k (n:Int)) y code).run P w=.ok n w:=by
 unfold Instr.sliceBound;simp only[asIntOf,Sem.run_bind,Sem.run_pure,Result.andThen_ok]
 rw[if_pos ⟨by omega,by omega⟩]
 simp
theorem Ju{len cap k:Nat}{acap}(hk:len<=k)(fw:∀q,acap=some q->k=q){lo hi mx LO HI MX}(h1:RO C N w lo LO)(h2:RO C N w hi HI)(h3:RO C N w mx MX)
  {l h c}(hb:Do len acap lo hi mx=some (l,h,c))(sl):
  ∃m,(Instr.sliceBounds sl len k LO HI MX).run P w=.ok (l,h,m) w/\l<=h/\h<=m/\m<=k/\(∀q,c=some q->m-l=q)/\(mx=none->m=k/\c=Mz acap l):=by
 have fy:∀n,Li len acap n=true->n<=k:=fun n hn=>by
  unfold Li at hn;cases hb:Nat.ble n len
  ·simp only[hb,cond_false]at hn
   split at hn
   ·rename_i q;have:=fw q rfl;have:=al_ hn;omega
   ·cases hn
  ·have:=al_ hb;omega
 unfold Do at hb
 split at hb
 ·rename_i l' h' hl hh
  have hLO:(LO=none/\l'=0)∨∃kk,LO=some (.int kk (l':Int)):=by
   cases lo with
   |none=>
    cases LO with
    |none=>simp at hl;exact .inl ⟨rfl,hl.symm⟩
    |some _=>unfold RO at h1;exact h1.elim
   |some v=>
    cases LO with
    |none=>unfold RO at h1;exact h1.elim
    |some V=>
     unfold RO at h1;simp only at hl;obtain⟨kk,rfl⟩:=S0 hl h1;exact .inr ⟨kk,rfl⟩
  have hHI:(hi=none/\HI=none/\h'=len)∨∃kk,HI=some (.int kk (h':Int)):=by
   cases hi with
   |none=>
    cases HI with
    |none=>simp at hh;exact .inl ⟨rfl,rfl,hh.symm⟩
    |some _=>unfold RO at h2;exact h2.elim
   |some v=>
    cases HI with
    |none=>unfold RO at h2;exact h2.elim
    |some V=>
     unfold RO at h2;simp only at hh;obtain⟨kk,rfl⟩:=S0 hh h2;exact .inr ⟨kk,rfl⟩
  split at hb
  ·have hMX:MX=none:=by
    cases MX with
    |none=>rfl
    |some _=>unfold RO at h3;exact h3.elim
   subst hMX;cases hc:(Nat.ble l' h'&&Li len acap h')
   ·grind
   ·simp only[hc,cond_true,af_,ba_]at hb;obtain⟨rfl,rfl,rfl⟩:=hb;simp only[ad_]at hc;have hle:=al_ hc.1;have hk':=fy h' hc.2;refine⟨k,?_,hle,hk',nl,fun q hq=>?_,fun _=>⟨rfl,rfl⟩⟩
    ·unfold Instr.sliceBounds
     rcases hHI with⟨_,rfl,rfl⟩|⟨kk,rfl⟩<;>rcases hLO with⟨rfl,rfl⟩|⟨kk',rfl⟩<;>
      simp only[Sem.run_bind,Sem.run_pure,Result.andThen_ok,Hv hk',Hv hle]
    ·unfold Mz at hq
     grind
  ·rename_i mv
   split at hb
   ·rename_i m hv hm
    have hMX:∃kk,MX=some (.int kk (m:Int)):=by
     cases MX with
     |none=>unfold RO at h3;exact h3.elim
     |some V=>unfold RO at h3;obtain⟨kk,rfl⟩:=S0 hm h3;exact⟨kk,rfl⟩
    obtain⟨k3,rfl⟩:=hMX;cases hc:(Nat.ble l' h'&&Nat.ble h' m&&Li len acap m)
    ·grind
    ·simp only[hc,cond_true,af_,ba_]at hb;obtain⟨rfl,rfl,rfl⟩:=hb;simp only[ad_]at hc;have hle:=al_ hc.1.1;have kw:=al_ hc.1.2;have hk':=fy m hc.2;refine⟨m,?_,hle,kw,hk',gr,gr⟩;unfold Instr.sliceBounds
     rcases hHI with⟨hn,_,_⟩|⟨kk,rfl⟩
     ·cases hn
     ·rcases hLO with⟨rfl,rfl⟩|⟨kk',rfl⟩<;>
       simp only[Sem.run_bind,Sem.run_pure,Result.andThen_ok,Hv hk',Hv hle,Hv kw]
   ·cases hb
 ·cases hb
theorem Agb{J J'}{t e:TypeId}{ti te}(hti:Ay P t=some ti)(hd:ti.desc=.slice e)(hte:Ay P e=some te){x X}(hx:R C N w x X){lo hi mx LO HI MX}
  (h1:RO C N w lo LO)(h2:RO C N w hi HI)(h3:RO C N w mx MX){v}(h:Lj te.size x lo hi mx J=some (v,J')):J'=J/\Dz P C N w (Instr.sliceAt t X LO HI MX) v:=by
 obtain⟨_,d,_,g2,g3,_⟩:=Ap hti;obtain⟨ei,_,e1,_,_,e4,_⟩:=Ap hte
 have hu:=g2.trans (by rw[←g3,hd])
 unfold Lj at h
 split at h
 ·rename_i a off sz len cap
  split at h
  ·rename_i hsz
   split at h
   ·rename_i l hh c hb
    simp only[Ak,af_,ba_]at h;obtain⟨rfl,rfl⟩:=h;refine⟨rfl,?_⟩;unfold R at hx;obtain⟨ad,k,rfl,q1,q2,q3,q4⟩:=hx;obtain⟨m,b1,b2,b3,b4,b5,_⟩:=Ju (P:=P) (cap:=0) q2 q3 h1 h2 h3 hb true
    have hs:sz=ei.size:=by rw[←e4];exact ac_ hsz
    refine⟨.slice (if m=l then some ad else some (ad.add (l*ei.size))) (hh-l) (m-l),?_,?_⟩
    ·unfold Instr.sliceAt;simp only[Sem.run_bind,Aa hu,Result.andThen_ok];unfold Instr.slice;simp only[Sem.run_bind,Aa hu,Result.andThen_ok,b1,A9 e1,Sem.run_pure,ds_]
    ·unfold R
     refine⟨if m=l then ad else ad.add (l*ei.size),m-l,gr,q1,by omega,b5,fun c' o hc=>?_⟩
     obtain⟨q5,q6⟩:=q4 c' o hc;refine⟨fun ec=>?_,?_⟩
     ·rw[if_neg Om,q5 Om,Hb,hs];congr 1;omega
     ·have:(m-l)*sz+l*sz<=k*sz:=by rw[←ha_];exact el_ _ Om
      omega
   ·cases h
  ·cases h
 ·rename_i cs sz len cap
  split at h
  ·rename_i hsz
   split at h
   ·rename_i l hh c hb
    split at h
    ·rename_i cs' hcs
     simp only[Ak,af_,ba_]at h;obtain⟨rfl,rfl⟩:=h;refine⟨rfl,?_⟩;unfold R at hx;obtain⟨ado,k,rfl,q2,q3,q4,q0,q567⟩:=hx;obtain⟨m,b1,b2,b3,b4,b5,_⟩:=Ju (P:=P) (cap:=0) q2 q3 h1 h2 h3 hb true
     have hs:sz=ei.size:=by rw[←e4];exact ac_ hsz
     obtain⟨t1,t2⟩:=Hu hcs
     obtain _|ad:=ado
     ·have hk0:=q0 rfl
      have:m=l/\hh-l=0/\m-l=0:=by omega
      refine⟨.slice none (hh-l) (m-l),?_,?_⟩
      ·unfold Instr.sliceAt;simp only[Sem.run_bind,Aa hu,Result.andThen_ok];unfold Instr.slice;simp only[Sem.run_bind,Aa hu,Result.andThen_ok,b1,A9 e1,Sem.run_pure,gt_]
       split<;>rfl
      ·unfold R
       grind
     obtain⟨q5,q6,q7⟩:=q567 ad rfl;refine⟨.slice (if m=l then some ad else some (ad.add (l*ei.size))) (hh-l) (m-l),?_,?_⟩
     ·unfold Instr.sliceAt;simp only[Sem.run_bind,Aa hu,Result.andThen_ok];unfold Instr.slice;simp only[Sem.run_bind,Aa hu,Result.andThen_ok,b1,A9 e1,Sem.run_pure,ds_]
     ·have hne:cs'≠[]->¬m=l:=fun hne hml=>by
       apply hne
       have:hh-l=0:=by omega
       rw[this]at t2;grind
      unfold R
      refine⟨some (if m=l then ad else ad.add (l*ei.size)),m-l,gr,by omega,b5,t2,fun hh=>(by cases hh),fun ad' ha=>?_⟩
      cases ha;refine⟨fun ec=>?_,fun ft=>?_,?_⟩
      ·rw[if_neg Om];have:=q5 Om;obtain⟨b,o,sp⟩:=ad;simp only at this;subst this;rw[Hb]
      ·have o8:cs≠[]:=gr;rw[if_neg (hne ft)];have bl:0<k:=gr;have:=q5 bl;obtain⟨b,o,sp⟩:=ad;simp only at this;subst this;rw[Hb];exact q6 o8
      ·by_cases ft:cs'=[]
       ·rw[ft];unfold RC;trivial
       ·rw[if_neg (hne ft)];have bl:0<k:=gr;have:=q5 bl;obtain⟨b,o,sp⟩:=ad;simp only at this;subst this;rw[Hb,←hs];exact(q7.drop (l*sz)).take _ hcs
    ·cases h
   ·cases h
  ·cases h
 ·split at h
  ·rename_i b hb
   cases h;refine⟨rfl,?_⟩;obtain⟨l,hh,c⟩:=b;unfold R at hx;obtain⟨rfl,hn⟩:=hx;obtain⟨m,b1,b2,b3,b4,b5,_⟩:=Ju (P:=P) (cap:=0) (k:=0) nl gr h1 h2 h3 hb true
   have:hh-l=0/\m-l=0:=by omega
   refine⟨.slice none 0 0,?_,by unfold R;grind⟩
   unfold Instr.sliceAt;simp only[Sem.run_bind,Aa hu,Result.andThen_ok];unfold Instr.slice;simp only[Sem.run_bind,Aa hu,Result.andThen_ok,b1,A9 e1,Sem.run_pure,gt_,this.1,this.2]
   split<;>rfl
  ·cases h
 ·cases h
theorem Yk(s l h):B2 (s.extract l h)=((B2 s).take h).drop l:=by
 unfold B2;rw[gd_]
 simp[ByteArray.data_extract,List.map_take,List.map_drop]
theorem Yl{J J'}{t:TypeId}{ti}(hti:Ay P t=some ti)(hd:ti.desc=.string){x X}(hx:R C N w x X){lo hi LO HI}
  (h1:RO C N w lo LO)(h2:RO C N w hi HI){v}(h:Nb x lo hi J=some (v,J')):J'=J/\Dz P C N w (Instr.sliceAt t X LO HI none) v:=by
 obtain⟨_,d,_,g2,g3,_⟩:=Ap hti
 have hu:=g2.trans (by rw[←g3,hd])
 unfold Nb at h
 split at h
 ·rename_i l
  split at h
  ·rename_i a b c hb
   cases h;refine⟨rfl,?_⟩;unfold R at hx;obtain⟨s,rfl,rfl⟩:=hx
   obtain⟨m,b1,b2,b3,b4,b5,_⟩:=Ju (P:=P) (cap:=0) (k:=(B2 s).length) nl gr h1 h2 (show RO C N w none none by unfold RO;trivial) hb false
   rw[Fg]at b1
   refine⟨.string (s.extract a b),?_,by unfold R;exact⟨_,rfl,Yk s a b⟩⟩
   unfold Instr.sliceAt;simp only[Sem.run_bind,Aa hu,Result.andThen_ok];unfold Instr.slice;simp only[Sem.run_bind,Aa hu,Result.andThen_ok,Option.isSome_none,bp_,if_false,b1,Sem.run_pure]
  ·cases h
 ·cases h
theorem Aap{J J' i x X}(hx:R C N w x X){v}(h:Nc i x J=some (v,J')):J'=J/\Dz P C N w (Instr.extract X i) v:=by
 unfold Nc at h
 split at h
 ·split at h
  ·rename_i vs u hu
   cases h;unfold R at hx;obtain⟨a,rfl,q⟩:=hx;obtain⟨z,k1,k2⟩:=q.get i _ hu;have:a[i]? =some z:=gr
   exact⟨rfl,z,by simp[Instr.extract,this],k2⟩
  ·cases h
 ·cases h
theorem Ym{J J' x X}(hx:R C N w x X){v}(h:Jf x J=some (v,J'))(dst o ρ)(hρ:ρ o=X)(ty pos after g):
  J'=J/\(execOp ρ ⟨dst,.nilCheck o,ty,pos,after,g⟩).run P w=.ok (.value X) w/\R C N w v X:=by
 unfold Jf at h
 split at h
 ·cases h;refine⟨rfl,?_,hx⟩;unfold R at hx;obtain⟨ad,rfl,_⟩:=hx
  simp[execOp,hρ]
 ·cases h;refine⟨rfl,?_,hx⟩;unfold R at hx;obtain⟨c,o',rfl,_⟩:=hx
  simp[execOp,hρ]
 ·cases h;refine⟨rfl,?_,hx⟩;unfold R at hx;obtain⟨a,b,rfl,_⟩:=hx
  simp[execOp,hρ]
 ·cases h
theorem Yn{J J'}{t e:TypeId}{n ti te}(hti:Ay P t=some ti)(hd:ti.desc=.array n e)(hte:Ay P e=some te){x X}(hx:R C N w x X)(hsim:∀a vs,J.get a=some (.cells vs)->vs≠[]->∃c o,C.loc a=some (c,o)/\o+vs.length<=csize w c)
  {lo hi mx LO HI MX}
  (h1:RO C N w lo LO)(h2:RO C N w hi HI)(h3:RO C N w mx MX){v}(h:Wf n te.size x lo hi mx J=some (v,J')):J'=J/\Dz P C N w (Instr.sliceAt t X LO HI MX) v:=by
 unfold Wf at h;cases h
theorem RC.room:∀{vs:List AV} {c o:Nat},RC C N w c vs o->vs≠[]->o+vs.length<=csize w c
 |[x],c,o,h,_=>by
  unfold RC at h;obtain⟨⟨v,h1,_⟩,_⟩:=h;unfold World.cell? at h1;unfold csize
  grind
 |x::y::r,c,o,h,_=>by
  unfold RC at h
  have:=RC.room h.2 (by simp)
  grind
theorem Adn{J J':Sto}{t xt:TypeId}{ti:TI}(hti:Ay P t=some ti)(hd:∀m,ti.desc≠.interface m){ok:Bool}{x:AV}{X:Value}(hx:R C N w x X){v:AV}(h:Zr t (Lh ti) ok x J=some (v,J')):
  J'=J/\Dz P C N w (Instr.typeAssert X xt t ok) v:=by
 obtain⟨i,d,g1,g2,g3,g4,_,g6,g7⟩:=Ap hti;have hnd:∀m,d≠.interface m:=gr
 have fails:ok=true->∀z,Lh ti=some z->(∃u y,X=.iface u y/\u≠t)∨X=.nilIface->Dz P C N w (Instr.typeAssert X xt t ok) (.tup [z,.bool false]):=by
  intro hok z hz hX;subst hok;obtain⟨Z,q1,q2⟩:=Ub (P:=P) (C:=C) (N:=N) (w:=w) hti hz
  refine⟨.tuple #[Z,.bool false],?_,by unfold R;exact⟨_,rfl,by unfold RL;exact⟨q2,by unfold RL;exact⟨by unfold R;rfl,by unfold RL;trivial⟩⟩⟩⟩
  unfold Instr.typeAssert;simp only[Sem.run_bind,Aa g2,Result.andThen_ok]
  rcases hX with⟨u,y,rfl,hne⟩|rfl
  ·cases d<;>first|(exact absurd rfl (hnd _))|simp[hne,q1]
  ·cases d<;>first|(exact absurd rfl (hnd _))|simp[q1]
 unfold Zr at h
 split at h
 ·rename_i t' y
  unfold R at hx;obtain⟨Y,rfl,hy⟩:=hx
  split at h
  ·rename_i ht
   have ht:=ac_ ht;subst ht;cases h;refine⟨rfl,?_⟩;cases ok
   ·refine⟨Y,?_,hy⟩;unfold Instr.typeAssert;simp only[Sem.run_bind,Aa g2,Result.andThen_ok]
    cases d<;>first|(exact absurd rfl (hnd _))|simp
   ·refine⟨.tuple #[Y,.bool true],?_,by simp only[Aae];unfold R;exact⟨_,rfl,by unfold RL;exact⟨hy,by unfold RL;exact⟨by unfold R;rfl,by unfold RL;trivial⟩⟩⟩⟩
    unfold Instr.typeAssert;simp only[Sem.run_bind,Aa g2,Result.andThen_ok]
    cases d<;>first|(exact absurd rfl (hnd _))|simp
  ·rename_i ht
   split at h
   ·rename_i z hz
    cases h
    exact⟨rfl,fails rfl z hz (.inl ⟨t',Y,rfl,fun he=>by rw[he]at ht;simp at ht⟩)⟩
   ·cases h
 ·unfold R at hx
  grind
 ·cases h
end
section
variable {P:Program}{C C':Ctx}{N N':Nat}{w w':World}
theorem RL.of_get:∀{l:List AV} {vs:List Value},l.length=vs.length->(∀(i:Nat) (x:AV),l[i]? =some x->∃v,vs[i]? =some v/\R C N w x v)->RL C N w l vs
 |[],[],_,_=>by unfold RL;trivial
 |x::r,v::s,hl,h=>by
  unfold RL;obtain⟨v',h1,h2⟩:=h 0 x rfl
  simp at h1;subst h1
  exact⟨h2,RL.of_get (by simpa using hl) fun i y hy=>by have:=h (i+1) y (by simpa using hy);simpa using this⟩
 |[],_::_,hl,_=>by simp at hl
 |_::_,[],hl,_=>by simp at hl
abbrev gu_:=@RL.of_get
theorem RC.of_get:∀{cs:List AV} {c o:Nat},(∀(i:Nat) (x:AV),cs[i]? =some x->∃v,w.cell? ⟨c,o+i,none⟩=some v/\v.oneCell=true/\R C N w x v)->RC C N w c cs o
 |[],_,_,_=>by unfold RC;trivial
 |x::r,c,o,h=>by
  unfold RC
  exact⟨h 0 x rfl,RC.of_get fun i y hy=>by have:=h (i+1) y (by simpa using hy);rwa[show o+1+i=o+(i+1) by omega]⟩
abbrev gv_:=@RC.of_get
theorem N5:∀{l:List AV} {off:Nat} {xs l':List AV},Et l off xs=some l'->
  l'.length=l.length/\off+xs.length<=l.length/\∀j:Nat,l'[j]? =if off<=j/\j<off+xs.length then xs[j-off]? else l[j]?
 |l,0,[],l',h=>by
  have:l=l':=by cases l<;>simpa[Et]using h
  subst this
  exact⟨rfl,by simp,fun j=>by rw[if_neg (by simp)]⟩
 |y::r,0,x::xs,l',h=>by
  simp only[Et]at h
  split at h
  ·rename_i m hm
   cases h;obtain⟨h1,h2,h3⟩:=N5 hm
   refine⟨by simp[h1],by simp at h2⊢;omega,fun j=>?_⟩
   cases j with
   |zero=>rw[if_pos (by simp)];rfl
   |succ j=>
    have:=h3 j;simp only[cq_,this];simp only[as_]
    by_cases hj:j<xs.length
    ·rw[if_pos Om,if_pos Om];simp
    ·rw[if_neg Om,if_neg Om]
  ·cases h
 |y::r,k+1,xs,l',h=>by
  have h':∃m,Et r k xs=some m/\y::m=l':=by
   cases xs with
   |nil=>
    simp only[Et]at h;cases hm:Et r k []with
    |none=>rw[hm]at h;cases h
    |some m=>rw[hm]at h;simp only[af_]at h;exact⟨m,rfl,h⟩
   |cons x xs=>
    simp only[Et]at h;cases hm:Et r k (x::xs)with
    |none=>rw[hm]at h;cases h
    |some m=>rw[hm]at h;simp only[af_]at h;exact⟨m,rfl,h⟩
  obtain⟨m,hm,he⟩:=h';subst he
  ·obtain⟨h1,h2,h3⟩:=N5 hm
   refine⟨by simp[h1],by simp;omega,fun j=>?_⟩
   cases j with
   |zero=>rw[if_neg Om];rfl
   |succ j=>
    simp only[cq_,h3 j]
    by_cases hj:k<=j/\j<k+xs.length
    ·rw[if_pos hj,if_pos Om,show j+1-(k+1)=j-k by omega]
    ·rw[if_neg hj,if_neg Om]
 |[],0,x::xs,l',h=>by simp[Et]at h
 |[],k+1,xs,l',h=>by cases xs<;>simp[Et]at h
theorem RL.set{l xs l' off cs vs}(h:RL C N w l cs.toList)(hx:RL C N w xs vs)(hs:Et l off xs=some l'):RL C N w l' (Wg cs off vs).toList/\off+vs.length<=cs.size:=by
 obtain⟨h1,h2,h3⟩:=N5 hs;have hl:=h.length;have hxl:=hx.length
 have hle:off+vs.length<=cs.size:=by rw[←hxl];simp at hl;omega
 refine⟨gu_ (by rw[h1,hl];simp[Nf]) fun i x hi=>?_,hle⟩
 rw[h3 i]at hi;rw[bw_,Pw vs cs off hle]
 by_cases hc:off<=i/\i<off+xs.length
 ·rw[if_pos hc]at hi;rw[if_pos Om];exact hx.get _ x hi
 ·rw[if_neg hc]at hi;rw[if_neg Om,←bw_];exact h.get i x hi
theorem Aqo{vs cs off}(h:∀x∈cs.toList,x.oneCell=true)(hv:∀x∈vs,x.oneCell=true)(hle:off+vs.length<=cs.size):∀x∈(Wg cs off vs).toList,x.oneCell=true:=by
 intro x hx;obtain⟨i,hi⟩:=au_.1 hx;rw[bw_,Pw vs cs off hle]at hi
 split at hi
 ·exact hv x (ab_ hi)
 ·exact h x (by rw[←bw_]at hi;exact ab_ hi)
theorem Akt(l):∀(off k:Nat) (cs:Array Value),((l.zipIdx k).foldl (fun cs (x:Value×Nat)=>cs.setIfInBounds (off+x.2) x.1) cs)=Wg cs (off+k) l:=by
 induction l with
 |nil=>intro off k cs;rfl
 |cons v r ih=>
  intro off k cs;simp only[List.zipIdx_cons,ct_,Wg];rw[ih off (k+1)]
  rfl
def Mi(C:Ctx)(N:Nat)(w:World)(place:Nat->Option (Nat×Nat)):List (Nat×Nat×AV)->List (Nat×Value)->Prop
 |[],[]=>True
 |x::r,p::s=>(place p.1=some (x.1,x.2.1)/\R C N w x.2.2 p.2)/\Mi C N w place r s
 |_,_=>False
theorem N6{place}:∀{ps:List (Nat×Nat×AV)} {vs:List (Nat×Value)} {l l':List AV} {cs:Array Value},Mi C N w place ps vs->RL C N w l cs.toList->(∀x∈cs.toList,x.oneCell=true)->Si l ps=some l'->
  ∃cs',Instr.fill place cs vs=some cs'/\RL C N w l' cs'.toList/\(∀x∈cs'.toList,x.oneCell=true)/\cs'.size=cs.size
 |[],[],l,l',cs,_,h1,h2,h=>by
  simp only[Si,af_]at h;subst h;exact⟨cs,rfl,h1,h2,rfl⟩
 |x::r,p::s,l,l',cs,hp,h1,h2,h=>by
  obtain⟨off,size,v⟩:=x;obtain⟨i,V⟩:=p;unfold Mi at hp;obtain⟨⟨hp1,hp2⟩,hp3⟩:=hp;simp only[Si]at h
  split at h
  ·rename_i m hm
   split at h
   ·rename_i l1 hl1
    obtain⟨q1,q2,q3,q4⟩:=Hc hm hp2;obtain⟨k1,k2⟩:=h1.set q1 hl1;obtain⟨cs',g1,g2,g3,g4⟩:=N6 hp3 k1 (Aqo h2 q4 k2) h
    refine⟨cs',?_,g2,g3,by rw[g4,Nf]⟩
    have hsz:V.cells.toList.length=V.cells.size:=by simp
    simp only[Instr.fill,hp1]
    rw[if_neg (by simp;exact⟨q2,by omega⟩)]
    rw[←g1]
    congr 1
    have:=Akt V.cells.toList off 0 cs;rw[fd_]at this;rw[←this,←fv_]
    congr 1
    simp
   ·cases h
  ·cases h
 |[],_::_,_,_,_,hp,_,_,_=>by unfold Mi at hp;exact hp.elim
 |_::_,[],_,_,_,hp,_,_,_=>by unfold Mi at hp;exact hp.elim
end
section
variable {P:Program}{C C':Ctx}{N N':Nat}{w w':World}{J J':Sto}
theorem Jh{c o cs T fz}(h:w.heap[c]? =some (.cells cs T fz)):w.cell? ⟨c,o,none⟩=cs[o]? :=by
 unfold World.cell?;simp[h]
theorem Fl{c cs T fz}(h:w.heap[c]? =some (.cells cs T fz)):csize w c=cs.size:=by
 unfold csize;simp[h]
theorem RC.of_cells{c o cs T fz l vs}(hh:w.heap[c]? =some (.cells cs T fz))(h:RL C N w l vs)(h1:∀x∈vs,x.oneCell=true)
  (hv:∀(i:Nat) (v:Value),vs[i]? =some v->cs[o+i]? =some v):RC C N w c l o:=by
 refine gv_ fun i x hi=>?_
 obtain⟨v,k1,k2⟩:=h.get i x hi;exact⟨v,(Jh hh).trans (hv i v k1),h1 v (ab_ k1),k2⟩
abbrev fb_:=@RC.of_cells
theorem P2(hs:Sim P C w J){cs T l vs}(p:Pu w w' (.cells cs T (0,0)))(h:RL C (nx J) w l vs)(h1:∀x∈vs,x.oneCell=true)
  (hv:∀(i:Nat) (v:Value),vs[i]? =some v->cs[i]? =some v):
  Sim P (C.add (nx J) w.heap.size 0) w' (J.new (.cells l))/\Ext C (nx J) w (C.add (nx J) w.heap.size 0) (nx J+1) w':=by
 refine hs.new p (.cells l) rfl fun e=>?_
 refine⟨w.heap.size,0,cs,T,by simp[Ctx.add],p.here,?_⟩
 rw[Ao]
 exact fb_ p.here (h.ext e) h1 fun i v hi=>by rw[bn_];exact hv i v hi
theorem R.newPtr{c o N a}(ha:a<N)(hl:C.loc a=some (c,o)):R C N w (.pr a 0) (.pointer (some ⟨c,o,none⟩)):=by
 unfold R;refine⟨_,rfl,ha,fun c' o' hc=>?_⟩
 rw[hl]at hc;cases hc;simp
theorem R.newSlice{c o N len k sz a cap}(ha:a<N)(hl:C.loc a=some (c,o))(h1:len<=k)(h2:∀q,cap=some q->k=q)(h3:o+k*sz<=csize w c):
  R C N w (.sr a 0 sz len cap) (.slice (some ⟨c,o,none⟩) len k):=by
 unfold R;refine⟨_,k,rfl,ha,h1,h2,fun c' o' hc=>?_⟩
 rw[hl]at hc;cases hc
 exact⟨fun _=>by simp,by omega⟩
theorem Ctx.add_loc(C:Ctx)(a c o):(C.add a c o).loc a=some (c,o):=by simp[Ctx.add]
abbrev ec_:=@Ctx.add_loc
theorem K3(w O):Pu w { w with heap:=w.heap.push O } O:=fa_ rfl ⟨rfl,rfl⟩
theorem At1(w O):Pu w { w with heap:=w.heap.push O,drawn:=w.drawn+1 } O:=fa_ rfl ⟨rfl,rfl⟩
theorem C5{t i z}(h:P.info? t=some i)(hz:i.zero=some z)(w):(zeroValue t).run P w=.ok z w:=by
 unfold zeroValue;simp[Cq h,hz]
theorem Agc(hs:Sim P C w J){t:TypeId}{ti}(hti:Ay P t=some ti){z}(hz:ti.zero=some z){v}(h:Aab z J=some (v,J')):Iv P C w J (Instr.alloc t true (.tuple #[])) v J':=by
 obtain⟨i,d,g1,g2,g3,g4,_,g6,g7⟩:=Ap hti;rw[g6]at hz;obtain⟨Z,q1,q2,q3,_,_⟩:=Fq (C:=C) (w:=w) (N:=nx J) hz;unfold Aab at h;cases h;have p:=K3 w (.cells Z.cells t (0,0))
 obtain⟨k1,k2⟩:=P2 hs p q2 q3 (fun i v hi=>by rwa[bw_]at hi)
 refine⟨_,_,_,_,?_,rfl,k1,by rw[Ao];exact k2,by rw[Ao];exact R.newPtr (bl_ _) (ec_ ..)⟩
 unfold Instr.alloc
 simp[C5 g1 q1,newVar,newRow]
theorem Aku(hs:Sim P C w J){t n x X}(hx:R C (nx J) w x X){v}(h:sBox n x J=some (v,J')):Iv P C w J (Instr.box t X) v J':=by
 unfold sBox at h
 split at h
 ·rename_i cs hcs
  cases h;obtain⟨q1,q2,q3,q4⟩:=Hc hcs hx;have p:=K3 w (.cells X.cells t (0,0))
  obtain⟨k1,k2⟩:=P2 hs p q1 q4 (fun i v hi=>by rwa[bw_]at hi)
  refine⟨_,_,_,_,?_,rfl,k1,by rw[Ao];exact k2,by rw[Ao];exact R.newPtr (bl_ _) (ec_ ..)⟩
  unfold Instr.box
  simp[newVar,newRow]
 ·cases h
theorem N7(z):∀n,(rep z n).length=n*z.length
 |0=>by simp[rep]
 |n+1=>by simp[rep,N7 z n,fw_];omega
theorem Ama(z)(hz:0<z.length):∀(n i:Nat) (x:AV),(rep z n)[i]? =some x->z[i%z.length]? =some x
 |0,i,x,h=>by simp[rep]at h
 |n+1,i,x,h=>by
  simp only[rep]at h
  by_cases hi:i<z.length
  ·rw[cg_ hi]at h;rw[go_ hi];exact h
  ·rw[do_ Om]at h;have:=Ama z hz n _ x h;rw[Nat.mod_eq_sub_mod Om];exact this
theorem RL.rep{z}{zc:Array Value}(h:RL C N w z zc.toList)(n):RL C N w (rep z n) ((Array.range (n*zc.size)).map (zc[·%zc.size]!)).toList:=by
 have hl:=h.length
 have hl':z.length=zc.size:=by simpa using hl
 refine gu_ (by rw[N7];simp[hl']) fun i x hi=>?_
 have hb:=(ae_.1 hi).1;rw[N7]at hb
 have hz:0<z.length:=by
  rcases de_ z.length with h0|h0
  ·rw[h0]at hb;omega
  ·exact h0
 obtain⟨v,k1,k2⟩:=h.get _ _ (Ama z hz n i x hi);refine⟨v,?_,k2⟩;rw[hl']at k1 hb
 have k1':zc[i%zc.size]? =some v:=by simpa using k1
 simp only[c_,br_,bw_,Array.getElem?_range]
 simp[hb,getElem!_def,k1']
theorem Mj{zc:Array Value}(h:∀x∈zc.toList,x.oneCell=true)(n):∀x∈((Array.range (n*zc.size)).map (zc[·%zc.size]!)).toList,x.oneCell=true:=by
 intro x hx;simp only[c_,bt_]at hx;obtain⟨i,h1,rfl⟩:=hx
 have hi:i<n*zc.size:=by simpa using h1
 have hz:0<zc.size:=by
  rcases de_ zc.size with h0|h0
  ·rw[h0]at hi;omega
  ·exact h0
 have hm:i%zc.size<zc.size:=Nat.mod_lt _ hz;rw[getElem!_pos zc _ hm]
 exact h _ (by simp)
end
section
variable {P:Program}{C C':Ctx}{N N':Nat}{w w':World}{J J':Sto}
theorem N8:∀{fs:List Field},Q7 P fs=true->∃places,fs.mapM (fun f=>(P.info? f.type).map fun i=>(f.offset,i.size))=some places/\
  ∀(i:Nat) (f:Field),fs[i]? =some f->∃fi,P.info? f.type=some fi/\places[i]? =some (f.offset,fi.size)
 |[],_=>⟨[],by simp,fun i f h=>by simp at h⟩
 |f::r,h=>by
  simp only[Q7]at h
  split at h
  ·rename_i fi hfi
   obtain⟨pl,h1,h2⟩:=N8 h
   refine⟨(f.offset,fi.size)::pl,by simp[h_,hfi,h1],fun i g hg=>?_⟩
   cases i with
   |zero=>simp at hg;subst hg;exact⟨fi,hfi,rfl⟩
   |succ i=>obtain⟨gi,k1,k2⟩:=h2 i g (by simpa using hg);exact⟨gi,k1,by simpa using k2⟩
  ·cases h
theorem Sk{E tm}{a:Act}(hE:E.P=P)(hg:Iw C N w E)(ht:TR C N w tm a.tmps){fs place}
  (hp:∀(i:Nat) (f:Field),fs[i]? =some f->∃fi,P.info? f.type=some fi/\place i=some (f.offset,fi.size)):
  ∀{parts:List (Nat×Operand)} {ps:List (Nat×Nat×AV)},Js P E tm fs parts=some ps->Mi C N w place ps (parts.map fun(i,x)=>(i,a.eval x))
 |[],ps,h=>by simp only[Js,af_]at h;subst h;simp only[gs_];unfold Mi;trivial
 |(i,x)::r,ps,h=>by
  simp only[Js]at h
  split at h
  ·rename_i f l hf hl
   split at h
   ·rename_i ti hti
    cases h;obtain⟨fi,d,g1,_,_,g4,_⟩:=Ap hti;obtain⟨fi',k1,k2⟩:=hp i f hf;rw[g1]at k1;cases k1;simp only[cn_];unfold Mi
    exact⟨⟨by rw[k2,g4],Be hg ht x⟩,Sk hE hg ht hp hl⟩
   ·cases h
  ·cases h
theorem M3{E tm}{a:Act}(hg:Iw C N w E)(ht:TR C N w tm a.tmps)(size):
  ∀(parts:List (Nat×Operand)),Mi C N w (fun i=>some (i*size,size)) (Is E tm size parts) (parts.map fun(i,x)=>(i,a.eval x))
 |[]=>by simp only[Is,gs_];unfold Mi;trivial
 |(i,x)::r=>by
  simp only[Is,cn_];unfold Mi;exact⟨⟨rfl,Be hg ht x⟩,M3 hg ht size r⟩
theorem Uf{t:TypeId}{ti}(hti:Ay P t=some ti){fs}(hd:ti.desc=.struct fs){z}(hz:ti.zero=some z)(hi:Q7 P fs.toList=true)
  {ps parts place}
  (jf:∀places,fs.toList.mapM (fun f=>(P.info? f.type).map fun i=>(f.offset,i.size))=some places->place=(places.toArray[·]?))
  (hp:Mi C N w place ps parts.toList){v}(h:M2 z ps J=some (v,J')):J'=J/\Dz P C N w (Instr.build t parts) v:=by
 obtain⟨i,d,g1,g2,g3,g4,_,g6,g7⟩:=Ap hti;rw[g6]at hz;obtain⟨Z,q1,q2,q3,_,_⟩:=Fq (C:=C) (w:=w) (N:=N) hz;obtain⟨pl,h1,_⟩:=N8 hi
 have hu:=g2.trans (by rw[←g3,hd])
 unfold M2 at h
 split at h
 ·rename_i cs hcs
  cases h;obtain⟨cs',k1,k2,k3,_⟩:=N6 hp q2 q3 hcs
  refine⟨rfl,.agg cs',?_,by unfold R;exact⟨_,rfl,k2,k3⟩⟩
  rw[jf pl h1]at k1;refine run_build w t parts cs' ?_;unfold Program.built;simp only[g1,hu,q1,h1];exact k1
 ·cases h
theorem Aaq{t e:TypeId}{n ti te}(hti:Ay P t=some ti)(hd:ti.desc=.array n e)(hte:Ay P e=some te){z}(hz:ti.zero=some z)
  {ps parts}
  (hp:Mi C N w (fun i=>some (i*te.size,te.size)) ps parts.toList){v}(h:M2 z ps J=some (v,J')):J'=J/\Dz P C N w (Instr.build t parts) v:=by
 obtain⟨i,d,g1,g2,g3,g4,_,g6,g7⟩:=Ap hti;obtain⟨ei,_,e1,_,_,e4,_⟩:=Ap hte;rw[g6]at hz;obtain⟨Z,q1,q2,q3,_,_⟩:=Fq (C:=C) (w:=w) (N:=N) hz
 have hu:=g2.trans (by rw[←g3,hd])
 unfold M2 at h
 split at h
 ·rename_i cs hcs
  cases h;obtain⟨cs',k1,k2,k3,_⟩:=N6 hp q2 q3 hcs
  refine⟨rfl,.agg cs',?_,by unfold R;exact⟨_,rfl,k2,k3⟩⟩
  unfold Instr.build;simp only[Sem.run_bind,C5 g1 q1,Result.andThen_ok,Aa hu,A9 e1];rw[e4]at k1;simp only[k1,Sem.run_pure]
 ·cases h
theorem Aee{e ei Z}(h:P.info? e=some ei)(hz:ei.zero=some Z)(hsz:Z.cells.size=ei.size)(n):
  ∃zc,(∀{α:Type} (K:Array Value->Sem α),(if n*ei.size=0 then do let zero←pure #[];K zero else do let l←zeroValue e;let zero←pure l.cells;K zero).run P w=(K zc).run P w)/\
   (Array.range (n*ei.size)).map (zc[·%zc.size]!)=(Array.range (n*Z.cells.size)).map (Z.cells[·%Z.cells.size]!):=by
 by_cases h0:n*ei.size=0
 ·refine⟨#[],fun K=>by rw[if_pos h0];simp,?_⟩
  rw[hsz,h0];simp
 ·refine⟨Z.cells,fun K=>by rw[if_neg h0];simp[C5 h hz],by rw[hsz]⟩
theorem Ug(hs:Sim P C w J){t e:TypeId}{len ti te}(hti:Ay P t=some ti)(hd:ti.desc=.slice e)(hte:Ay P e=some te){z}(hz:te.zero=some z)(hzl:z.length=te.size)
  (bn:len*te.size<=16777216){byref ps parts}
  (hp:Mi C (nx J) w (fun i=>some (i*te.size,te.size)) ps parts.toList){v}(h:Id z te.size len byref ps J=some (v,J')):
  Iv P C w J (Instr.buildSlice t len parts) v J'/\(byref=false->J'=J):=by
 obtain⟨i,d,g1,g2,g3,g4,_,_,_⟩:=Ap hti;obtain⟨ei,ed,e1,e2,e3,e4,_,e6,e7⟩:=Ap hte;rw[e6]at hz;obtain⟨Z,q1,q2,q3,_,_⟩:=Fq (C:=C) (w:=w) (N:=nx J) hz
 have hu:=g2.trans (by rw[←g3,hd])
 have hZ:Z.cells.size=ei.size:=by have:=q2.length;simp at this;omega
 obtain⟨zc,r1,r2⟩:=Aee (P:=P) (w:=w) e1 q1 hZ len;unfold Id at h
 split at h
 ·rename_i cs hcs
  obtain⟨cs',k1,k2,k3,k4⟩:=N6 hp (q2.rep len) (Mj q3 len) hcs
  have bq:(Instr.buildSlice t len parts).run P w=.ok (.slice (some ⟨w.heap.size,0,none⟩) len len) { w with heap:=w.heap.push (.cells cs' e) }:=by
   unfold Instr.buildSlice;simp only[Sem.run_bind,Result.andThen_ok,Aa hu,A9 e1]
   rw[Sem.run_ite,if_neg (by rw[←e4];omega)]
   rw[r1];simp only[r2];rw[e4]at k1;simp only[k1]
   simp[newRow]
  have p:=K3 w (.cells cs' e (0,0))
  have iz:cs'.size=len*te.size:=by rw[k4];simp[hZ,e4]
  cases byref with
  |true=>
   simp only[af_,ba_]at h;obtain⟨rfl,rfl⟩:=h
   obtain⟨s1,s2⟩:=P2 hs p k2 k3 (fun i v hi=>by rwa[bw_]at hi)
   refine⟨⟨_,_,_,_,bq,rfl,s1,by rw[Ao];exact s2,?_⟩,fun hh=>by cases hh⟩
   rw[Ao]
   refine R.newSlice (bl_ _) (ec_ ..) nl (fun q hq=>by cases hq;rfl) ?_
   rw[Fl p.here,iz];omega
  |false=>
   simp only[af_,ba_]at h;obtain⟨rfl,rfl⟩:=h;obtain⟨s1,s2⟩:=hs.push p;refine⟨⟨_,_,_,_,bq,rfl,s1,s2,?_⟩,fun _=>rfl⟩
   have hl:=k2.length;unfold R
   refine⟨some ⟨w.heap.size,0,none⟩,len,rfl,nl,fun q hq=>by cases hq;rfl,by simp at hl;omega,fun hh=>(by cases hh),fun ad ha=>?_⟩
   cases ha;refine⟨fun _=>rfl,fun _ ho=>?_,?_⟩
   ·have:=hs.own_lt ho;simp at this
   ·exact fb_ p.here (k2.ext s2) k3 fun i v hi=>by simpa using hi
 ·cases h
end
section
variable {P:Program}{C C':Ctx}{N N':Nat}{w w':World}{J J':Sto}
theorem Sto.cells_get{a vs}(h:J.cells a=some vs):J.get a=some (.cells vs):=by
 unfold Sto.cells at h
 split at h
 ·rename_i vs' hg;cases h;exact hg
 ·cases h
abbrev eu_:=@Sto.cells_get
theorem S1(hs:Sim P C w J){a off vs vs' l xs}(hg:J.get a=some (.cells vs))(cd:Et vs off l=some vs')(hl:RL C (nx J) w l xs)(h1:∀x∈xs,x.oneCell=true):
  ∃c o w',C.loc a=some (c,o)/\(storeCells ⟨c,o+off,none⟩ xs).run P w=.ok () w'/\Sim P C w' (J.set a (.cells vs'))/\Ext C (nx J) w C (nx J) w':=by
 obtain⟨c,o,cs,T,k1,k2,k3⟩:=hs.obj a _ hg;obtain⟨s1,s2,s3⟩:=N5 cd;have bl:=hl.length
 have e9:xs≠[]->o+off+xs.length<=cs.size:=fun hne=>by
  have hv:vs≠[]:=fun h0=>by
   apply hne
   have:l.length=0:=by rw[h0]at s2;simp only[cu_]at s2;omega
   exact ce_ Om
  have:=k3.room hv;rw[Fl k2]at this;omega
 have hw:∃w',(storeCells ⟨c,o+off,none⟩ xs).run P w=.ok () w'/\Wr w w' c (.cells (Wg cs (o+off) xs) T (0,0)):=by
  by_cases hx:xs=[]
  ·subst hx;exact⟨w,by simp[storeCells],rfl,k2,fun _ _=>rfl,rfl,rfl⟩
  ·exact Lq xs w c (o+off) 0 cs T k2 h1 (e9 hx)
 obtain⟨w',r1,r2⟩:=hw;refine⟨c,o,w',k1,r1,?_⟩
 refine hs.upd k1 r2 (by rw[Fl r2.here,Fl k2,Nf]) hg (.cells vs') rfl (fun _ _ _ h=>by cases h) fun e=>?_
 refine⟨c,o,_,T,k1,r2.here,?_⟩;rw[Aq];refine gv_ fun i x hi=>?_
 rw[s3 i]at hi;rw[Jh r2.here]
 by_cases hx:xs=[]
 ·subst hx
  simp at bl
  rw[if_neg (by simp[bl])]at hi
  obtain⟨v,q1,q2,q3⟩:=k3.get i x hi;rw[Jh k2]at q1;exact⟨v,q1,q2,R.ext e _ _ q3⟩
 ·have hr:=e9 hx;rw[Pw xs cs (o+off) hr]
  by_cases hc:off<=i/\i<off+l.length
  ·rw[if_pos hc]at hi;rw[if_pos Om];obtain⟨v,q1,q2⟩:=hl.get _ x hi
   exact⟨v,by rw[←q1];congr 1;omega,h1 v (ab_ q1),R.ext e _ _ q2⟩
  ·rw[if_neg hc]at hi;rw[if_neg Om];obtain⟨v,q1,q2,q3⟩:=k3.get i x hi;rw[Jh k2]at q1;exact⟨v,q1,q2,R.ext e _ _ q3⟩
theorem Agd(hs:Sim P C w J){t:TypeId}{ti}(hti:Ay P t=some ti){x v X V}(hx:R C (nx J) w x X)(hv:R C (nx J) w v V){u}(h:Wc ti.size x v J=some (u,J')):
  u=An/\∃w',(Instr.storeAt t X V).run P w=.ok () w'/\Sim P C w' J'/\Ext C (nx J) w C (nx J') w':=by
 obtain⟨i,d,g1,g2,g3,g4,_⟩:=Ap hti;unfold Wc at h
 split at h
 ·rename_i a off l hl
  split at h
  ·rename_i vs hvs
   split at h
   ·rename_i vs' cd
    cases h;obtain⟨q1,q2,q3,q4⟩:=Hc hl hv;obtain⟨c,o,w',r1,r2,r3,r4⟩:=S1 hs (eu_ hvs) cd q1 q4
    refine⟨rfl,w',?_,r3,by rw[Aq];exact r4⟩
    unfold R at hx;obtain⟨ad,rfl,_,hl⟩:=hx;rw[hl c o r1];unfold Instr.storeAt storeVar;simp only[Instr.sureAddr,Sem.run_bind,Sem.run_pure,Result.andThen_ok,A9 g1,Sem.run_ite]
    rw[if_neg (by rw[q2,g4];simp)]
    first|exact r2|(simp only[Sem.run_bind,Sem.run_pure,Result.andThen_ok];exact r2)
   ·cases h
  ·cases h
 ·cases h
theorem Hd(z n):Builtin.zeroCells z n=(Array.range (n*z.size)).map (z[·%z.size]!):=rfl
theorem Age(hs:Sim P C w J){t e ty:TypeId}{ti te}(hti:Ay P t=some ti)(hd:ti.desc=.slice e)(hte:Ay P e=some te){z}(hz:te.zero=some z)(hzl:z.length=te.size)
  {x X}(hx:R C (nx J) w x X){u}(h:Af6 z te.size x J=some (u,J')):
  u=An/\∃w',(Builtin.clear_ #[t] ty #[X]).run P w=.ok (.tuple #[]) w'/\Sim P C w' J'/\Ext C (nx J) w C (nx J') w':=by
 obtain⟨i,d,g1,g2,g3,g4,_,_,_⟩:=Ap hti;obtain⟨ei,ed,e1,e2,e3,e4,_,e6,e7⟩:=Ap hte;rw[e6]at hz;obtain⟨Z,q1,q2,q3,_,_⟩:=Fq (C:=C) (w:=w) (N:=nx J) hz
 have hu:=g2.trans (by rw[←g3,hd])
 have hZ:z.length=Z.cells.size:=by have:=q2.length;simpa using this
 unfold Af6 at h
 split at h
 ·rename_i a off sz len cap
  split at h
  ·rename_i vs hsz hvs
   split at h
   ·rename_i vs' cd
    cases h;refine⟨rfl,?_⟩;obtain⟨c,o,w',r1,r2,r3,r4⟩:=S1 (P:=P) hs (eu_ hvs) cd (q2.rep len) (Mj q3 len)
    refine⟨w',?_,r3,by rw[Aq];exact r4⟩
    unfold R at hx;obtain⟨ad,k,rfl,_,hk,_,hl⟩:=hx;unfold Builtin.clear_;cases len with
    |zero=>
     have:w'=w:=by
      have:((Array.range (0*Z.cells.size)).map (Z.cells[·%Z.cells.size]!)).toList=[]:=by simp
      rw[this]at r2;simp[storeCells]at r2;exact r2.symm
     subst this
     simp[Aa hu]
    |succ n=>
     rw[(hl c o r1).1 Om];simp only[c_,Array.toList_range]at r2
     simp[Aa hu,C5 e1 q1,Hd,r2]
   ·cases h
  ·cases h
 ·cases h;unfold R at hx;obtain⟨rfl,_⟩:=hx;refine⟨rfl,w,?_,hs,cf_ _ _ _⟩;unfold Builtin.clear_;simp[Aa hu]
 ·cases h;unfold R at hx;obtain⟨ad,k,rfl,_⟩:=hx;refine⟨rfl,w,?_,hs,cf_ _ _ _⟩;cases ad<;>(unfold Builtin.clear_;simp[Aa hu])
 ·cases h
theorem Rf{c b}(h:c*(b+1)<=sizeLim):c<=sizeLim/\c*b<=sizeLim:=by
 have h1:c*1<=c*(b+1):=Nat.mul_le_mul_left _ Om;have h2:c*b<=c*(b+1):=Nat.mul_le_mul_left _ Om
 constructor<;>omega
theorem N9{n}(h:n<=sizeLim):IntKind.i64.wrap (Int.ofNat n)=Int.ofNat n:=
 Pz .i64 _ (by simp only[M0];rw[hb_];unfold sizeLim at h;omega)
theorem Wm(hs:Sim P C w J){t e:TypeId}{ti te}(hti:Ay P t=some ti)(hd:ti.desc=.slice e)(hte:Ay P e=some te){z}(hz:te.zero=some z)(hzl:z.length=te.size)
  {l c L K}(hl:R C (nx J) w l L)(hc:R C (nx J) w c K){v}(h:Nz z te.size te.bytes l c J=some (v,J')):Iv P C w J (Instr.makeSlice t L K) v J':=by
 obtain⟨i,d,g1,g2,g3,g4,_,_,_⟩:=Ap hti;obtain⟨ei,ed,e1,e2,e3,e4,e5,e6,e7⟩:=Ap hte;rw[e6]at hz;obtain⟨Z,q1,q2,q3,_,_⟩:=Fq (C:=C) (w:=w) (N:=nx J) hz
 have hu:=g2.trans (by rw[←g3,hd])
 have hZ:Z.cells.size=ei.size:=by have:=q2.length;simp at this;omega
 unfold Nz at h
 split at h
 ·rename_i n m
  cases hb:(Nat.ble n m&&Nat.ble (m*(te.bytes+1)) sizeLim)
  ·simp[hb]at h
  ·simp only[hb,cond_true,af_,ba_]at h;obtain⟨rfl,rfl⟩:=h;simp only[ad_,hb_]at hb;obtain⟨hb1,hb2⟩:=hb;obtain⟨hb3,hb4⟩:=Rf hb2;unfold R at hl hc;subst hl hc;obtain⟨zc,r1,r2⟩:=Aee (P:=P) (w:=w) e1 q1 hZ m;have p:=K3 w (.cells ((Array.range (m*Z.cells.size)).map (Z.cells[·%Z.cells.size]!)) e (0,0))
   obtain⟨s1,s2⟩:=P2 hs p (q2.rep m) (Mj q3 m) (fun i v hi=>by rwa[bw_]at hi)
   refine⟨.slice (some ⟨w.heap.size,0,none⟩) n m,_,_,_,?_,rfl,s1,by rw[Ao];exact s2,?_⟩
   ·unfold Instr.makeSlice;simp only[Sem.run_bind,Result.andThen_ok,Aa hu,asInt,asIntOf,Sem.run_pure,Cq e1,N9 hb3,N9 (ai_ hb1 hb3)]
    have hm:¬((ei.bytes:Int)*(m:Int)>2 ^ 48):=by
     rw[e5]at hb4
     have h1:ei.bytes*m<=sizeLim:=by rw[Nat.mul_comm];exact hb4
     have h2:=bm_.2 h1;rw[gw_]at h2
     have h3:((sizeLim:Nat):Int)<2 ^ 48:=by decide
     generalize (ei.bytes:Int)*(m:Int)=q at *
     generalize (2:Int) ^ 48=r at *
     omega
    rw[Sem.run_ite,if_neg]
    ·simp only[Sem.run_bind,run_askRoom,Result.andThen_ok,A9 e1,ei_,bu_,r1];rw[r2]
     simp[newRow]
    ·simp only[bu_,bk_,decide_eq_true_eq,not_or]
     refine⟨⟨⟨by omega,hm⟩,by omega⟩,by omega⟩
   ·rw[Ao]
    refine R.newSlice (bl_ _) (ec_ ..) hb1 (fun q hq=>by cases hq;rfl) ?_
    rw[Fl p.here]
    simp[hZ,e4]
 ·cases h
end
section
variable {P:Program}{C C':Ctx}{N N':Nat}{w w':World}{J J':Sto}
theorem RL.take:∀(n:Nat) {l:List AV} {vs:List Value},RL C N w l vs->RL C N w (l.take n) (vs.take n)
 |0,_,_,_=>by simp only[List.take_zero];unfold RL;trivial
 |n+1,[],[],_=>by simp only[List.take_nil];unfold RL;trivial
 |n+1,x::r,v::s,h=>by
  unfold RL at h;simp only[List.take_succ_cons];unfold RL;exact⟨h.1,RL.take n h.2⟩
 |_+1,[],_::_,h=>by unfold RL at h;exact h.elim
 |_+1,_::_,[],h=>by unfold RL at h;exact h.elim
theorem Akv{t:TypeId}{tf}(htf:Ay P t=some tf){cs a}(q1:RL C N w cs a.toList)(q2:∀x∈a.toList,x.oneCell=true){off v}(h:Ff tf (cs.drop off)=some v):
  Dz P C N w (part t a off) v:=by
 obtain⟨fi,fd,g1,g2,g3,g4,_,_,g5⟩:=Ap htf;unfold Ff at h;unfold part Dz;simp only[Sem.run_bind,Fp g2,Result.andThen_ok];rw[←g5];have hd:=q1.drop off;cases ha:tf.isAgg
 ·simp only[ha]at h;simp only[bp_,if_false]
  split at h
  ·rename_i u r he
   cases h
   have:(cs.drop off)[0]? =some v:=by rw[he];rfl
   obtain⟨x,k1,k2⟩:=hd.get 0 v this
   have:a[off]? =some x:=by simpa using k1
   exact⟨x,by simp[this],k2⟩
  ·cases h
 ·simp only[ha]at h
  split at h
  ·rename_i l hl
   cases h
   refine⟨.agg (a.extract off (off+fi.size)),by simp[A9 g1],?_⟩
   obtain⟨t1,t2⟩:=Hu hl;unfold R;refine⟨_,rfl,?_,?_⟩
   ·have e:(a.extract off (off+fi.size)).toList=(a.toList.drop off).take tf.size:=by
     rw[g4];simp[gd_]
    rw[e,t1];exact hd.take _
   ·intro y hy;refine q2 y ?_
    simp at hy
    have hm:y∈(a.toList.drop off).take fi.size:=by simpa[gd_]using hy
    exact fl_ (cm_ hm)
  ·cases h
theorem Yo{t e:TypeId}{len ti te}(hti:Ay P t=some ti)(hd:ti.desc=.array len e)(hte:Ay P e=some te){x i X I}(hx:R C N w x X)(hi:R C N w i I){v}
  (h:Le te len x i J=some (v,J')):J'=J/\Dz P C N w (Instr.index t X I) v:=by
 obtain⟨_,d,_,h2,h3,_⟩:=Ap hti;obtain⟨ei,_,g1,_,_,g4,_⟩:=Ap hte
 have hu:=h2.trans (by rw[←h3,hd])
 unfold Le at h
 split at h
 ·rename_i cs k n
  cases hb:Nat.blt n len
  ·simp[hb]at h
  ·simp only[hb,cond_true]at h
   split at h
   ·rename_i u hu'
    cases h;have hlt:n<len:=al_ hb;unfold R at hx hi;subst hi;obtain⟨a,rfl,q1,q2⟩:=hx;obtain⟨z,k1,k2⟩:=Akv (P:=P) hte q1 q2 hu';refine⟨rfl,z,?_,k2⟩;unfold Instr.index;simp only[asIntOf,Sem.run_bind,Sem.run_pure,Result.andThen_ok,Aa hu]
    rw[if_pos ⟨by simp,by simpa using hlt⟩]
    rw[g4]at k1
    simp[A9 g1,k1]
   ·cases h
 ·cases h
theorem Xp:∀(l:List Nat) (i:Nat),(Iq l)[i]? =(l[i]?).map fun b=>.int .u8 (.ofNat b)
 |[],i=>by simp[Iq]
 |b::r,0=>by simp[Iq]
 |b::r,i+1=>by simp[Iq,Xp r i]
theorem P3(l):(Iq l).length=l.length:=by induction l with|nil=>rfl|cons b r ih=>simp[Iq,ih]
theorem RL.bytes(s):RL C N w (Iq (B2 s)) ((s.data.map fun b=>Value.int .u8 b.toNat).toList):=by
 refine gu_ (by rw[P3];simp[B2]) fun i x hi=>?_
 rw[Xp]at hi;unfold B2 at hi;simp only[br_,Option.map_map,cy_]at hi;obtain⟨b,h1,h2⟩:=hi
 refine⟨.int .u8 b.toNat,by simp only[c_,br_,h1];rfl,?_⟩
 rw[←h2];unfold R;rfl
theorem Sm(s:ByteArray):∀x∈(s.data.map fun b=>Value.int .u8 b.toNat).toList,x.oneCell=true:=by
 intro x hx;simp only[c_,bt_]at hx;obtain⟨b,_,rfl⟩:=hx;rfl
theorem Lw:∀(cs:List AV) (c o i:Nat) (acc:Array Value),RC C N w c cs (o+i)->
  ∃l,(∀k,(loadCellsFrom ⟨c,o,none⟩ i cs.length acc).run P { w with drawn:=k }=.ok (acc++l.toArray) { w with drawn:=k })/\RL C N w cs l/\∀x∈l,x.oneCell=true
 |[],c,o,i,acc,_=>⟨[],by simp[loadCellsFrom],by unfold RL;trivial,by simp⟩
 |x::r,c,o,i,acc,h=>by
  unfold RC at h;obtain⟨⟨v,h1,h2,h3⟩,h4⟩:=h;obtain⟨l,k1,k2,k3⟩:=Lw r c o (i+1) (acc.push v) h4
  refine⟨v::l,fun k=>?_,by unfold RL;exact⟨h3,k2⟩,by simpa[h2]using k3⟩
  have h1':World.cell? { w with drawn:=k } ⟨c,o+i,none⟩=some v:=h1;simp only[as_,loadCellsFrom,Sem.run_bind,run_load,Hb,h1',Result.andThen_ok,k1]
  simp
theorem P4{cs c o}(h:RC C N w c cs o):
  ∃a,(∀k,(loadCells ⟨c,o,none⟩ cs.length).run P { w with drawn:=k }=.ok a { w with drawn:=k })/\RL C N w cs a.toList/\∀x∈a.toList,x.oneCell=true:=by
 obtain⟨l,h1,h2,h3⟩:=Lw (P:=P) cs c o 0 #[] h
 exact⟨l.toArray,by simpa[loadCells]using h1,by simpa using h2,by simpa using h3⟩
theorem Ji(hs:Sim P C w J){x X}(hx:R C (nx J) w x X){sz n m}(hl:lenA x=some m)(hn:n<=m){cs}(h:F9 J sz x n=some cs):
  (∀w',(Builtin.lenOf X).run P w'=.ok m w')/\∃a,(∀k,(Builtin.firstCells sz n X).run P { w with drawn:=k }=.ok a { w with drawn:=k })/\RL C (nx J) w cs a.toList/\(∀y∈a.toList,y.oneCell=true)/\cs.length=n*sz:=by
 unfold F9 at h
 split at h
 ·rename_i b off sz' len cap
  simp only[lenA,af_]at hl;subst hl
  split at h
  ·rename_i vs hvs
   unfold R at hx;obtain⟨ad,k,rfl,_,hk,_,bk⟩:=hx;refine⟨fun _=>rfl,?_⟩
   have bl:=(Hu h).2
   rcases de_ n with h0|h0
   ·subst h0;rw[dw_]at h bl⊢
    simp[Dr]at h;subst h
    refine⟨#[],fun _=>by unfold Builtin.firstCells;rw[dw_];rfl,by unfold RL;trivial,by simp,rfl⟩
   ·obtain⟨c,o,cs',T,k1,k2,k3⟩:=hs.obj b _ (eu_ hvs);have e:=(bk c o k1).1 Om;obtain⟨a,r1,r2,r3⟩:=P4 (P:=P) ((k3.drop off).take _ h);refine⟨a,?_,r2,r3,bl⟩;unfold Builtin.firstCells;rw[e,←bl];exact r1
  ·cases h
 ·rename_i cs' sz' len cap
  simp only[lenA,af_]at hl;subst hl;unfold R at hx;obtain⟨ado,k,rfl,hk,_,hcl,kx,bs⟩:=hx;refine⟨fun _=>rfl,?_⟩
  have bl:=(Hu h).2
  rcases de_ n with h0|h0
  ·subst h0;rw[dw_]at h bl⊢
   simp[Dr]at h;subst h
   refine⟨#[],fun _=>by cases ado<;>(unfold Builtin.firstCells;rw[dw_];rfl),by unfold RL;trivial,by simp,rfl⟩
  ·obtain _|ad:=ado
   ·have:=kx rfl;omega
   obtain⟨hsp,bf,hrc⟩:=bs ad rfl;have e:=hsp Om;obtain⟨b,o,sp⟩:=ad;simp only at e;subst e;obtain⟨a,r1,r2,r3⟩:=P4 (P:=P) (hrc.take _ h);refine⟨a,?_,r2,r3,bl⟩;unfold Builtin.firstCells;rw[←bl];exact r1
 ·simp only[lenA,af_]at hl;subst hl
  split at h
  ·cases h;unfold R at hx;obtain⟨rfl,_⟩:=hx
   exact⟨fun _=>rfl,#[],fun _=>rfl,by unfold RL;trivial,by simp,by simp⟩
  ·cases h
 ·rename_i l
  simp only[lenA,af_]at hl;subst hl;unfold R at hx;obtain⟨s,rfl,rfl⟩:=hx
  split at h
  ·refine⟨fun _=>by unfold Builtin.lenOf;rw[Fg];rfl,?_⟩
   obtain⟨t1,t2⟩:=Hu h
   have e:((s.extract 0 n).data.map fun b=>Value.int .u8 b.toNat).toList=((s.data.map fun b=>Value.int .u8 b.toNat).toList).take n:=by
    simp[ByteArray.data_extract,List.map_take]
   refine⟨_,fun _=>rfl,by rw[e,t1];exact(RL.bytes s).take n,Sm _,by omega⟩
  ·cases h
 ·cases h
end
section
variable {P:Program}{C C':Ctx}{N N':Nat}{w w':World}{J J':Sto}
theorem Aar{s d ts k}(hs:P.underlying s=some ts)(hd:P.underlying d=some (.int k)){x X}(hx:R C N w x X){v}(h:Pp k x J=some (v,J')):
  J'=J/\Dz P C N w (convert s d X) v:=by
 unfold Pp at h
 split at h
 ·cases h;unfold R at hx;subst hx
  refine⟨rfl,_,?_,by rw[Nh];unfold R;rfl⟩
  unfold convert;simp only[Sem.run_bind,Aa hs,Aa hd,Result.andThen_ok,Conv.intToInt,Sem.run_pure]
 ·cases h
theorem Aas{s d ts k}(hs:P.underlying s=some ts)(hd:P.underlying d=some (.float k)){x X}(hx:R C N w x X){v}(h:Aac k x J=some (v,J')):
  J'=J/\Dz P C N w (convert s d X) v:=by
 unfold Aac at h;cases h
theorem Aat{s d ts}(hs:P.underlying s=some ts)(hd:P.underlying d=some .string){x X}(hx:R C N w x X){v}(h:T4 x J=some (v,J')):
  J'=J/\Dz P C N w (convert s d X) v:=by
 unfold T4 at h
 split at h
 ·cases h;refine⟨rfl,X,?_,hx⟩;unfold R at hx;obtain⟨b,rfl,_⟩:=hx;unfold convert;simp only[Sem.run_bind,Aa hs,Aa hd,Result.andThen_ok,Sem.run_pure]
 ·cases h
theorem S2(hs:Sim P C w J){s d e}(hsu:P.underlying s=some (.slice e))(hd:P.underlying d=some .string)(he:P.underlying e=some (.int .u8)){x X}(hx:R C (nx J) w x X){v}
  (h:Ny x J=some (v,J')):J'=J/\Dz P C (nx J) w (convert s d X) v:=by
 unfold Ny at h;cases h
theorem P5(w need old e):need<=grownCap w need old e:=by
 unfold grownCap Question.cut;simp
theorem S3(hs:Sim P C w J){s d e}(hsu:P.underlying s=some .string)(hd:P.underlying d=some (.slice e))(he:P.underlying e=some (.int .u8)){x X}(hx:R C (nx J) w x X){v}
  (h:Kx x J=some (v,J')):J'=J/\Iv P C w J (convert s d X) v J':=by
 unfold Kx at h
 split at h
 ·rename_i l
  unfold R at hx;obtain⟨b,rfl,hb⟩:=hx
  have key:v=.sv (Iq l) 1 l.length none/\J'=J:=by
   split at h
   ·cases h;exact⟨rfl,rfl⟩
   ·cases h;exact⟨rfl,rfl⟩
  obtain⟨rfl,rfl⟩:=key;refine⟨rfl,?_⟩
  have hsz:l.length=b.size:=by rw[←hb,Fg]
  let cs:Array Value:=(b.data.map fun b=>Value.int .u8 b.toNat)++Array.replicate (grownCap w b.size 0 e-b.size) (.int .u8 0)
  let w':World:=({ w with heap:=w.heap.push (.cells cs e (0,0)),drawn:=w.drawn+1 }:World).freeze ⟨w.heap.size,cs.size,none⟩ 1
  have bq:(convert s d (.string b)).run P w=.ok (.slice (some ⟨w.heap.size,0,none⟩) b.size (grownCap w b.size 0 e)) w':=by
   unfold convert;simp only[Sem.run_bind,Aa hsu,Aa hd,Result.andThen_ok,Aa he];unfold Conv.stringToBytes
   simp[-World.alloc_eq,-World.drew_eq,Question.forced,newRow,markStringish,World.shape?,grownCap,w',cs]
  have hp:∃fz,Pu w w' (.cells cs e fz):=by
   refine⟨(cs.size,cs.size+1),by simp[w',World.freeze],?_,fun x hx=>?_,by simp[w',World.freeze]⟩
   ·simp[w',World.freeze,Array.getElem_modify]
   ·simp only[w',World.freeze]
    rw[if_neg (by decide)]
    simp only[dq_];rw[if_neg Om];rw[Array.getElem?_push_lt hx];exact(em_ hx).symm
  obtain⟨fz,p⟩:=hp;obtain⟨s1,s2⟩:=hs.push p;refine⟨_,_,w',C,bq,rfl,s1,s2,?_⟩;unfold R
  refine⟨_,_,by rw[hsz],by rw[hsz];exact P5 _ _ _ _,fun q hq=>(by cases hq),by rw[P3,fr_],fun hh=>(by cases hh),fun ad ha=>?_⟩
  cases ha;refine⟨fun _=>rfl,fun _ ho=>?_,?_⟩
  ·have:=hs.own_lt ho;simp at this
  ·refine fb_ p.here (vs:=(b.data.map fun b=>Value.int .u8 b.toNat).toList) (by rw[←hb];exact RL.bytes b) (Sm b) fun i v hi=>?_
   have hlt:=(ae_.1 hi).1;rw[bn_]
   rw[ek_ (by simpa using hlt)]
   rwa[bw_]at hi
 ·cases h
end
section
variable {P:Program}{C C':Ctx}{N N':Nat}{w w':World}{J J':Sto}
def Amb(P:Program)(w:World)(e:TypeId)(ei:TypeInfo)(Z:Value)(t2:TypeId)(x:Value)(n:Nat)(new:Array Value):Prop:=
 (∃d2,P.underlying t2=some d2/\(∀k,d2≠.int k)/\(∀k,(Builtin.lenOf x).run P { w with drawn:=k }=.ok n { w with drawn:=k })/\∀k,(Builtin.firstCells ei.size n x).run P { w with drawn:=k }=.ok new { w with drawn:=k })∨
 (∃k,P.underlying t2=some (.int k)/\x=.int .i64 (.ofNat n)/\n*(ei.bytes+1)<=sizeLim/\new=Builtin.zeroCells Z.cells n)
theorem Xq{d:TypeDesc}(h:∀k,d≠.int k):(match d with|.int _=>true|_=>false)=false:=by
 cases d<;>first|rfl|exact absurd rfl (h _)
theorem Lx{t t2 ty e ei Z}(ht:P.underlying t=some (.slice e))(he:P.info? e=some ei)(hz:ei.zero=some Z)(hZ:Z.cells.size=ei.size){base sLen Kj n x new}
  (hg:Amb P w e ei Z t2 x n new)(cj:sLen+n<=Kj){w'}
  (hst:∀a,base=some a->(storeCells (a.add (sLen*ei.size)) new.toList).run P w=.ok () w')(hno:base=none->w'=w):
  (Builtin.append_ #[t,t2] ty #[.slice base sLen Kj,x]).run P w=.ok (.slice base (sLen+n) Kj) w':=by
 rcases hg with⟨d2,h1,h2,h3,h4⟩|⟨k,h1,rfl,h3,rfl⟩
 ·have hl:=h3 w.drawn;have hf:=h4 w.drawn;have hm:=Xq h2;cases base with
  |none=>
   rw[hno rfl]
   simp[Builtin.append_,Aa ht,Aa h1,hm,A9 he,hl,cj,hf]
  |some a=>
   have:=hst a rfl
   simp[Builtin.append_,Aa ht,Aa h1,hm,A9 he,hl,cj,hf,this]
 ·obtain⟨h5,h6⟩:=Rf h3;have hw:=N9 h5
  have hb:¬(281474976710656<(n:Int)*(ei.bytes:Int)):=by
   have h2:=bm_.2 h6;rw[gw_]at h2
   have h7:((sizeLim:Nat):Int)<=281474976710656:=by decide
   generalize (n:Int)*(ei.bytes:Int)=q at *
   omega
  have hn0:¬((n:Int)<0):=by omega
  simp only[bu_]at hw
  by_cases h0:n*ei.size=0
  ·have hz0:Builtin.zeroCells Z.cells n=#[]:=by rw[Hd,hZ,h0];simp
   rw[hz0]at hst;cases base with
   |none=>
    rw[hno rfl]
    simp[Builtin.append_,Aa ht,Aa h1,A9 he,Cq he,asInt,asIntOf,hw,hn0,hb,cj,h0]
   |some a=>
    have:=hst a rfl
    simp[Builtin.append_,Aa ht,Aa h1,A9 he,Cq he,asInt,asIntOf,hw,hn0,hb,cj,h0,this]
  ·cases base with
   |none=>
    rw[hno rfl]
    simp[Builtin.append_,Aa ht,Aa h1,A9 he,Cq he,asInt,asIntOf,hw,hn0,hb,cj,h0,C5 he hz]
   |some a=>
    have:=hst a rfl
    simp[Builtin.append_,Aa ht,Aa h1,A9 he,Cq he,asInt,asIntOf,hw,hn0,hb,cj,h0,C5 he hz,this]
theorem Yp{t t2 ty e ei Z}(ht:P.underlying t=some (.slice e))(he:P.info? e=some ei)(hz:ei.zero=some Z)(hZ:Z.cells.size=ei.size){base sLen Kj n x old new}
  (hg:Amb P w e ei Z t2 x n new)(fc:Kj<sLen+n)(bn:(sLen+n)*(ei.bytes+1)<=sizeLim)
  (hold:∀k,(Builtin.firstCells ei.size sLen (.slice base sLen Kj)).run P { w with drawn:=k }=.ok old { w with drawn:=k }):
  ∃rest,(Builtin.append_ #[t,t2] ty #[.slice base sLen Kj,x]).run P w=.ok (.slice (some ⟨w.heap.size,0,none⟩) (sLen+n) (grownCap w (sLen+n) Kj e))
   { w with heap:=w.heap.push (.cells (old++new++rest) e),drawn:=w.drawn+1 }/\rest.size=(grownCap w (sLen+n) Kj e-(sLen+n))*ei.size:=by
 refine⟨Builtin.zeroCells Z.cells (grownCap w (sLen+n) Kj e-(sLen+n)),?_,by rw[Hd,hZ];simp⟩
 obtain⟨l1,l2⟩:=Rf bn
 have hn:¬(sLen+n<=Kj):=by omega
 have h63':¬(9223372036854775807<((sLen:Int)+(n:Int))):=by unfold sizeLim at l1;omega
 have cj:Builtin.nextslicecap (sLen+n) Kj*ei.bytes<=281474976710656:=growslice_fits fc (by unfold sizeLim at l2;omega)
 have h48':¬(281474976710656<Builtin.nextslicecap (sLen+n) Kj*ei.bytes):=by omega
 have ho:∀k,(Builtin.firstCells ei.size sLen (.slice base sLen Kj)).run P { w with drawn:=k }=.ok old { w with drawn:=k }:=hold
 rcases hg with⟨d2,h1,h2,h3,h4⟩|⟨k,h1,rfl,h3,rfl⟩
 ·have hl:=h3 w.drawn;have hf:=h4 (w.drawn+1);have ho':=ho (w.drawn+1);have hm:=Xq h2
  simp[-World.drew_eq,Builtin.append_,Aa ht,Aa h1,hm,A9 he,Cq he,hl,hn,h63',h48',Question.forced,hf,ho',newRow,grownCap,C5 he hz]
  rfl
 ·obtain⟨h5,h6⟩:=Rf h3;have hw:=N9 h5
  have hb:¬(281474976710656<(n:Int)*(ei.bytes:Int)):=by
   have h2:=bm_.2 h6;rw[gw_]at h2
   have h7:((sizeLim:Nat):Int)<=281474976710656:=by decide
   generalize (n:Int)*(ei.bytes:Int)=q at *
   omega
  have hn0:¬((n:Int)<0):=by omega
  have ho':=ho (w.drawn+1);simp only[bu_]at hw
  by_cases h0:n*ei.size=0
  ·have hz0:Builtin.zeroCells Z.cells n=#[]:=by rw[Hd,hZ,h0];simp
   rw[hz0]
   simp[-World.drew_eq,Builtin.append_,Aa ht,Aa h1,A9 he,Cq he,asInt,asIntOf,hw,hn0,hb,hn,h63',h48',Question.forced,ho',newRow,grownCap,C5 he hz,h0]
   rfl
  ·simp[-World.drew_eq,Builtin.append_,Aa ht,Aa h1,A9 he,Cq he,asInt,asIntOf,hw,hn0,hb,hn,h63',h48',Question.forced,ho',newRow,grownCap,C5 he hz,h0]
   rfl
end
section
variable {P:Program}{C C':Ctx}{N N':Nat}{w w':World}{J J':Sto}
theorem Oa(hs:Sim P C w J){t t2 ty e ei Z sz bytes}(ht:P.underlying t=some (.slice e))(he:P.info? e=some ei)(hsz:sz=ei.size)(hby:bytes=ei.bytes)(hz:ei.zero=some Z)(hZ:Z.cells.size=ei.size)
  {base sLen Kj n y old new oldA newA}(hg:Amb P w e ei Z t2 y n new)
  (hold:∀k,(Builtin.firstCells ei.size sLen (.slice base sLen Kj)).run P { w with drawn:=k }=.ok old { w with drawn:=k })
  (ho:RL C (nx J) w oldA old.toList)(ho1:∀x∈old.toList,x.oneCell=true)(hol:oldA.length=sLen*sz)
  (hn:RL C (nx J) w newA new.toList)(hn1:∀x∈new.toList,x.oneCell=true)(hnl:newA.length=n*sz)
  (fc:Kj<sLen+n){v}(h:Ja sz bytes n newA oldA sLen J=some (v,J')):
  Iv P C w J (Builtin.append_ #[t,t2] ty #[.slice base sLen Kj,y]) v J':=by
 unfold Ja at h;cases hb:Nat.ble ((sLen+n)*(bytes+1)) sizeLim
 ·grind
 ·simp only[hb,cond_true,Ak,af_,ba_]at h;obtain⟨rfl,rfl⟩:=h
  have bn:(sLen+n)*(ei.bytes+1)<=sizeLim:=by rw[←hby];exact al_ hb
  obtain⟨rest,r1,r2⟩:=Yp (ty:=ty) ht he hz hZ hg fc bn hold;have p:=At1 w (.cells (old++new++rest) e (0,0));obtain⟨s1,s2⟩:=P2 hs p (ho.append hn) (fun x hx=>(bb_.1 hx).elim (ho1 x) (hn1 x)) gr
  refine⟨_,_,_,_,r1,rfl,s1,gr,?_⟩;rw[Ao];refine R.newSlice (bl_ _) (ec_ ..) (P5 _ _ _ _) gr ?_;rw[Fl p.here];have h1:=ho.length;have h2:=hn.length;have h3:=P5 w (sLen+n) Kj e;simp only[cd_]at h1 h2;simp only[Array.size_append,r2];rw[←h1,←h2,hol,hnl,←hsz,bn_,←ha_,←ha_]
  grind
theorem RL.nil_iff{vs}:RL C N w [] vs->vs=[]:=by
 cases vs with
 |nil=>intro;rfl
 |cons v r=>intro h;unfold RL at h;exact h.elim
abbrev gi_:=@RL.nil_iff
theorem Ado{vs old:List AV}{a b}(h:Dr b (vs.drop a)=some old):∀(i:Nat) (x:AV),old[i]? =some x->vs[a+i]? =some x:=by
 intro i x hi;rw[(Hu h).1,ea_]at hi
 grind
theorem Sn(hs:Sim P C w J){t t2 ty e ei Z sz bytes}(ht:P.underlying t=some (.slice e))(he:P.info? e=some ei)(hsz:sz=ei.size)(hby:bytes=ei.bytes)(hz:ei.zero=some Z)(hZ:Z.cells.size=ei.size)
  {d D y n new newA}(hd:R C (nx J) w d D)(hg:Amb P w e ei Z t2 y n new)
  (hn:RL C (nx J) w newA new.toList)(hn1:∀x∈new.toList,x.oneCell=true)(hnl:newA.length=n*sz){v}(h:B6 J sz bytes d n newA=some (v,J')):
  Iv P C w J (Builtin.append_ #[t,t2] ty #[D,y]) v J':=by
 cases n with
 |zero=>
  have fu:new.toList=[]:=gi_ (C:=C) (N:=nx J) (w:=w) gr
  have same:∀base len k,D=.slice base len k->len<=k->Iv P C w J (Builtin.append_ #[t,t2] ty #[D,y]) d J:=by
   rintro base len k rfl hk
   refine⟨_,_,w,C,Lx (ty:=ty) (w':=w) ht he hz hZ hg Om (fun a _=>by rw[fu];simp[storeCells]) (fun _=>rfl),rfl,hs,cf_ _ _ _,hd⟩
  simp only[B6]at h
  split at h
  ·cases h;unfold R at hd;grind
  ·cases h;have hd':=hd;unfold R at hd';grind
  ·cases h;have hd':=hd;unfold R at hd';grind
  ·cases h
 |succ n'=>
  simp only[B6]at h
  split at h
  ·unfold R at hd;obtain⟨rfl,_⟩:=hd
   exact Oa (old:=#[]) hs ht he hsz hby hz hZ hg (fun k=>rfl) (by unfold RL;trivial) (by simp) (by simp) hn hn1 hnl Om h
  ·rename_i cs sz' len q
   cases hb:(Nat.beq sz' sz&& !Nat.ble (len+(n'+1)) q)
   ·grind
   ·simp only[hb,cond_true]at h;simp only[ad_,bi_]at hb;have iz:=ac_ hb.1
    have hq:¬(len+(n'+1)<=q):=fun hle=>by have:=ar_ hle;grind
    have hd':=hd;unfold R at hd';obtain⟨ad,k,rfl,hk,fw,hcl,_⟩:=hd';have hkq:=fw q rfl
    have ef:F9 J ei.size (.sv cs sz' len (some q)) len=some cs:=by
     have:Dr (len*ei.size) cs=some cs:=by
      have key:∀(l:List AV),Dr l.length l=some l:=by
       intro l;induction l with
       |nil=>rfl
       |cons x r ih=>simp[Dr,ih]
      grind
     exact this
    obtain⟨_,old,o1,o2,o3,o4⟩:=Ji (P:=P) hs hd (m:=len) rfl nl ef;exact Oa hs ht he hsz hby hz hZ hg o1 o2 o3 gr hn hn1 hnl Om h
  ·rename_i a off sz' len cap
   cases hb:Nat.beq sz' sz
   ·grind
   ·simp only[hb,cond_true]at h;have iz:=ac_ hb
    split at h
    ·cases h
    ·rename_i vs hvs
     split at h
     ·cases h
     ·rename_i oldA hold
      have hgo:=eu_ hvs;have hd':=hd;unfold R at hd';obtain⟨ad,k,rfl,han,hk,fw,bk⟩:=hd'
      have ef:F9 J ei.size (.sr a off sz' len cap) len=some oldA:=by
       simp only[F9,hvs,←hsz];grind
      obtain⟨_,old,o1,o2,o3,o4⟩:=Ji (P:=P) hs hd (m:=len) rfl nl ef;rw[←hsz]at o4;obtain⟨c,o,cs,T,l1,l2,l3⟩:=hs.obj a _ hgo;obtain⟨had,e9⟩:=bk c o l1
      split at h
      ·rename_i q
       have hkq:=fw q rfl;subst hkq
       split at h
       ·rename_i cj
        have cj:=al_ cj
        split at h
        ·rename_i vs' cd
         simp only[Ak,af_,ba_]at h;obtain⟨rfl,rfl⟩:=h;obtain⟨c',o',w',r1,r2,r3,r4⟩:=S1 hs hgo cd hn hn1;rw[l1]at r1;cases r1;have e:=had Om;refine⟨_,_,w',C,Lx (ty:=ty) ht he hz hZ hg cj (fun b hb'=>?_) gr,rfl,r3,gr,?_⟩
         ·cases hb';rw[e,Hb,←hsz];grind
         ·rw[Aq];unfold R;refine⟨ad,k,rfl,han,cj,gr,fun c' o' hc'=>?_⟩
          rw[l1]at hc';cases hc'
          exact⟨fun _=>e,by rw[←iz,r4.bsz a han c o l1];grind⟩
        grind
       ·rename_i cj
        have hq:¬(len+(n'+1)<=k):=fun hle=>by have:=ar_ hle;grind
        exact Oa hs ht he hsz hby hz hZ hg o1 o2 o3 o4 hn hn1 hnl Om h
      ·by_cases cj:len+(n'+1)<=k
       ·
        unfold Ja at h;cases hb2:Nat.ble ((len+(n'+1))*(bytes+1)) sizeLim
        ·grind
        ·simp only[hb2,cond_true,Ak,af_,ba_]at h;obtain⟨rfl,rfl⟩:=h;have e:=had Om;have kz:=hn.length;simp only[cd_]at kz;have hcs:csize w c=cs.size:=Fl l2;rw[hcs]at e9;have hm1:(len+(n'+1))*sz<=k*sz:=el_ _ cj;rw[ha_]at hm1;have eg:o+(off+len*sz)+0+new.toList.length<=cs.size:=gr;obtain⟨w',r1,r2⟩:=Lq (P:=P) new.toList w c (o+(off+len*sz)) 0 cs T l2 hn1 eg;rw[fd_]at r2 eg
         have hcs':csize w' c=cs.size:=by rw[Fl r2.here,Nf]
         obtain⟨s1,s2⟩:=hs.replace l1 r2 hgo (.cells (oldA++newA)) rfl (o':=o+off) (fun ex=>by
          refine⟨c,o+off,_,T,by simp[Ctx.add],r2.here,?_⟩
          rw[Ao,B3];refine gv_ fun i x hi=>?_
          rw[Jh r2.here,Pw _ _ _ eg]
          by_cases hlt:i<oldA.length
          ·rw[cg_ hlt]at hi;rw[if_neg Om];obtain⟨u,q1,q2,q3⟩:=l3.get _ x (Ado hold i x hi);rw[Jh l2]at q1;exact⟨u,gr,q2,R.ext ex _ _ q3⟩
          ·rw[do_ Om]at hi;have bv:=(ae_.1 hi).1;rw[if_pos gr];obtain⟨u,q1,q2⟩:=hn.get _ x hi;exact⟨u,gr,hn1 u (ab_ q1),R.ext ex _ _ q2⟩)
         have o9:nx ((J.kill a).new (.cells (oldA++newA)))=nx J+1:=gr;refine⟨_,_,w',_,Lx (ty:=ty) ht he hz hZ hg cj (fun b hb'=>?_) gr,rfl,s1,gr,?_⟩
         ·cases hb';rw[e,Hb,←hsz,Nat.add_assoc];exact r1
         ·rw[o9,B3];unfold R
          refine⟨ad,k,rfl,bl_ _,cj,fun q hq=>(by cases hq),fun c' o' hc'=>?_⟩
          simp only[Ctx.add,if_true]at hc'
          grind
       ·obtain⟨k1,k2⟩:=hs.kill a;have hnk:nx (J.kill a)=nx J:=B3 J a
        obtain⟨yy,xx,w',C2,g1,g2,g3,g4,g5⟩:=Oa (J:=J.kill a) (J':=J') k1 ht he hsz hby hz hZ hg o1 (by rw[hnk];exact o2.ext k2) o3 o4 (by rw[hnk];exact hn.ext k2) hn1 hnl Om h
        exact⟨yy,xx,w',C2,g1,g2,g3,k2.trans gr,g5⟩
  ·cases h
theorem Aef{e:TypeId}{te}(hte:Ay P e=some te){z}(hz:te.zero=some z)(hzl:z.length=te.size):
  ∃ei Z,P.info? e=some ei/\te.size=ei.size/\te.bytes=ei.bytes/\ei.zero=some Z/\Z.cells.size=ei.size/\(∀x∈Z.cells.toList,x.oneCell=true)/\∀(C:Ctx) (N:Nat) (w:World),RL C N w z Z.cells.toList:=by
 obtain⟨ei,ed,e1,e2,e3,e4,e5,e6,e7⟩:=Ap hte;rw[e6]at hz;obtain⟨Z,q1,q2,q3,_,_⟩:=Fq (C:=⟨fun _=>none,fun _=>0,fun _=>False,fun _=>none⟩) (w:=default) (N:=0) hz
 refine⟨ei,Z,e1,e4,e5,q1,?_,q3,fun C N w=>?_⟩
 ·have:=q2.length;grind
 ·obtain⟨Z',q1',q2',_⟩:=Fq (C:=C) (w:=w) (N:=N) hz
  grind
theorem So(hs:Sim P C w J){t t2 ty e d2 te}(ht:P.underlying t=some (.slice e))(hte:Ay P e=some te){z}(hz:te.zero=some z)(hzl:z.length=te.size)
  (h2:P.underlying t2=some d2)(hd2:∀k,d2≠.int k){d s D S}(hd:R C (nx J) w d D)(hS:R C (nx J) w s S){v}(h:T7 te.size te.bytes d s J=some (v,J')):
  Iv P C w J (Builtin.append_ #[t,t2] ty #[D,S]) v J':=by
 obtain⟨ei,Z,e1,e2,e3,e4,e5,e6,e7⟩:=Aef hte hz hzl;unfold T7 at h
 split at h
 ·rename_i n hn
  split at h
  ·rename_i new fu
   obtain⟨f1,a,f2,f3,f4,f5⟩:=Ji (P:=P) hs hS hn nl fu;exact Sn hs ht e1 e2 e3 e4 e5 hd (.inl ⟨d2,h2,hd2,fun k=>f1 _,gr⟩) f3 f4 f5 h
  grind
 grind
theorem Aau(hs:Sim P C w J){t t2 ty e k te}(ht:P.underlying t=some (.slice e))(hte:Ay P e=some te){z}(hz:te.zero=some z)(hzl:z.length=te.size)
  (h2:P.underlying t2=some (.int k)){d s D S}(hd:R C (nx J) w d D)(hS:R C (nx J) w s S){v}(h:T8 z te.size te.bytes d s J=some (v,J')):
  Iv P C w J (Builtin.append_ #[t,t2] ty #[D,S]) v J':=by
 obtain⟨ei,Z,e1,e2,e3,e4,e5,e6,e7⟩:=Aef hte hz hzl;unfold T8 at h
 split at h
 ·rename_i n
  cases hb:Nat.ble (n*(te.bytes+1)) sizeLim
  ·grind
  ·simp only[hb,cond_true]at h;unfold R at hS;subst hS
   refine Sn hs ht e1 e2 e3 e4 e5 hd (.inr ⟨k,h2,rfl,by rw[←e3];exact al_ hb,rfl⟩) ?_ ?_ ?_ h
   ·rw[Hd];exact(e7 C _ w).rep n
   ·rw[Hd];exact Mj e6 n
   ·rw[N7,hzl]
 grind
theorem Ah3(hs:Sim P C w J){t t2 ty e te}(ht:P.underlying t=some (.slice e))(hte:Ay P e=some te){d s D S}(hd:R C (nx J) w d D)(hS:R C (nx J) w s S){v}
  (h:Aqk te.size d s J=some (v,J')):Iv P C w J (Builtin.copy_ #[t,t2] ty #[D,S]) v J':=by
 unfold Aqk at h;cases h
end
section
variable {P:Program}{C C':Ctx}{N N':Nat}{w w':World}{J J':Sto}
theorem Aqp{d v}(h:KS d v):∃k,KV k v:=by
 unfold KS at h
 split at h
 ·obtain⟨n,rfl⟩:=h;exact⟨.int _ n,by unfold KV;rfl⟩
 ·obtain⟨s,rfl⟩:=h;exact⟨.str (B2 s),by unfold KV;exact⟨s,rfl,rfl⟩⟩
 ·obtain⟨b,rfl⟩:=h;exact⟨.bool b,by unfold KV;rfl⟩
 ·exact h.elim
theorem Amc:∀{fs:List Field} {vs:List Value},KFs P fs vs->∃ks,KVs ks vs
 |[],[],_=>⟨[],by unfold KVs;trivial⟩
 |f::fs,v::vs,h=>by
  unfold KFs at h;obtain⟨⟨i,d,_,_,_,_,hk,_⟩,h2⟩:=h;obtain⟨k,hk⟩:=Aqp hk;obtain⟨ks,hks⟩:=Amc h2
  exact⟨k::ks,by unfold KVs;exact⟨hk,hks⟩⟩
 |[],_::_,h=>by unfold KFs at h;exact h.elim
 |_::_,[],h=>by unfold KFs at h;exact h.elim
theorem Av1{kt:TypeId}{v}(h:KT P kt v):∃k,KV k v:=by
 rcases h with⟨d,_,h⟩|⟨fs,a,_,rfl,h,_⟩|⟨_,_,a,d,_,_,rfl,_,_,_,_,_,_,h⟩
 ·exact Aqp h
 ·obtain⟨ks,hk⟩:=Amc h
  exact⟨.agg ks,by unfold KV;exact⟨a,rfl,hk⟩⟩
 ·have key:∀l:List Value,(∀x∈l,KS d x)->∃ks,KVs ks l:=by
   intro l
   induction l with
   |nil=>intro _;exact⟨[],by unfold KVs;trivial⟩
   |cons x l ih=>
    intro hl
    obtain⟨k,hk⟩:=Aqp (hl x (by simp))
    obtain⟨ks,hks⟩:=ih fun y hy=>hl y (by simp[hy])
    exact⟨k::ks,by unfold KVs;exact⟨hk,hks⟩⟩
  obtain⟨ks,hk⟩:=key a.toList h
  exact⟨.agg ks,by unfold KV;exact⟨a,rfl,hk⟩⟩
theorem Aav{d v}(h:KS d v):v.oneCell=true:=by
 unfold KS at h
 split at h
 ·obtain⟨n,rfl⟩:=h;rfl
 ·obtain⟨s,rfl⟩:=h;rfl
 ·obtain⟨b,rfl⟩:=h;rfl
 ·exact h.elim
theorem Xr:∀{fs:List Field} {vs:List Value},KFs P fs vs->∀x∈vs,x.oneCell=true
 |[],[],_,x,hx=>by simp at hx
 |f::fs,v::vs,h,x,hx=>by
  unfold KFs at h
  rcases an_.1 hx with rfl|hx
  ·obtain⟨⟨i,d,_,_,_,_,hk,_⟩,_⟩:=h;exact Aav hk
  ·exact Xr h.2 x hx
 |[],_::_,h,_,_=>by unfold KFs at h;exact h.elim
 |_::_,[],h,_,_=>by unfold KFs at h;exact h.elim
theorem Aqq:∀{ks:List Key} {vs:List Value},KVs ks vs->
  RL C N w (ks.map fun|.bool b=>.bool b|.int k n=>.int k n|.str l=>.str l|.agg _=>.any) vs
 |[],[],_=>by simp only[gs_];unfold RL;trivial
 |k::ks,v::vs,h=>by
  unfold KVs at h;simp only[cn_];unfold RL;refine⟨?_,Aqq h.2⟩;have h1:=h.1;cases k<;>unfold KV at h1<;>unfold R
  ·exact h1
  ·exact h1
  ·exact h1
  ·trivial
 |[],_::_,h=>by unfold KVs at h;exact h.elim
 |_::_,[],h=>by unfold KVs at h;exact h.elim
theorem KV_R{kt:TypeId}{k v}(h:KV k v)(t:KT P kt v):R C N w (T2 k) v:=by
 cases k with
 |bool b=>unfold KV at h;unfold T2 R;exact h
 |int j n=>unfold KV at h;unfold T2 R;exact h
 |str l=>unfold KV at h;unfold T2 R;exact h
 |agg cs=>
  unfold KV at h;obtain⟨a,rfl,h⟩:=h;unfold T2 R;refine⟨a,rfl,Aqq h,?_⟩
  rcases t with⟨d,_,t⟩|⟨fs,b,_,e,t,_⟩|⟨_,_,b,_,_,_,e,_,_,_,_,_,_,t⟩
  ·unfold KS at t
   split at t
   ·obtain⟨_,t⟩:=t;cases t
   ·obtain⟨_,t⟩:=t;cases t
   ·obtain⟨_,t⟩:=t;cases t
   ·exact t.elim
  ·cases e;exact Xr t
  ·cases e;exact fun x hx=>Aav (t x hx)
theorem Agf{d v v'}(h:KS d v)(h':KS d v'):∃b,Instr.sameNow d v v'=some b/\(b=true↔v=v'):=by
 unfold KS at h h'
 split at h
 ·obtain⟨n,rfl⟩:=h;obtain⟨n',rfl⟩:=h'
  exact⟨n==n',by simp[Instr.sameNow],by simp⟩
 ·obtain⟨n,rfl⟩:=h;obtain⟨n',rfl⟩:=h'
  exact⟨n==n',by simp[Instr.sameNow],by rw[Go.MapKept.bytes_beq];simp⟩
 ·obtain⟨n,rfl⟩:=h;obtain⟨n',rfl⟩:=h'
  exact⟨n==n',by simp[Instr.sameNow],by simp⟩
 ·exact h.elim
def Aeg(v:Value)(es:List MapEntry)(i:Nat):Option (Nat×Value)->Prop
 |some (j,x)=>∃e,i<=j/\es[j-i]? =some e/\e.key=v/\e.val=x
 |none=>∀e∈es,e.key≠v
theorem Aeg.cons{v e es i r}(h:Aeg v es (i+1) r)(hne:e.key≠v):Aeg v (e::es) i r:=by
 cases r with
 |none=>
  intro f hf
  rcases an_.1 hf with rfl|hf
  ·exact hne
  ·exact h f hf
 |some p=>
  obtain⟨f,h1,h2,h3,h4⟩:=h
  refine⟨f,by omega,?_,h3,h4⟩
  rw[show p.1-i=(p.1-(i+1))+1 by omega];exact h2
theorem Uh{d v}(h:KS d v):∀{es:List MapEntry},(∀e∈es,KS d e.key)->∀i,∃r,Instr.findNow d v es i=some r/\Aeg v es i r
 |[],_,i=>⟨none,rfl,fun e he=>by simp at he⟩
 |e::es,he,i=>by
  obtain⟨b,h1,h2⟩:=Agf h (he e (by simp))
  cases b with
  |true=>exact⟨some (i,e.val),by simp only[Instr.findNow,h1],e,nl,by simp,(h2.1 rfl).symm,rfl⟩
  |false=>
   obtain⟨r,k1,k2⟩:=Uh h (fun f hf=>he f (aj_ _ hf)) (i+1)
   exact⟨r,by simp only[Instr.findNow,h1,k1],k2.cons fun hh=>by have:=h2.2 hh.symm;cases this⟩
theorem O9{kt:TypeId}{v}(h:KT P kt v):∀{es:List MapEntry},(∀e∈es,KT P kt e.key)->∀i,∃r,(Instr.findAsking kt v es i).run P w=.ok r w/\Aeg v es i r
 |[],_,i=>⟨none,rfl,fun e he=>by simp at he⟩
 |e::es,he,i=>by
  obtain⟨k,hk⟩:=Av1 h
  obtain⟨k',hk'⟩:=Av1 (he e (by simp))
  obtain⟨h1,h2⟩:=Al9 (w:=w) hk hk' h (he e (by simp))
  have h3:(Op.equal kt v e.key).run P w=.ok (Key.eq k k') w:=h2 9998;cases hb:Key.eq k k' with
  |true=>
   refine⟨some (i,e.val),by simp[Instr.findAsking,h3,hb],e,nl,by simp,(h1.1 hb).symm,rfl⟩
  |false=>
   obtain⟨r,k1,k2⟩:=O9 h (fun f hf=>he f (aj_ _ hf)) (i+1)
   exact⟨r,by simp[Instr.findAsking,h3,hb,k1],k2.cons fun hh=>by have:=h1.2 hh.symm;rw[hb]at this;cases this⟩
theorem Ob{kt:TypeId}{v}(h:KT P kt v){es}(he:∀e∈es,KT P kt e.key):∃r,(Instr.findKey kt v es).run P w=.ok r w/\Aeg v es 0 r:=by
 obtain⟨r,k1,k2⟩:=O9 (w:=w) h he 0
 rcases h with⟨d,ht,h⟩|⟨fs,a,ht,rfl,h⟩|⟨n,e,a,d,_,ht,rfl,h⟩
 ·have he':∀e∈es,KS d e.key:=fun e hm=>by
   rcases he e hm with⟨d',ht',h'⟩|⟨fs,b,ht',_,_⟩|⟨_,_,_,_,_,ht',_⟩
   ·rw[ht]at ht';cases ht';exact h'
   ·rw[ht]at ht';cases ht';unfold KS at h;exact h.elim
   ·rw[ht]at ht';cases ht';unfold KS at h;exact h.elim
  obtain⟨r,h1,h2⟩:=Uh h he' 0
  exact⟨r,by simp[Instr.findKey,Aa ht,h1],h2⟩
 ·cases es with
  |nil=>exact⟨none,by simp[Instr.findKey,Aa ht,Instr.findNow],fun e hm=>by simp at hm⟩
  |cons e es=>
   have:Instr.findNow (.struct fs) (.agg a) (e::es) 0=none:=by simp[Instr.findNow,Instr.sameNow]
   exact⟨r,by simp[Instr.findKey,Aa ht,this,k1],k2⟩
 ·cases es with
  |nil=>exact⟨none,by simp[Instr.findKey,Aa ht,Instr.findNow],fun e hm=>by simp at hm⟩
  |cons x es=>
   have:Instr.findNow (.array n e) (.agg a) (x::es) 0=none:=by simp[Instr.findNow,Instr.sameNow]
   exact⟨r,by simp[Instr.findKey,Aa ht,this,k1],k2⟩
end
section
variable {P:Program}{C C':Ctx}{N N':Nat}{w w':World}{J J':Sto}
theorem Aaw{kv x}:∀{es:List (Key×AV)},D5 kv es=some x->
  ∃a k' b,es=a++(k',x)::b/\Key.eq kv k'=true/\(∀v,Ph kv v es=a++(k',v)::b)/\Adh kv es=a++b
 |[],h=>by simp[D5]at h
 |(k',y)::r,h=>by
  simp only[D5]at h;cases hb:Key.eq kv k'
  ·simp only[hb,cond_false]at h;obtain⟨a,k2,b,h1,h2,h3,h4⟩:=Aaw h
   exact⟨(k',y)::a,k2,b,by simp[h1],h2,fun v=>by simp[Ph,hb,h3],by simp[Adh,hb,h4]⟩
  ·simp only[hb,cond_true,af_]at h;subst h
   exact⟨[],k',r,rfl,hb,fun v=>by simp[Ph,hb],by simp[Adh,hb]⟩
theorem S4{kv}:∀{es:List (Key×AV)},D5 kv es=none->(∀x∈es,Key.eq kv x.1=false)/\Adh kv es=es
 |[],_=>⟨fun x hx=>by simp at hx,rfl⟩
 |(k',y)::r,h=>by
  simp only[D5]at h;cases hb:Key.eq kv k'
  ·simp only[hb,cond_false]at h;obtain⟨h1,h2⟩:=S4 h
   refine⟨fun x hx=>?_,by simp[Adh,hb,h2]⟩
   rcases an_.1 hx with rfl|hx
   ·exact hb
   ·exact h1 x hx
  ·simp[hb]at h
theorem Aax(kv v):∀(es:List (Key×AV)),∃a b,es=a++b/\Nx kv v es=a++(kv,v)::b
 |[]=>⟨[],[],rfl,rfl⟩
 |(k',y)::r=>by
  simp only[Nx];cases hb:Key.lt kv k'
  ·obtain⟨a,b,h1,h2⟩:=Aax kv v r
   exact⟨(k',y)::a,b,by simp[h1],by simp[h2]⟩
  ·exact⟨[],(k',y)::r,rfl,rfl⟩
theorem ER.split:∀{a b:List (Key×AV)} {L:List MapEntry},ER C N w (a++b) L->∃A B,L=A++B/\ER C N w a A/\ER C N w b B
 |[],b,L,h=>⟨[],L,rfl,by unfold ER;trivial,h⟩
 |x::a,b,[],h=>by rw[ay_]at h;unfold ER at h;exact h.elim
 |x::a,b,e::L,h=>by
  rw[ay_]at h;unfold ER at h;obtain⟨A,B,h1,h2,h3⟩:=ER.split h.2
  exact⟨e::A,B,by simp[h1],by unfold ER;exact⟨h.1,h2⟩,h3⟩
theorem ER.append:∀{a b:List (Key×AV)} {A B:List MapEntry},ER C N w a A->ER C N w b B->ER C N w (a++b) (A++B)
 |[],b,[],B,_,h=>h
 |x::a,b,e::A,B,h,k=>by unfold ER at h;rw[ay_,ay_];unfold ER;exact⟨h.1,ER.append h.2 k⟩
 |[],_,_::_,_,h,_=>by unfold ER at h;exact h.elim
 |_::_,_,[],_,h,_=>by unfold ER at h;exact h.elim
theorem ER.length:∀{a:List (Key×AV)} {A:List MapEntry},ER C N w a A->a.length=A.length
 |[],[],_=>rfl
 |x::a,e::A,h=>by unfold ER at h;simp[ER.length h.2]
 |[],_::_,h=>by unfold ER at h;exact h.elim
 |_::_,[],h=>by unfold ER at h;exact h.elim
theorem ER.mem:∀{a:List (Key×AV)} {A:List MapEntry},ER C N w a A->∀e∈A,∃x∈a,KV x.1 e.key/\R C N w x.2 e.val
 |[],[],_,e,he=>by simp at he
 |x::a,f::A,h,e,he=>by
  unfold ER at h
  rcases an_.1 he with rfl|he
  ·exact⟨x,by simp,h.1⟩
  ·obtain⟨y,h1,h2⟩:=ER.mem h.2 e he;exact⟨y,by simp[h1],h2⟩
 |[],_::_,h,_,_=>by unfold ER at h;exact h.elim
 |_::_,[],h,_,_=>by unfold ER at h;exact h.elim
theorem Aay{α β:Type}{f:α->β}{A B e g}(h:((A++e::B).map f).Nodup){j}(hj:(A++e::B)[j]? =some g)(hg:f g=f e):j=A.length/\g=e:=by
 have h1:((A++e::B).map f)[j]? =some (f e):=by rw[br_,hj];simp[hg]
 have h2:((A++e::B).map f)[A.length]? =some (f e):=by rw[br_];simp
 obtain⟨l1,l1'⟩:=ae_.1 h1;obtain⟨l2,l2'⟩:=ae_.1 h2;have:j=A.length:=(List.getElem?_inj l1 h).1 (h1.trans h2.symm);subst this
 simp at hj
 exact⟨rfl,hj.symm⟩
structure At (C:Ctx)(N:Nat)(w:World)(es:List (Key×AV))(E:Array MapEntry)(V:Value)(x:AV)(kv:Key) where
 A:List MapEntry
 e:MapEntry
 B:List MapEntry
 a:List (Key×AV)
 k':Key
 b:List (Key×AV)
 A':List MapEntry
 B':List MapEntry
 hE:E.toList=A++e::B
 key:e.key=V
 val:R C N w x e.val
 kk:KV k' e.key
 hes:es=a++(k',x)::b
 ea:ER C N w a A'
 eb:ER C N w b B'
 perm:(A'++B').Perm (A++B)
 set:∀v,Ph kv v es=a++(k',v)::b
 del:Adh kv es=a++b
theorem D8.locate{kt:TypeId}{es E clock}(h:D8 P C N w kt es E clock){kv V}(hk:KV kv V)(ht:KT P kt V):
  (∃x,D5 kv es=some x/\∃q:At C N w es E V x kv,∀w',(Instr.findKey kt V E.toList).run P w'=.ok (some (q.A.length,q.e.val)) w')∨
  (D5 kv es=none/\(∀e∈E.toList,e.key≠V)/\∀w',(Instr.findKey kt V E.toList).run P w'=.ok none w'):=by
 obtain⟨L,hp,hL⟩:=h.perm;cases hm:D5 kv es with
 |none=>
  obtain⟨h1,_⟩:=S4 hm
  have hno:∀e∈E.toList,e.key≠V:=fun e he hh=>by
   obtain⟨x,hx,hxk,_⟩:=ER.mem hL e (hp.symm.subset he);have:=(Al9 (w:=w) hk hxk ht (h.typed e he)).1.2 hh.symm;rw[h1 x hx]at this;cases this
  refine .inr ⟨rfl,hno,fun w'=>?_⟩
  obtain⟨r,k1,k2⟩:=Ob (w:=w') ht h.typed;cases r with
  |none=>exact k1
  |some p=>
   obtain⟨f,_,f2,f3,_⟩:=k2;exact absurd f3 (hno f (ab_ f2))
 |some x=>
  obtain⟨a,k',b,h1,h2,h3,h4⟩:=Aaw hm;have hL':=hL;rw[h1]at hL';obtain⟨A',L2,q1,q2,q3⟩:=hL'.split;cases L2 with
  |nil=>unfold ER at q3;exact q3.elim
  |cons e B'=>
   unfold ER at q3;obtain⟨⟨q4,q5⟩,q6⟩:=q3
   have he:e∈E.toList:=hp.subset (by rw[q1];simp)
   obtain⟨A,B,hE⟩:=eb_ he;have jg:e.key=V:=((Al9 (w:=w) hk q4 ht (h.typed e he)).1.1 h2).symm
   have kl:(A'++B').Perm (A++B):=by
    have:=hp;rw[q1,hE]at this;exact(List.perm_middle.symm.trans (this.trans List.perm_middle)).cons_inv
   refine .inl ⟨x,rfl,⟨A,e,B,a,k',b,A',B',hE,jg,q5,q4,h1,q2,q6,kl,h3,h4⟩,fun w'=>?_⟩
   obtain⟨r,k1,k2⟩:=Ob (w:=w') ht h.typed;cases r with
   |none=>exact absurd jg (k2 e he)
   |some p=>
    obtain⟨f,_,f2,f3,f4⟩:=k2;obtain⟨j,y⟩:=p;simp only[es_]at f2 f4;have hnd:=h.keys;rw[hE]at hnd f2;obtain⟨g1,g2⟩:=Aay hnd f2 (f3.trans jg.symm);subst g1 g2;rw[k1,←f4]
theorem Oc{α:Type}(f e B):∀A:List α,(A++e::B).modify A.length f=A++f e::B
 |[]=>rfl
 |x::A=>by simp only[ay_,as_,List.modify_succ_cons,Oc f e B A]
theorem D8.set{kt:TypeId}{es E clock}(h:D8 P C N w kt es E clock){kv V x v}(q:At C N w es E V x kv){y}(hy:R C N w v y):
  D8 P C N w kt (Ph kv v es) (E.modify q.A.length fun e=>{ e with key:=V,val:=y }) clock/\(E.modify q.A.length fun e=>{ e with key:=V,val:=y }).toList=q.A++{ q.e with val:=y }::q.B:=by
 have hl:(E.modify q.A.length fun e=>{ e with key:=V,val:=y }).toList=q.A++{ q.e with val:=y }::q.B:=by
  rw[fs_,q.hE];have hk:=q.key
  simp[Oc,←hk]
 have kn:(q.A++{ q.e with val:=y }::q.B).map (·.key)=(q.A++q.e::q.B).map (·.key):=by simp
 have ku:(q.A++{ q.e with val:=y }::q.B).map (·.born)=(q.A++q.e::q.B).map (·.born):=by simp
 refine⟨⟨fun e he=>?_,⟨q.A'++{ q.e with val:=y }::q.B',?_,?_⟩,?_,fun e he=>?_,?_⟩,hl⟩
 ·rw[hl]at he
  rcases bb_.1 he with he|he
  ·exact h.typed e (by rw[q.hE];simp[he])
  ·rcases an_.1 he with rfl|he
   ·exact h.typed q.e (by rw[q.hE];simp)
   ·exact h.typed e (by rw[q.hE];simp[he])
 ·rw[hl];exact List.perm_middle.trans ((q.perm.cons _).trans List.perm_middle.symm)
 ·rw[q.set v];exact q.ea.append (by unfold ER;exact⟨⟨q.kk,hy⟩,q.eb⟩)
 ·rw[hl,kn,←q.hE];exact h.keys
 ·rw[hl]at he
  rcases bb_.1 he with he|he
  ·exact h.born e (by rw[q.hE];simp[he])
  ·rcases an_.1 he with rfl|he
   ·exact h.born q.e (by rw[q.hE];simp)
   ·exact h.born e (by rw[q.hE];simp[he])
 ·rw[hl,ku,←q.hE];exact h.apart
theorem D8.ins{kt:TypeId}{es E clock}(h:D8 P C N w kt es E clock){kv V}(hk:KV kv V)(ht:KT P kt V)(hno:∀e∈E.toList,e.key≠V){v y}(hy:R C N w v y):
  D8 P C N w kt (Nx kv v es) (E.push ⟨V,y,clock⟩) (clock+1):=by
 obtain⟨L,hp,hL⟩:=h.perm;obtain⟨a,b,h1,h2⟩:=Aax kv v es;rw[h1]at hL;obtain⟨A',B',q1,q2,q3⟩:=hL.split
 have hl:(E.push ⟨V,y,clock⟩).toList=E.toList++[⟨V,y,clock⟩]:=by simp
 refine⟨fun e he=>?_,⟨A'++⟨V,y,clock⟩::B',?_,?_⟩,?_,fun e he=>?_,?_⟩
 ·rw[hl]at he
  rcases bb_.1 he with he|he
  ·exact h.typed e he
  ·simp at he;subst he;exact ht
 ·rw[hl];refine List.perm_middle.trans ?_;rw[←q1];exact(hp.cons _).trans (List.perm_append_singleton _ _).symm
 ·rw[h2];exact q2.append (by unfold ER;exact⟨⟨hk,hy⟩,q3⟩)
 ·rw[hl,co_,dt_]
  refine⟨h.keys,by simp,fun x hx z hz=>?_⟩
  simp at hz;subst hz
  obtain⟨e,he,rfl⟩:=bt_.1 hx;exact hno e he
 ·rw[hl]at he
  rcases bb_.1 he with he|he
  ·have:=h.born e he;omega
  ·simp at he;subst he;exact bl_ _
 ·rw[hl,co_,dt_]
  refine⟨h.apart,by simp,fun x hx z hz=>?_⟩
  simp at hz;subst hz
  obtain⟨e,he,rfl⟩:=bt_.1 hx;have:=h.born e he;omega
theorem D8.del{kt:TypeId}{es E clock}(h:D8 P C N w kt es E clock){kv V x}(q:At C N w es E V x kv):
  D8 P C N w kt (Adh kv es) (E.eraseIdxIfInBounds q.A.length) clock:=by
 have hl:(E.eraseIdxIfInBounds q.A.length).toList=q.A++q.B:=by
  have hlt:q.A.length<E.size:=by rw[←cd_,q.hE];simp
  unfold Array.eraseIdxIfInBounds;rw[dif_pos hlt,Array.toList_eraseIdx,q.hE]
  simp[List.eraseIdx_append_of_length_le]
 have cc:(q.A++q.B).Sublist E.toList:=by rw[q.hE];exact List.Sublist.append (List.Sublist.refl _) (List.sublist_cons_self _ _)
 refine⟨fun e he=>h.typed e (cc.subset (by rwa[hl]at he)),⟨q.A'++q.B',by rw[hl];exact q.perm,by rw[q.del];exact q.ea.append q.eb⟩,?_,fun e he=>h.born e (cc.subset (by rwa[hl]at he)),?_⟩
 ·rw[hl];exact(cc.map _).nodup h.keys
 ·rw[hl];exact(cc.map _).nodup h.apart
theorem D8.empty{kt:TypeId}{clock}:D8 P C N w kt [] #[] clock:=
 ⟨fun e he=>by simp at he,⟨[],by simp,by unfold ER;trivial⟩,by simp,fun e he=>by simp at he,by simp⟩
abbrev fx_:=@D8.empty
theorem D8.count{kt:TypeId}{es E clock}(h:D8 P C N w kt es E clock):es.length=E.size:=by
 obtain⟨L,hp,hL⟩:=h.perm;rw[hL.length,hp.length_eq];simp
end
section
variable {P:Program}{C C':Ctx}{N N':Nat}{w w':World}{J J':Sto}
theorem Cw{c E clock}(h:w.heap[c]? =some (.map E clock)):(getObj c).run P w=.ok (.map E clock) w:=by
 simp only[getObj,Sem.run,h]
theorem Gv{c E clock}(h:w.heap[c]? =some (.map E clock))(O):
  (setObj c O).run P w=.ok () { w with heap:=w.heap.setIfInBounds c O }:=by
 simp only[setObj,Sem.run,h]
theorem P6{c O₀}(h:w.heap[c]? =some O₀)(O):Wr w { w with heap:=w.heap.setIfInBounds c O } c O:=by
 have hlt:=(bc_.1 h).1
 refine⟨by simp,by simp[hlt],fun b hb=>?_,rfl,rfl⟩
 simp only[];rw[cr_ (fun h=>hb h.symm)]
theorem Aeh{c E clock}(h:w.heap[c]? =some (.map E clock)):csize w c=0:=by unfold csize;simp[h]
theorem setMap(hs:Sim P C w J){r kt ver es}(hg:J.get r=some (.map kt es ver)){c E clock}(hl:C.loc r=some (c,0))(hh:w.heap[c]? =some (.map E clock))
  {es' ver'}(hv:ver<ver'){E' clock'}(hm:D8 P C (nx J) w kt es' E' clock'):
  Sim P C { w with heap:=w.heap.setIfInBounds c (.map E' clock') } (J.set r (.map kt es' ver'))/\Ext C (nx J) w C (nx J) { w with heap:=w.heap.setIfInBounds c (.map E' clock') }:=by
 have p:=P6 hh (.map E' clock')
 refine hs.upd hl p (by rw[Aeh p.here,Aeh hh]) hg _ rfl (fun kt₁ es₁ v₁ h=>?_) fun e=>?_
 ·cases h;exact⟨kt,es,ver,rfl,hv⟩
 ·refine⟨c,E',clock',hl,p.here,?_⟩;rw[Aq];exact hm.ext e
theorem P7{d v}(h:KS d v)(n):Instr.sameBits n v v=true:=by
 unfold KS at h
 split at h
 ·obtain⟨m,rfl⟩:=h;cases n<;>simp[Instr.sameBits]
 ·obtain⟨m,rfl⟩:=h;cases n<;>simp[Instr.sameBits,Go.MapKept.bytes_beq]
 ·obtain⟨m,rfl⟩:=h;cases n<;>simp[Instr.sameBits]
 ·exact h.elim
theorem Ui(n):∀{fs:List Field} {vs:List Value},KFs P fs vs->((vs.zip vs).all fun(x,y)=>Instr.sameBits n x y)=true
 |[],[],_=>rfl
 |f::fs,v::vs,h=>by
  unfold KFs at h;obtain⟨⟨i,d,_,_,_,_,hk,_⟩,h2⟩:=h;simp only[List.zip_cons_cons,cs_,ad_];exact⟨P7 hk n,Ui n h2⟩
 |[],_::_,h=>by unfold KFs at h;exact h.elim
 |_::_,[],h=>by unfold KFs at h;exact h.elim
theorem Ah4{kt:TypeId}{v}(h:KT P kt v):(Instr.keyThatStays v v).run P w=.ok v w:=by
 have:Instr.sameBits 10000 v v=true:=by
  rcases h with⟨d,_,h⟩|⟨fs,a,_,rfl,h,_⟩|⟨_,_,a,d,_,_,rfl,_,_,_,_,_,_,h⟩
  ·exact P7 h _
  case inr.inr=>
   simp only[Instr.sameBits,ad_,beq_self_eq_true,true_and]
   have key:∀l:List Value,(∀x∈l,KS d x)->((l.zip l).all fun(x,y)=>Instr.sameBits 9999 x y)=true:=by
    intro l
    induction l with
    |nil=>intro _;rfl
    |cons x l ih=>intro hl;simp only[List.zip_cons_cons,cs_,ad_];exact⟨P7 (hl x (by simp)) _,ih fun y hy=>hl y (by simp[hy])⟩
   exact key a.toList h
  ·have:=Ui 9999 h;simp only[Instr.sameBits,ad_,beq_self_eq_true,true_and];exact this
 unfold Instr.keyThatStays;rw[this];rfl
theorem Aaz{et:TypeId}{te}(hte:Ay P et=some te){z}(hz:Lh te=some z):∃Z,(∀w,(zeroValue et).run P w=.ok Z w)/\∀(C:Ctx) (N:Nat) (w:World),R C N w z Z:=by
 obtain⟨Z,h1,h2⟩:=Ub (P:=P) (C:=⟨fun _=>none,fun _=>0,fun _=>False,fun _=>none⟩) (N:=0) (w:=default) hte hz
 have bq:∀w,(zeroValue et).run P w=.ok Z w:=fun w=>by
  unfold zeroValue typeInfo at h1⊢;simp only[Sem.run_bind,run_program,Result.andThen_ok]at h1⊢;cases hi:P.info? et with
  |none=>simp[hi]at h1
  |some i=>
   simp only[hi,Sem.run_pure,Result.andThen_ok]at h1⊢;cases hz:i.zero with
   |none=>simp[hz]at h1
   |some v=>simp only[hz,Sem.run_pure,Result.ok.injEq]at h1⊢;exact⟨h1.1,trivial⟩
 refine⟨Z,bq,fun C N w=>?_⟩
 obtain⟨Z',h3,h4⟩:=Ub (P:=P) (C:=C) (N:=N) (w:=w) hte hz;rw[bq w]at h3;cases h3;exact h4
theorem Agg{ok v V}(h:R C N w v V)(b):R C N w (Aae ok v b) (if ok then .tuple #[V,.bool b]else V):=by
 cases ok
 ·exact h
 ·simp only[Aae];unfold R;exact⟨_,rfl,by unfold RL;exact⟨h,by unfold RL;exact⟨by unfold R;rfl,by unfold RL;trivial⟩⟩⟩
theorem Adp(hs:Sim P C w J){t kt et:TypeId}{ti te}(hti:Ay P t=some ti)(hd:ti.desc=.map kt et)(hte:Ay P et=some te){z}(hz:Lh te=some z){k m K M}(hk:R C (nx J) w k K)(hm:R C (nx J) w m M)
  {ok v}(h:Ky kt (D4 P kt k) z ok m J=some (v,J')):J'=J/\Dz P C (nx J) w (Instr.lookup t M K ok) v:=by
 obtain⟨_,d,_,g2,g3,_⟩:=Ap hti
 have hu:=g2.trans (by rw[←g3,hd])
 obtain⟨Z,z1,z2⟩:=Aaz hte hz;unfold Ky at h
 split at h
 ·rename_i kv hkv
  obtain⟨hK,hT⟩:=H3 hkv hk
  split at h
  ·rename_i r
   split at h
   ·rename_i kt' es ver hg
    split at h
    ·rename_i hkt
     have hkt:=ac_ hkt;subst hkt;unfold R at hm;obtain⟨c,rfl,_,bk⟩:=hm;obtain⟨c',E,clock,l1,l2,l3⟩:=hs.obj r _ hg;have:=bk c' 0 l1;subst this
     rcases l3.locate hK hT with⟨x,hx,q,hq⟩|⟨hx,_,hq⟩
     ·rw[hx]at h;cases h;refine⟨rfl,_,?_,Agg q.val true⟩;simp only[Instr.lookup,Sem.run_bind,Aa hu,Result.andThen_ok,Cw l2,Sem.run_pure,C3 hT _ 9998,hq w]
     ·rw[hx]at h;cases h;refine⟨rfl,_,?_,Agg (z2 _ _ _) false⟩;simp only[Instr.lookup,Sem.run_bind,Aa hu,Result.andThen_ok,Cw l2,Sem.run_pure,C3 hT _ 9998,hq w,z1]
    ·cases h
   ·cases h
  ·cases h;unfold R at hm;obtain⟨rfl,_⟩:=hm;refine⟨rfl,_,?_,Agg (z2 _ _ _) false⟩
   obtain⟨r,k1,k2⟩:=Ob (P:=P) (w:=w) hT (es:=[]) (fun e he=>by simp at he)
   have:r=none:=by
    cases r with
    |none=>rfl
    |some p=>obtain⟨f,_,f2,_⟩:=k2;simp at f2
   subst this;simp only[Instr.lookup,Sem.run_bind,Aa hu,Result.andThen_ok,Sem.run_pure,C3 hT _ 9998,k1,z1]
  ·cases h
 ·cases h
theorem Amd{E:Array MapEntry}{A B e}(h:E.toList=A++e::B):E[A.length]? =some e:=by
 rw[←bw_,h];simp
theorem Wo(hs:Sim P C w J){t kt et:TypeId}{ti te}(hti:Ay P t=some ti)(hd:ti.desc=.map kt et){k m v K M V}(hk:R C (nx J) w k K)(hm:R C (nx J) w m M)(hv:R C (nx J) w v V)
  {u}(h:N1 kt (D4 P kt k) te m v J=some (u,J')):u=An/\∃w',(Instr.mapUpdate t M K V).run P w=.ok () w'/\Sim P C w' J'/\Ext C (nx J) w C (nx J') w':=by
 obtain⟨_,d,_,g2,g3,_⟩:=Ap hti
 have hu:=g2.trans (by rw[←g3,hd])
 unfold N1 at h
 split at h
 ·rename_i kv r hkv
  obtain⟨hK,hT⟩:=H3 hkv hk
  split at h
  ·rename_i kt' es ver hg
   split at h
   ·rename_i hb
    rw[ad_]at hb;have hkt:=ac_ hb.1;subst hkt;unfold R at hm;obtain⟨c,rfl,_,bk⟩:=hm;obtain⟨c',E,clock,l1,l2,l3⟩:=hs.obj r _ hg;have:=bk c' 0 l1;subst this
    rcases l3.locate hK hT with⟨x,hx,q,hq⟩|⟨hx,hno,hq⟩
    ·simp only[hx,Ak,af_,ba_]at h;obtain⟨rfl,rfl⟩:=h;obtain⟨m1,_⟩:=l3.set q hv;obtain⟨s1,s2⟩:=setMap hs hg l1 l2 (bl_ ver) m1
     refine⟨rfl,_,?_,s1,by rw[Aq];exact s2⟩
     have hold:=Amd q.hE;simp only[Instr.mapUpdate,Sem.run_bind,Aa hu,Result.andThen_ok,Cw l2,C3 hT _ 9998,hq w,hold,ds_,gp_,q.key,Ah4 hT,Gv l2]
    ·simp only[hx,Ak,af_,ba_]at h;obtain⟨rfl,rfl⟩:=h;obtain⟨s1,s2⟩:=setMap hs hg l1 l2 (bl_ ver) (l3.ins hK hT hno hv)
     refine⟨rfl,_,?_,s1,by rw[Aq];exact s2⟩
     simp only[Instr.mapUpdate,Sem.run_bind,Aa hu,Result.andThen_ok,Cw l2,C3 hT _ 9998,hq w,Gv l2]
   ·cases h
  ·cases h
 ·cases h
theorem Adq(hs:Sim P C w J){t kt et ty t2:TypeId}{ti}(hti:Ay P t=some ti)(hd:ti.desc=.map kt et){k m K M}(hk:R C (nx J) w k K)(hm:R C (nx J) w m M)
  {u}(h:Af7 kt (D4 P kt k) m J=some (u,J')):u=An/\∃w',(Builtin.delete_ #[t,t2] ty #[M,K]).run P w=.ok (.tuple #[]) w'/\Sim P C w' J'/\Ext C (nx J) w C (nx J') w':=by
 obtain⟨_,d,_,g2,g3,_⟩:=Ap hti
 have hu:=g2.trans (by rw[←g3,hd])
 unfold Af7 at h
 split at h
 ·rename_i kv r hkv
  obtain⟨hK,hT⟩:=H3 hkv hk
  split at h
  ·rename_i kt' es ver hg
   split at h
   ·rename_i hb
    have hkt:=ac_ hb;subst hkt;unfold R at hm;obtain⟨c,rfl,_,bk⟩:=hm;obtain⟨c',E,clock,l1,l2,l3⟩:=hs.obj r _ hg;have:=bk c' 0 l1;subst this;simp only[Ak,af_,ba_]at h;obtain⟨rfl,rfl⟩:=h
    rcases l3.locate hK hT with⟨x,hx,q,hq⟩|⟨hx,hno,hq⟩
    ·obtain⟨s1,s2⟩:=setMap hs hg l1 l2 (bl_ ver) (l3.del q)
     refine⟨rfl,_,?_,s1,by rw[Aq];exact s2⟩
     simp[Builtin.delete_,Aa hu,Cw l2,C3 hT _ 9998,hq w,Gv l2]
    ·obtain⟨s1,s2⟩:=setMap hs hg l1 l2 (bl_ ver) (E':=E) (clock':=clock) (es':=Adh kv es) (by rw[(S4 hx).2];exact l3)
     refine⟨rfl,_,?_,s1,by rw[Aq];exact s2⟩
     simp[Builtin.delete_,Aa hu,Cw l2,C3 hT _ 9998,hq w,Gv l2]
   ·cases h
  ·cases h
 ·rename_i kv hkv
  obtain⟨hK,hT⟩:=H3 hkv hk;cases h;unfold R at hm;obtain⟨rfl,_⟩:=hm;refine⟨rfl,w,?_,hs,cf_ _ _ _⟩
  simp[Builtin.delete_,Aa hu,C3 hT _ 9998]
 ·cases h
theorem Yq(hs:Sim P C w J){t kt et ty:TypeId}{ti}(hti:Ay P t=some ti)(hd:ti.desc=.map kt et){m M}(hm:R C (nx J) w m M)
  {u}(h:Q9 m J=some (u,J')):u=An/\∃w',(Builtin.clear_ #[t] ty #[M]).run P w=.ok (.tuple #[]) w'/\Sim P C w' J'/\Ext C (nx J) w C (nx J') w':=by
 obtain⟨_,d,_,g2,g3,_⟩:=Ap hti
 have hu:=g2.trans (by rw[←g3,hd])
 unfold Q9 at h
 split at h
 ·rename_i r
  split at h
  ·rename_i kt' es ver hg
   unfold R at hm;obtain⟨c,rfl,_,bk⟩:=hm;obtain⟨c',E,clock,l1,l2,l3⟩:=hs.obj r _ hg;have:=bk c' 0 l1;subst this;simp only[Ak,af_,ba_]at h;obtain⟨rfl,rfl⟩:=h;obtain⟨s1,s2⟩:=setMap hs hg l1 l2 (bl_ ver) (fx_ (clock:=clock))
   refine⟨rfl,_,?_,s1,by rw[Aq];exact s2⟩
   simp[Builtin.clear_,Aa hu,Cw l2,Gv l2]
  ·cases h
 ·cases h;unfold R at hm;obtain⟨rfl,_⟩:=hm;refine⟨rfl,w,?_,hs,cf_ _ _ _⟩
  simp[Builtin.clear_,Aa hu]
 ·cases h
theorem Adr(hs:Sim P C w J){t kt et ty:TypeId}{ti}(hti:Ay P t=some ti)(hd:ti.desc=.map kt et){m M}(hm:R C (nx J) w m M)
  {u}(h:T6 m J=some (u,J')):J'=J/\Dz P C (nx J) w (Builtin.len_ #[t] ty #[M]) u:=by
 obtain⟨_,d,_,g2,g3,_⟩:=Ap hti
 have hu:=g2.trans (by rw[←g3,hd])
 unfold T6 at h
 split at h
 ·rename_i r
  split at h
  ·rename_i kt' es ver hg
   unfold R at hm;obtain⟨c,rfl,_,bk⟩:=hm;obtain⟨c',E,clock,l1,l2,l3⟩:=hs.obj r _ hg;have:=bk c' 0 l1;subst this;simp only[Ak,af_,ba_]at h;obtain⟨rfl,rfl⟩:=h
   refine⟨rfl,_,by simp[Builtin.len_,Aa hu,Cw l2];rfl,?_⟩
   unfold goInt R;rw[l3.count];rfl
  ·cases h
 ·cases h;unfold R at hm;obtain⟨rfl,_⟩:=hm
  exact⟨rfl,_,by simp[Builtin.len_,Aa hu];rfl,by unfold goInt R;rfl⟩
 ·cases h
end
section
variable {P:Program}{C C':Ctx}{N N':Nat}{w w':World}{J J':Sto}
theorem Wp{α:Type}{a b:Array α}(h:a.toList=b.toList):a=b:=Array.ext' h
theorem Ads{E:Array MapEntry}{A B e}(h:E.toList=A++e::B){V}(hV:e.key=V):(E.modify A.length fun e=>{ e with key:=V })=E:=by
 apply Wp;rw[fs_,h,Oc,←hV]
theorem Yr(hs:Sim P C w J){t kt et:TypeId}{ti te}(hti:Ay P t=some ti)(hd:ti.desc=.map kt et)(hte:Ay P et=some te){z}(hz:Lh te=some z){k m K M}(hk:R C (nx J) w k K)(hm:R C (nx J) w m M)
  {u}(h:Q8 kt (D4 P kt k) z m J=some (u,J')):Iv P C w J (Instr.mapEntry t M K) u J':=by
 obtain⟨_,d,_,g2,g3,_⟩:=Ap hti
 have hu:=g2.trans (by rw[←g3,hd])
 obtain⟨Z,z1,z2⟩:=Aaz hte hz;unfold Q8 at h
 split at h
 ·rename_i kv r hkv
  obtain⟨hK,hT⟩:=H3 hkv hk
  split at h
  ·rename_i kt' es ver hg
   split at h
   ·rename_i hb
    have hkt:=ac_ hb;subst hkt;unfold R at hm;obtain⟨c,rfl,hr,bk⟩:=hm;obtain⟨c',E,clock,l1,l2,l3⟩:=hs.obj r _ hg;have:=bk c' 0 l1;subst this;rw[Ak]at h

    have step:∀{es':List (Key×AV)} {E':Array MapEntry} {clock':Nat} (m1:D8 P C (nx J) w kt' es' E' clock') (e:MapEntry) (he:e∈E'.toList) (hek:e.key=K) {x:AV} {X:Value} (hx:R C (nx J) w x X)
      (bq:(Instr.mapEntry t (.map (some c)) K).run P w=.ok (.tuple #[X,goInt e.born]) { w with heap:=w.heap.setIfInBounds c (.map E' clock') }),
      Iv P C w J (Instr.mapEntry t (.map (some c)) K) (.tup [x,.stp (nx J)]) ((J.set r (.map kt' es' (ver+1))).new (.stamp r (ver+1) kv)):=by
     intro es' E' clock' m1 e he hek x X hx bq;obtain⟨s1,s2⟩:=setMap hs hg l1 l2 (bl_ ver) m1;have hn:nx (J.set r (.map kt' es' (ver+1)))=nx J:=Aq _ _ _;have kh:=(P6 l2 (.map E' clock')).here
     obtain⟨s3,s4⟩:=s1.newStamp e.born r (ver+1) kv (by rw[hn];exact hr) (fun kt₁ es₁ v₁ hg₁=>by
      rw[aa_,if_pos rfl]at hg₁;cases hg₁
      exact⟨nl,fun _=>⟨c,E',clock',l1,kh,e,he,by rw[hek];exact hK,rfl⟩⟩)
     refine⟨_,_,_,_,bq,rfl,s3,?_,?_⟩
     ·rw[Ao];rw[hn]at s4⊢;exact s2.trans s4
     ·rw[Ao];rw[hn]at s4⊢;unfold R;refine⟨_,rfl,?_⟩;unfold RL;refine⟨R.ext (s2.trans s4) _ _ hx,?_⟩;unfold RL
      refine⟨?_,by unfold RL;trivial⟩
      unfold R
      exact⟨by simp[goInt,Ctx.addStm],bl_ _⟩
    rcases l3.locate hK hT with⟨x,hx,q,hq⟩|⟨hx,hno,hq⟩
    ·simp only[hx,af_,ba_]at h;obtain⟨rfl,rfl⟩:=h
     refine step l3 q.e (by rw[q.hE];simp) q.key q.val ?_
     have hold:=Amd q.hE;simp only[Instr.mapEntry,Sem.run_bind,Aa hu,Result.andThen_ok,Cw l2,C3 hT _ 9998,hq w,hold,ds_,gp_,q.key,Ah4 hT,Gv l2,Ads q.hE q.key,Sem.run_pure]
    ·simp only[hx,af_,ba_]at h;obtain⟨rfl,rfl⟩:=h
     refine step (l3.ins hK hT hno (z2 _ _ _)) ⟨K,Z,clock⟩ (by simp) rfl (z2 _ _ _) ?_
     simp only[Instr.mapEntry,Sem.run_bind,Aa hu,Result.andThen_ok,Cw l2,C3 hT _ 9998,hq w,Gv l2,z1,Sem.run_pure]
   ·cases h
  ·cases h
 ·cases h
theorem At2{kt:TypeId}{es E clock}(h:D8 P C N w kt es E clock){e f}(he:e∈E.toList)(hf:f∈E.toList)(hb:f.born=e.born):f=e:=by
 obtain⟨A,B,hE⟩:=eb_ he;obtain⟨j,hj⟩:=au_.1 hf;have hnd:=h.apart;rw[hE]at hnd hj;exact(Aay hnd hj hb).2
theorem Awu{kt:TypeId}{es E clock}(h:D8 P C N w kt es E clock){e f}(he:e∈E.toList)(hf:f∈E.toList)(hb:f.key=e.key):f=e:=by
 obtain⟨A,B,hE⟩:=eb_ he;obtain⟨j,hj⟩:=au_.1 hf;have hnd:=h.keys;rw[hE]at hnd hj;exact(Aay hnd hj hb).2
theorem Agh{α:Type}(E:Array α)(p):E.findIdx? p=E.toList.findIdx? p:=by
 cases E;simp
theorem Uj(hs:Sim P C w J){t te m st v M S V}(hm:R C (nx J) w m M)(hst:R C (nx J) w st S)(hv:R C (nx J) w v V)
  {u}(h:Mf te m st v J=some (u,J')):u=An/\∃w',(Instr.entryStore t M S V).run P w=.ok () w'/\Sim P C w' J'/\Ext C (nx J) w C (nx J') w':=by
 unfold Mf at h
 split at h
 ·rename_i r a
  split at h
  ·rename_i r' ver kv kt es ver' hga hg
   split at h
   ·rename_i hb
    simp only[ad_]at hb;have h1:=ac_ hb.1.1;subst h1;have h2:=ac_ hb.1.2;subst h2
    split at h
    ·rename_i x hx
     simp only[Ak,af_,ba_]at h;obtain⟨rfl,rfl⟩:=h;refine⟨rfl,?_⟩;obtain⟨_,o2⟩:=hs.obj a _ hga;obtain⟨cm,E,clock,l1,l2,e,he,hek,ke⟩:=(o2 kt es ver hg).2 rfl;obtain⟨c',E',clock',l1',l2',l3⟩:=hs.obj r _ hg;rw[l1]at l1';cases l1';rw[l2]at l2';cases l2';unfold R at hm hst;obtain⟨c,rfl,_,bk⟩:=hm;have:=bk _ _ l1;subst this;obtain⟨rfl,_⟩:=hst
     rcases l3.locate hek (l3.typed e he)with⟨x',hx',q,_⟩|⟨hx',_⟩
     ·have hqe:q.e=e:=Awu l3 he (by rw[q.hE];simp) q.key
      obtain⟨m1,m2⟩:=l3.set q hv;obtain⟨s1,s2⟩:=setMap hs hg l1 l2 (bl_ ver) m1
      refine⟨_,?_,s1,by rw[Aq];exact s2⟩
      have pb:E.findIdx? (fun f=>(f.born:Int)==C.stm a)=some q.A.length:=by
       rw[Agh,q.hE,List.findIdx?_append]
       have hA:List.findIdx? (fun f:MapEntry=>(f.born:Int)==C.stm a) q.A=none:=by
        rw[List.findIdx?_eq_none_iff];intro f hf;rw[ke,←hqe];have hnd:=l3.apart;rw[q.hE,co_,dt_]at hnd
        have:=hnd.2.2 f.born (eq_ hf) q.e.born (by simp)
        exact beq_eq_false_iff_ne.2 fun hh=>this (Int.ofNat_inj.1 hh)
       rw[hA]
       simp[List.findIdx?_cons,ke,hqe]
      have br:(E.modify q.A.length fun f=>{ f with val:=V })=E.modify q.A.length fun f=>{ f with key:=e.key,val:=V }:=by
       apply Wp;rw[m2,fs_,q.hE,Oc]
      simp only[Instr.entryStore,Sem.run_bind,Cw l2,Result.andThen_ok,asInt,asIntOf,Sem.run_pure,pb,Gv l2,br]
     ·rw[hx]at hx';cases hx'
    ·cases h
   ·cases h
  ·cases h
 ·cases h
theorem Aa0(hs:Sim P C w J){t kt:TypeId}{u}(h:T5 kt J=some (u,J')):Iv P C w J (Instr.makeMap t none) u J':=by
 unfold T5 at h;cases h;have p:=K3 w (.map #[] 0)
 obtain⟨s1,s2⟩:=hs.new p (.map kt [] 0) rfl (fun e=>⟨w.heap.size,#[],0,by simp[Ctx.add],p.here,fx_⟩)
 refine⟨_,_,_,_,by simp[Instr.makeMap];rfl,rfl,s1,by rw[Ao];exact s2,?_⟩
 rw[Ao];unfold R
 exact⟨_,rfl,bl_ _,fun c' o hc=>by simp[Ctx.add]at hc;exact hc.1⟩
theorem Yt(hs:Sim P C w J){t kt et:TypeId}{ti}(hti:Ay P t=some ti)(hd:ti.desc=.map kt et){x X}(hx:R C (nx J) w x X){u}(h:We kt x J=some (u,J')):Iv P C w J (Instr.makeMap t (some X)) u J':=by
 obtain⟨_,d,_,g2,g3,_⟩:=Ap hti
 have hu:=g2.trans (by rw[←g3,hd])
 unfold We at h
 split at h
 ·cases h;unfold R at hx;subst hx;have p:=K3 w (.map #[] 0)
  obtain⟨s1,s2⟩:=hs.new p (.map kt [] 0) rfl (fun e=>⟨w.heap.size,#[],0,by simp[Ctx.add],p.here,fx_⟩)
  refine⟨_,_,_,_,by simp[Instr.makeMap,Aa hu,asInt,asIntOf];rfl,rfl,s1,by rw[Ao];exact s2,?_⟩
  rw[Ao];unfold R
  exact⟨_,rfl,bl_ _,fun c' o hc=>by simp[Ctx.add]at hc;exact hc.1⟩
 ·cases h
theorem R.newIt{a c N}(ha:a<N)(hl:C.loc a=some (c,0)):R C N w (.it a) (.pointer (some ⟨c,0,none⟩)):=by
 unfold R
 exact⟨c,rfl,ha,fun c' o hc=>by rw[hl]at hc;cases hc;rfl⟩
theorem Agi(hs:Sim P C w J){t kt et:TypeId}{ti}(hti:Ay P t=some ti)(hd:ti.desc=.map kt et){m M}(hm:R C (nx J) w m M){u}(h:Af5 m J=some (u,J')):Iv P C w J (Instr.range t M) u J':=by
 obtain⟨_,d,_,g2,g3,_⟩:=Ap hti
 have hu:=g2.trans (by rw[←g3,hd])
 unfold Af5 at h
 split at h
 ·cases h;unfold R at hm;obtain⟨rfl,_⟩:=hm;have p:=K3 w (.mapIter none 0 #[] 0)
  obtain⟨s1,s2⟩:=hs.new p (.iter none 0 [] none) rfl (fun e=>⟨w.heap.size,0,#[],0,by simp[Ctx.add],p.here,rfl⟩)
  refine⟨_,_,_,_,by simp[Instr.range,Aa hu];rfl,rfl,s1,by rw[Ao];exact s2,?_⟩
  rw[Ao];exact R.newIt (bl_ _) (ec_ ..)
 ·rename_i r
  split at h
  ·rename_i kt' es ver hg
   cases h;unfold R at hm;obtain⟨c,rfl,hr,bk⟩:=hm;obtain⟨c',E,clock,l1,l2,l3⟩:=hs.obj r _ hg;have:=bk c' 0 l1;subst this;have p:=K3 w (.mapIter (some c) clock #[] clock);have hlt:=hs.lt r c 0 l1
   obtain⟨s1,s2⟩:=hs.new p (.iter (some r) ver es none) rfl (fun e=>by
    refine⟨by rw[Ao];omega,w.heap.size,c,clock,#[],clock,by simp[Ctx.add],p.here,fun kt₁ es₁ v₁ hg₁=>?_⟩
    rw[ag_,if_neg Om]at hg₁;rw[hg]at hg₁;cases hg₁
    refine⟨nl,fun _=>⟨E,by simp only[Ctx.add];rw[if_neg Om];exact l1,(p.other c hlt).trans l2,rfl,?_,fun k v hk=>by cases hk⟩⟩
    obtain⟨L,q1,q2⟩:=l3.perm;rw[Ao]
    exact⟨L,by rw[er_.2 (by simp)];exact q1,q2.ext e⟩)
   refine⟨_,_,_,_,by simp[Instr.range,Aa hu,Cw l2];rfl,rfl,s1,by rw[Ao];exact s2,?_⟩
   rw[Ao];exact R.newIt (bl_ _) (ec_ ..)
  ·cases h
 ·cases h
theorem Agj(hs:Sim P C w J){x X}(hx:R C (nx J) w x X){u}(h:Aaf x J=some (u,J')):J'=J/\Dz P C (nx J) w (Instr.entry X) u:=by
 unfold Aaf at h
 split at h
 ·rename_i a
  split at h
  ·rename_i r ver left k v hga
   split at h
   ·rename_i kt es ver' hg
    cases hb:Nat.beq ver ver'
    ·simp[hb]at h
    ·simp only[hb,cond_true,af_,ba_]at h;obtain⟨rfl,rfl⟩:=h;have hv:=ac_ hb;subst hv;refine⟨rfl,?_⟩;obtain⟨_,c,cm,since,seen,last,o1,o2,o3⟩:=hs.obj a _ hga;obtain⟨E,l1,l2,cw,_,pc⟩:=(o3 kt es ver hg).2 rfl;obtain⟨e,he,ko,hk,hv⟩:=pc k v rfl;obtain⟨c',E',clock',l1',l2',l3⟩:=hs.obj r _ hg;rw[l1]at l1';cases l1';rw[l2]at l2';cases l2';unfold R at hx;obtain⟨c2,rfl,_,bk⟩:=hx;have:=bk c 0 o1;subst this;refine⟨.tuple #[e.key,e.val],?_,?_⟩
     ·have mb:E.find? (fun f=>f.born==e.born)=some e:=by
       cases hf:E.find? (fun f=>f.born==e.born)with
       |none=>
        rw[Array.find?_eq_none]at hf
        exact absurd (by simp) (hf e (by simpa using he))
       |some f=>
        have h1:=Array.find?_some hf;have h2:=Array.mem_of_find?_eq_some hf
        have hfe:f=e:=At2 l3 he (by simpa using h2) (by simpa using h1)
        rw[hfe]
      have hit:(getObj c2).run P w=.ok (.mapIter (some cm) since seen last) w:=by simp only[getObj,Sem.run,o2]
      subst cw
      simp[Instr.entry,hit,ko,Cw l2,mb]
     ·unfold R;refine⟨_,rfl,?_⟩;unfold RL;refine⟨KV_R hk (l3.typed e he),?_⟩;unfold RL
      exact⟨hv,by unfold RL;trivial⟩
   ·cases h
  ·cases h
 ·cases h
end
section
variable {P:Program}{C C':Ctx}{N N':Nat}{w w':World}{J J':Sto}
theorem Aei{α}(x b):∀a:List α,(x,a++b)∈Ht (a++x::b)
 |[]=>by simp[Ht]
 |y::a=>by
  have:=Aei x b a;simp only[ay_,Ht,an_,bt_];exact .inr ⟨(x,a++b),this,rfl⟩
theorem ER.mid:∀{l:List (Key×AV)} {A B:List MapEntry} {e:MapEntry},ER C N w l (A++e::B)->∃a x b,l=a++x::b/\ER C N w a A/\KV x.1 e.key/\R C N w x.2 e.val/\ER C N w b B
 |[],[],B,e,h=>by unfold ER at h;exact h.elim
 |[],_::_,B,e,h=>by rw[ay_]at h;unfold ER at h;exact h.elim
 |x::l,[],B,e,h=>by
  rw[bd_]at h;unfold ER at h
  exact⟨[],x,l,rfl,by unfold ER;trivial,h.1.1,h.1.2,h.2⟩
 |x::l,f::A,B,e,h=>by
  rw[ay_]at h;unfold ER at h;obtain⟨a,y,b,h1,h2,h3,h4,h5⟩:=ER.mid h.2
  exact⟨x::a,y,b,by simp[h1],by unfold ER;exact⟨h.1,h2⟩,h3,h4,h5⟩
theorem Agk(hs:Sim P C w J){a O₀}(hg:J.get a=some O₀){c m₀ s₀ l₀ seen₀}(hl:C.loc a=some (c,0))(hh:w.heap[c]? =some (.mapIter m₀ s₀ seen₀ l₀))
  {m₁ s₁ l₁ seen₁ m ver left cur}
  (hO:Ext C (nx J) w C (nx J) { w with heap:=w.heap.setIfInBounds c (.mapIter m₁ s₁ seen₁ l₁) }->OR P C { w with heap:=w.heap.setIfInBounds c (.mapIter m₁ s₁ seen₁ l₁) } (J.set a (.iter m ver left cur)) a (.iter m ver left cur)):
  Sim P C { w with heap:=w.heap.setIfInBounds c (.mapIter m₁ s₁ seen₁ l₁) } (J.set a (.iter m ver left cur))/\Ext C (nx J) w C (nx J) { w with heap:=w.heap.setIfInBounds c (.mapIter m₁ s₁ seen₁ l₁) }:=by
 have p:=P6 hh (.mapIter m₁ s₁ seen₁ l₁)
 exact hs.upd hl p (by unfold csize;rw[p.here,hh]) hg _ rfl (fun _ _ _ h=>by cases h) hO
theorem Ly{α:Type}{a:Array α}{i x}(h:a[i]? =some x):a.setIfInBounds i x=a:=by
 apply Array.ext_getElem?;intro j
 by_cases hj:i=j
 ·subst hj;have:=(bc_.1 h).1;rw[Array.getElem?_setIfInBounds_self_of_lt this,h]
 ·rw[cr_ hj]
theorem Akw{α:Type}(f:α->Nat){A B e}(h:((A++e::B).map f).Nodup):(A++e::B).filter (fun x=> !(f x==f e))=A++B:=by
 rw[co_,dt_,cn_,ed_]at h;obtain⟨_,⟨h2,_⟩,h3⟩:=h;rw[fy_,List.filter_cons];simp only[beq_self_eq_true,Bool.not_true,bp_,if_false];rw[er_.2,er_.2]
 ·intro x hx;have:f x≠f e:=fun hh=>h2 (hh▸eq_ hx)
  simpa using this
 ·intro x hx
  have:f x≠f e:=h3 (f x) (eq_ hx) (f e) (by simp)
  simpa using this
theorem Ah5(w){n}(h:0<n):∃i dr,i<n/\(choose (.mapNext n)).run P w=.ok i { w with drawn:=dr }:=by
 by_cases h1:n<=1
 ·exact⟨0,w.drawn,h,by simp[choose,Sem.run,Question.forced,h1]⟩
 ·exact⟨w.tape w.drawn (.mapNext n)%n,w.drawn+1,Nat.mod_lt _ h,by simp[choose,Sem.run,Question.forced,Question.cut,h1]⟩
theorem Akx(hs:Sim P C w J){ty a X}(hx:R C (nx J) w (.it a) X){m ver left cur}(hga:J.get a=some (.iter m ver left cur))(hv:Aga J m ver=true):
    ∃y w',(Instr.next X false ty).run P w=.ok y w'/\Ext C (nx J) w C (nx J) w'/\
      ((left=[]/\Sim P C w' (J.set a (.iter m ver [] none))/\R C (nx J) w' (.tup [.bool false]) y)∨
       (∃p∈Ht left,Sim P C w' (J.set a (.iter m ver p.2 (some p.1)))/\R C (nx J) w' (.tup [.bool true,T2 p.1.1,p.1.2]) y)):=by
  have i5:∀w,R C (nx J) w (.tup [.bool false]) (.tuple #[.bool false]):=fun w=>by
    unfold R;exact⟨_,rfl,by unfold RL;exact⟨by unfold R;rfl,by unfold RL;trivial⟩⟩
  unfold R at hx;obtain⟨c,rfl,_,bk⟩:=hx;cases m with
  |none=>
    obtain⟨c',since,seen,last,o1,o2,rfl⟩:=hs.obj a _ hga;have:=bk c' 0 o1;subst this
    have hit:(getObj c).run P w=.ok (.mapIter none since seen last) w:=by simp only[getObj,Sem.run,o2]
    obtain⟨s1,s2⟩:=Agk (m₁:=none) (s₁:=since) (l₁:=last) (seen₁:=seen) (m:=none) (ver:=ver) (left:=[]) (cur:=none) hs hga o1 o2 (fun _=>⟨c,since,seen,last,o1,(P6 o2 _).here,rfl⟩)
    have hw:({ w with heap:=w.heap.setIfInBounds c (.mapIter none since seen last) }:World)=w:=by rw[Ly o2]
    rw[hw]at s1 s2
    exact⟨_,w,by simp[Instr.next,hit],s2,.inl ⟨rfl,s1,i5 w⟩⟩
  |some r=>
    obtain⟨hr,c',cm,since0,seen,since,o1,o2,o3⟩:=hs.obj a _ hga;have:=bk c' 0 o1;subst this;unfold Aga at hv;simp only at hv
    split at hv
    · rename_i kt es v hg
      have hvv:=ac_ hv;subst hvv;obtain⟨E,l1,l2,cw,⟨L,hp,hL⟩,_⟩:=(o3 kt es v hg).2 rfl;subst cw;obtain⟨cm',E',clock',l1',l2',l3⟩:=hs.obj r _ hg;rw[l1]at l1';cases l1';rw[l2]at l2';cases l2'
      have hit:(getObj c).run P w=.ok (.mapIter (some cm) since seen since) w:=by simp only[getObj,Sem.run,o2]
      have ek:∀e∈E,e.born<since:=fun e he=>l3.born e (by simpa using he)

      have bs:(!seen.isEmpty&& !E.isEmpty&&E.all fun x=>decide (x.born≥since))=false:=by
        rw[bz_];intro h;simp only[ad_]at h;obtain⟨⟨_,h2⟩,h3⟩:=h;cases hE:E[0]? with
        |none=>
          have:E.size=0:=by
            rw[Array.getElem?_eq_none_iff]at hE;omega
          simp at h2
          exact h2 (fe_ this)
        |some e=>
          have hm:e∈E:=Array.mem_of_getElem? hE;rw[Array.all_eq_true_iff_forall_mem]at h3;have h4:=h3 e hm;simp only[decide_eq_true_eq]at h4;have:=ek e hm;omega
      obtain⟨F,hFd⟩:∃F,E.filter (fun e=> !seen.contains e.born)=F:=⟨_,rfl⟩
      have hF:F.toList=E.toList.filter fun e=> !seen.contains e.born:=by rw[←hFd];simp
      have hFE:∀e∈F,e∈E:=fun e he=>by rw[←hFd]at he;exact(Array.mem_filter.1 he).1
      have hold:(F.filter fun e=>decide (e.born<since))=F:=by
        rw[Array.filter_eq_self];intro e he;simpa using ek e (hFE e he)
      have fu:(F.filter fun e=>decide (e.born≥since))=#[]:=by
        rw[Array.filter_eq_empty_iff];intro e he;have:=ek e (hFE e he);simp;omega
      have hgo:∃y w',(Instr.next (.pointer (some ⟨c,0,none⟩)) false ty).run P w=.ok y w'/\
          ((F=#[]/\y=.tuple #[.bool false]/\w'=w)∨∃e dr,e∈F.toList/\y=.tuple #[.bool true,e.key,e.val]/\w'={ w with drawn:=dr,heap:=w.heap.setIfInBounds c (.mapIter (some cm) since (seen.push e.born) since) }):=by
        have cd:∀(dr:Nat) (O:Obj),(setObj c O).run P { w with drawn:=dr }=.ok () { w with drawn:=dr,heap:=w.heap.setIfInBounds c O }:=fun dr O=>by
          simp only[setObj,Sem.run,o2]
        by_cases h0:F=#[]
        · refine⟨.tuple #[.bool false],w,?_,.inl ⟨h0,rfl,rfl⟩⟩
          subst h0;simp only[Instr.next,Sem.run_bind,hit,Result.andThen_ok,Cw l2,bs,bp_,if_false,hFd]
          simp[Question.forced]
        · simp only[Instr.next,Sem.run_bind,hit,Result.andThen_ok,Cw l2,bs,bp_,if_false,hFd,hold,fu]
          have pd:F.isEmpty=false:=by rw[bz_];intro h;exact h0 (by simpa using h)
          have hK:((if F.isEmpty=true then #[none]else #[])++Array.map some (F++#[]))=F.map some:=by rw[pd];simp
          rw[hK]
          have ec:0<(F.map some).size:=by
            simp only[Array.size_map]
            rcases de_ F.size with h1|h1
            · exact absurd (fe_ h1) h0
            · exact h1
          obtain⟨i,dr,hi,hch⟩:=Ah5 (P:=P) w ec;rw[hch];simp only[Array.size_map]at hi
          have cr:(F.map some)[i]? =some (some F[i]):=by simp[hi]
          simp only[Result.andThen_ok,cr,Sem.run_bind,cd,Sem.run_pure]
          exact⟨_,_,rfl,.inr ⟨F[i],dr,by simp,rfl,rfl⟩⟩
      obtain⟨y,w',bq,fh⟩:=hgo;refine⟨y,w',bq,?_⟩
      rcases fh with⟨h0,rfl,rfl⟩|⟨e,dr,he,rfl,rfl⟩
      · rw[←hF,h0]at hp
        have hL0:L=[]:=by simpa using hp
        subst hL0
        have hl0:left=[]:=ce_ (by rw[hL.length];rfl)
        subst hl0
        have hra:r≠a:=fun hh=>by rw[hh,hga]at hg;cases hg
        obtain⟨s1,s2⟩:=Agk (m₁:=some cm) (s₁:=since) (l₁:=since) (seen₁:=seen) (m:=some r) (ver:=v) (left:=[]) (cur:=none) hs hga o1 o2 (fun ex=>by
          refine⟨by rw[Aq];exact hr,c,cm,since,seen,since,o1,(P6 o2 _).here,fun kt₁ es₁ v₁ hg₁=>?_⟩
          rw[aa_,if_neg hra,hg]at hg₁;cases hg₁
          refine⟨nl,fun _=>⟨E,l1,?_,rfl,⟨[],by rw[←hF,h0],by unfold ER;trivial⟩,fun k v hk=>by cases hk⟩⟩
          rw[(P6 o2 _).other cm (fun hh=>by rw[hh,o2]at l2;cases l2)];exact l2)
        have hw:({ w' with heap:=w'.heap.setIfInBounds c (.mapIter (some cm) since seen since) }:World)=w':=by rw[Ly o2]
        rw[hw]at s1 s2;exact⟨s2,.inl ⟨rfl,s1,i5 w'⟩⟩
      · have heL:e∈L:=hp.symm.subset (by rw[←hF];exact he)
        obtain⟨A,B,hLs⟩:=eb_ heL;have hL':=hL;rw[hLs]at hL';obtain⟨la,x,lb,mc,ea,hk,hv',eb⟩:=hL'.mid;obtain⟨F1,F2,hFs⟩:=eb_ he
        have heE:e∈E.toList:=by have:=hFE e (by simpa using he);simpa using this
        have hra:r≠a:=fun hh=>by rw[hh,hga]at hg;cases hg
        obtain⟨t1,t2⟩:=hs.same (w':={ w with drawn:=dr }) nl (fun _ _=>rfl) ⟨rfl,rfl⟩
        obtain⟨s1,s2⟩:=Agk (m₁:=some cm) (s₁:=since) (l₁:=since) (seen₁:=seen.push e.born) (m:=some r) (ver:=v) (left:=la++lb) (cur:=some x) t1 hga o1 o2 (fun ex=>by
          have ex2:=t2.trans ex
          refine⟨by rw[Aq];exact hr,c,cm,since,seen.push e.born,since,o1,(P6 (w:={ w with drawn:=dr }) o2 _).here,fun kt₁ es₁ v₁ hg₁=>?_⟩
          rw[aa_,if_neg hra,hg]at hg₁;cases hg₁;refine⟨nl,fun _=>⟨E,l1,?_,rfl,⟨A++B,?_,?_⟩,fun k y hky=>?_⟩⟩
          · rw[(P6 (w:={ w with drawn:=dr }) o2 _).other cm (fun hh=>by rw[hh,o2]at l2;cases l2)];exact l2
          · have pf:(E.toList.filter fun f=> !(seen.push e.born).contains f.born)=F1++F2:=by
              have h1:(E.toList.filter fun f=> !(seen.push e.born).contains f.born)=F.toList.filter fun f=> !(f.born==e.born):=by
                rw[hF,List.filter_filter]
                congr 1
                funext f
                by_cases hh:f.born=e.born<;>simp[Array.contains_push,hh]
              rw[h1,hFs];refine Akw _ ?_;rw[←hFs,hF];exact(List.filter_sublist.map _).nodup l3.apart
            rw[pf];have hp2:=hp;rw[←hF,hLs,hFs]at hp2;exact(List.perm_middle.symm.trans (hp2.trans List.perm_middle)).cons_inv
          · rw[Aq];exact(ea.append eb).ext ex2
          · cases hky
            exact⟨e,heE,by simp,hk,by rw[Aq];exact R.ext ex2 _ _ hv'⟩)
        refine⟨t2.trans s2,.inr ⟨(x,la++lb),by rw[mc];exact Aei x lb la,s1,?_⟩⟩
        have ex2:=t2.trans s2;unfold R;refine⟨_,rfl,?_⟩;unfold RL
        refine⟨by unfold R;rfl,?_⟩
        unfold RL;refine⟨KV_R hk (l3.typed e heE),?_⟩;unfold RL
        exact⟨R.ext ex2 _ _ hv',by unfold RL;trivial⟩
    · cases hv
end
end Go.AM
