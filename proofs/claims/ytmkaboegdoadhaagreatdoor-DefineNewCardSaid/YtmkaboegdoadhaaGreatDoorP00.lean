/- A part of the proof; shortened by program. -/
import Derived.Orders
set_option maxRecDepth 100000
set_option maxHeartbeats 4000000
set_option linter.unusedSimpArgs false
set_option linter.unusedVariables false
namespace Go.AM
open Go
theorem nl{n:Nat}:n<=n:=Nat.le_refl n
theorem Om{p:Prop}(h:p:=by omega):p:=h
theorem gr{p:Prop}(h:p:=by grind):p:=h
abbrev ab_:=@List.mem_of_getElem?
abbrev ac_:=@Nat.eq_of_beq_eq_true
abbrev ad_:=@Bool.and_eq_true
abbrev ae_:=@List.getElem?_eq_some_iff
abbrev af_:=@Option.some.injEq
abbrev ah_:=@List.drop_eq_nil_of_le
abbrev ai_:=@Nat.le_trans
abbrev aj_:=@List.mem_cons_of_mem
abbrev ak_:=@Nat.lt_of_lt_of_le
abbrev al_:=@Nat.le_of_ble_eq_true
abbrev an_:=@List.mem_cons
abbrev ao_:=@List.mem_singleton
abbrev ap_:=@List.mem_cons_self
abbrev aq_:=@Nat.zero_le
abbrev ar_:=@Nat.ble_eq_true_of_le
abbrev as_:=@List.length_cons
abbrev at_:=@List.take_of_length_le
abbrev au_:=@List.mem_iff_getElem?
abbrev av_:=@Bool.eq_false_or_eq_true
abbrev aw_:=@Nat.beq_refl
abbrev ay_:=@List.cons_append
abbrev az_:=@List.getElem?_eq_getElem
abbrev b_:=@List.all_eq_true
abbrev ba_:=@Prod.mk.injEq
abbrev bb_:=@List.mem_append
abbrev bc_:=@Array.getElem?_eq_some_iff
abbrev bd_:=@List.nil_append
abbrev be_:=@Bool.and_self
abbrev bg_:=@Option.isSome_iff_exists
abbrev bh_:=@List.append_nil
abbrev bi_:=@Bool.not_eq_true'
abbrev bj_:=@List.drop_eq_getElem_cons
abbrev bk_:=@Bool.or_eq_true
abbrev bl_:=@Nat.lt_succ_self
abbrev bm_:=@Int.ofNat_le
abbrev bn_:=@Nat.zero_add
abbrev bo_:=@Array.getD_eq_getD_getElem?
abbrev bp_:=@Bool.false_eq_true
abbrev bq_:=@List.pairwise_cons
abbrev br_:=@List.getElem?_map
abbrev bs_:=@List.flatMap_cons
abbrev bt_:=@List.mem_map
abbrev bu_:=@Int.ofNat_eq_natCast
abbrev bv_:=@Bool.or_eq_false_iff
abbrev bw_:=@Array.getElem?_toList
abbrev bx_:=@List.length_append
abbrev by_:=@Option.some.inj
abbrev bz_:=@Bool.eq_false_iff
abbrev c_:=@Array.toList_map
abbrev ca_:=@List.append_assoc
abbrev cb_:=@List.length_take
abbrev cc_:=@List.take_append_drop
abbrev cd_:=@Array.length_toList
abbrev ce_:=@List.eq_nil_of_length_eq_zero
abbrev cg_:=@List.getElem?_append_left
abbrev ci_:=@Int.ofNat.inj
abbrev cj_:=@List.range'_succ
abbrev cl_:=@List.not_mem_nil
abbrev cm_:=@List.mem_of_mem_take
abbrev cn_:=@List.map_cons
abbrev co_:=@List.map_append
abbrev cp_:=@List.mem_filter
abbrev cq_:=@List.getElem?_cons_succ
abbrev cr_:=@Array.getElem?_setIfInBounds_ne
abbrev cs_:=@List.all_cons
abbrev ct_:=@List.foldl_cons
abbrev cu_:=@List.length_nil
abbrev cv_:=@Array.toList_append
abbrev cw_:=@List.mem_range
abbrev cx_:=@List.length_map
abbrev cy_:=@Option.map_eq_some_iff
abbrev d_:=@List.reverse_cons
abbrev da_:=@List.flatMap_append
abbrev db_:=@List.drop_zero
abbrev dc_:=@List.length_set
abbrev de_:=@Nat.eq_zero_or_pos
abbrev df_:=@Bool.not_eq_false'
abbrev dg_:=@List.mem_append_left
abbrev dh_:=@List.any_cons
abbrev dk_:=@List.nodup_nil
abbrev dl_:=@List.cons.injEq
abbrev dm_:=@Nat.le_succ
abbrev do_:=@List.getElem?_append_right
abbrev dp_:=@List.length_drop
abbrev dq_:=@Array.getElem?_modify
abbrev dr_:=@List.range_eq_range'
abbrev ds_:=@Option.map_some
abbrev dt_:=@List.nodup_append
abbrev du_:=@Nat.min_eq_left
abbrev dv_:=@List.any_eq_false
abbrev dw_:=@Nat.zero_mul
abbrev dy_:=@List.reverse_nil
abbrev e_:=@List.any_eq_true
abbrev ea_:=@List.getElem?_take
abbrev eb_:=@List.append_of_mem
abbrev ed_:=@List.nodup_cons
abbrev ee_:=@List.length_filter_le
abbrev ef_:=@Nat.le_of_eq
abbrev ei_:=@Int.toNat_natCast
abbrev ek_:=@Array.getElem?_append_left
abbrev el_:=@Nat.mul_le_mul_right
abbrev em_:=@Array.getElem?_eq_getElem
abbrev eo_:=@List.drop_drop
abbrev ep_:=@List.drop_length
abbrev eq_:=@List.mem_map_of_mem
abbrev er_:=@List.filter_eq_self
abbrev es_:=@Nat.sub_zero
abbrev ev_:=@List.mem_singleton_self
abbrev ew_:=@Option.isSome_some
abbrev ey_:=@List.length_eq_zero_iff
abbrev ez_:=@Option.bind_eq_some_iff
abbrev f_:=@List.getElem?_set_self
abbrev fc_:=@Bool.not_false
abbrev fd_:=@Nat.add_zero
abbrev fe_:=@Array.eq_empty_of_size_eq_zero
abbrev fg_:=@List.mem_append_right
abbrev fh_:=@List.length_singleton
abbrev fi_:=@List.length_replicate
abbrev fj_:=@List.drop_append_of_le_length
abbrev fk_:=@List.flatMap_nil
abbrev fl_:=@List.mem_of_mem_drop
abbrev fm_:=@List.getElem?_set_ne
abbrev fq_:=@Bool.eq_iff_iff
abbrev fr_:=@Nat.mul_one
abbrev fs_:=@Array.toList_modify
abbrev fv_:=@Array.foldl_toList
abbrev fw_:=@Nat.succ_mul
abbrev fy_:=@List.filter_append
abbrev fz_:=@Nat.add_comm
abbrev g_:=@List.getElem?_drop
abbrev gb_:=@Nat.le_of_lt
abbrev gc_:=@Nat.lt_of_le_of_lt
abbrev gd_:=@List.drop_take
abbrev gl_:=@Bool.or_false
abbrev go_:=@Nat.mod_eq_of_lt
abbrev gp_:=@Option.getD_some
abbrev gq_:=@Option.bind_some
abbrev gr_:=@List.range'_zero
abbrev gs_:=@List.map_nil
abbrev gt_:=@Option.map_none
abbrev gw_:=@Int.natCast_mul
abbrev gx_:=@Ne.symm
abbrev gz_:=@Nat.not_lt_zero
abbrev h_:=@List.mapM_cons
abbrev ha_:=@Nat.add_mul
abbrev hb_:=@Nat.ble_eq
def C7{β:Type}(n:Nat)(k:Nat->β):β:=match n with|0=>k 0|m+1=>k (m+1)
theorem Ak{β}(n)(k:Nat->β):C7 n k=k n:=by cases n<;>rfl
inductive Tr (α:Type) where
 |e
 |n (v:Option α)(l r:Tr α)
def Tr.get{α:Type}:Tr α->Nat->Option α
 |.e,_=>none
 |.n v l r,k=>match k with
  |0=>v
  |k+1=>cond (Nat.beq (k%2) 0) (l.get (k / 2)) (r.get (k / 2))
def Tr.mkL{α:Type}(v:Option α)(l r:Tr α):Tr α:=match l with
 |.e=>.n v .e r
 |.n a b c=>.n v (.n a b c) r
def Tr.mkR{α:Type}(v:Option α)(l r:Tr α):Tr α:=match r with
 |.e=>.n v l .e
 |.n a b c=>.n v l (.n a b c)
def Tr.put{α:Type}:Nat->Tr α->Nat->Option α->Tr α
 |0,t,_,_=>t
 |f+1,.e,k,x=>match k with
  |0=>.n x .e .e
  |k+1=>cond (Nat.beq (k%2) 0) (Tr.mkL none (Tr.put f .e (k / 2) x) .e) (Tr.mkR none .e (Tr.put f .e (k / 2) x))
 |f+1,.n v l r,k,x=>match k with
  |0=>.n x l r
  |k+1=>cond (Nat.beq (k%2) 0) (Tr.mkL v (Tr.put f l (k / 2) x) r) (Tr.mkR v l (Tr.put f r (k / 2) x))
inductive AV where
 |any
 |bool (b:Bool)
 |int (k:IntKind)(n:Int)
 |str (l:List Nat)
 |nil (v:Value)
 |pr (a off:Nat)
 |pv (cs:List AV)
 |sr (a off sz len:Nat)(cap:Option Nat)
 |sv (cs:List AV)(sz len:Nat)(cap:Option Nat)
 |mp (r:Nat)
 |it (r:Nat)
 |stp (a:Nat)
 |yl (a:Nat)
 |flt (k:FloatKind)(bits:Nat)
 |fn (f:Fn)(first cap:List AV)
 |ifc (t:Nat)(v:AV)
 |agg (cs:List AV)
 |tup (vs:List AV)
 deriving Inhabited
def Xl:Value->Bool
 |.pointer none|.slice none 0 0|.map none|.nilFunc|.nilIface=>true
 |_=>false
def B2(s:ByteArray):List Nat:=s.data.toList.map UInt8.toNat
def Af1{β:Type}:List Nat->(List Nat->β)->β
 |[],k=>k []
 |x::r,k=>C7 x fun x=>Af1 r fun r=>k (x::r)
def Yh(v:Value):AV:=
 match v with
 |.bool true=>.bool true
 |.bool false=>.bool false
 |.int k (.ofNat n)=>C7 n fun n=>.int k (.ofNat n)
 |.int k n=>.int k n
 |.string s=>Af1 (B2 s) .str
 |.float k n=>C7 n fun n=>.flt k n
 |v=>cond (Xl v) (.nil v) .any
def Akm:List Value->List AV
 |[]=>[]
 |v::r=>Yh v::Akm r
def Af2:Value->Bool
 |.bool _|.int _ _|.string _|.float _ _=>true
 |v=>Xl v
def Q5:List Value->Bool
 |[]=>true
 |v::r=>Af2 v&&Q5 r
def ofV(v:Value):AV:=
 match v with
 |.agg cs=>cond (Q5 cs.toList) (.agg (Akm cs.toList)) .any
 |.tuple vs=>.tup (Akm vs.toList)
 |.iface t x=>.ifc t (Yh x)
 |.func f a b=>cond (a.isEmpty&&b.isEmpty) (.fn f [] []) .any
 |v=>Yh v
def AV.cellsN(v:AV)(n:Nat):Option (List AV):=
 match v with
 |.any=>none
 |.tup _=>none
 |.agg cs=>cond (Nat.beq cs.length n) (some cs) none
 |v=>cond (Nat.beq n 1) (some [v]) none
inductive Key where
 |bool (b:Bool)
 |int (k:IntKind)(n:Int)
 |str (l:List Nat)
 |agg (cs:List Key)
inductive XE where
 |normal
 |exit (id:Nat)
 |ret
inductive LS where
 |ready
 |busy
 |done (x:XE)
inductive AO where
 |cells (vs:List AV)
 |map (kt:Nat)(es:List (Key×AV))(ver:Nat)
 |iter (m:Option Nat)(ver:Nat)(left:List (Key×AV))(cur:Option (Key×AV))
 |stamp (m ver:Nat)(k:Key)
 |loop (st:LS)
 deriving Inhabited
structure Sto where
 objs:Tr AO
 next:Nat
def nx(σ:Sto):Nat:=match σ with|⟨_,n⟩=>n
def Sto.get(σ:Sto)(a:Nat):Option AO:=match σ with|⟨o,_⟩=>o.get a
def Ty{α β:Type}(t:Tr α)(k:Tr α->β):β:=match t with|.e=>k .e|.n a b c=>k (.n a b c)
def Sto.set(σ:Sto)(a:Nat)(o:AO):Sto:=match σ with|⟨t,n⟩=>Ty (t.put (a+1) a (some o)) fun t=>⟨t,n⟩
def Sto.kill(σ:Sto)(a:Nat):Sto:=match σ with|⟨t,n⟩=>Ty (t.put (a+1) a none) fun t=>⟨t,n⟩
def Sto.new(σ:Sto)(o:AO):Sto:=match σ with|⟨t,n⟩=>Ty (t.put (n+1) n (some o)) fun t=>C7 (n+1) fun n=>⟨t,n⟩
def Sto.cells(σ:Sto)(a:Nat):Option (List AV):=match σ.get a with|some (.cells vs)=>some vs|_=>none
structure TI where
 desc:TypeDesc
 size:Nat
 bytes:Nat
 zero:Option (List AV)
 isAgg:Bool
def Mx:TypeDesc->Bool
 |.struct _|.array _ _=>true
 |_=>false
def Al3(agg:Bool)(z:Option Value):Option (List AV):=
 match z with
 |some z=>match z with
  |.agg cs=>match agg&&Q5 cs.toList with|true=>some (Akm cs.toList)|false=>none
  |v=>match !agg&&Af2 v with|true=>some [Yh v]|false=>none
 |none=>none
def Ay(P:Program)(t:Nat):Option TI:=
 match P.info? t,P.underlying t with
 |some i,some d=>some { desc:=d,size:=i.size,bytes:=i.bytes,zero:=Al3 (Mx d) i.zero,isAgg:=Mx d }
 |_,_=>none
abbrev Res:=Option (AV×Sto)
structure RF where
 aY:Nat
 tm:Tr AV
 nt:Nat
 ps:Array Tmp
 assign:Code
 body:Code
structure St where
 tm:Tr AV
 nt:Nat
 df:List (Nat×List AV)
 sto:Sto
inductive Tgt where
 |fn (f:Nat)
 |yl (a:Nat)
abbrev Hnd:=List AV->Sto->Res
abbrev Rec:=Tgt->Hnd
structure Env where
 P:Program
 gl:Nat->Option (List AV)
 sum:Nat->Option (List AV->Sto->Res)
 dsum:Nat->Option (List AV->Sto->Option Sto)
 byref:Nat->Bool
 hold:Nat->Option (Array Value->Prop):=fun _=>none
 loops:List RF:=[]
 rg:Nat->Bool:=fun _=>false
 pu:Nat->Bool:=fun _=>false
def Et:List AV->Nat->List AV->Option (List AV)
 |l,0,[]=>some l
 |_::r,0,x::xs=>match Et r 0 xs with|some l=>some (x::l)|none=>none
 |y::r,k+1,xs=>match Et r k xs with|some l=>some (y::l)|none=>none
 |_,_,_=>none
def Dr:Nat->List AV->Option (List AV)
 |0,_=>some []
 |n+1,x::r=>match Dr n r with|some l=>some (x::l)|none=>none
 |_+1,[]=>none
def rep(z:List AV):Nat->List AV
 |0=>[]
 |n+1=>z++rep z n
def Ff(ti:TI)(l:List AV):Option AV:=
 match ti.isAgg with
 |true=>match Dr ti.size l with|some cs=>some (.agg cs)|none=>none
 |false=>match l with|v::_=>some v|[]=>none
def Si:List AV->List (Nat×Nat×AV)->Option (List AV)
 |cs,[]=>some cs
 |cs,(off,size,v)::r=>match v.cellsN size with
  |some l=>match Et cs off l with
   |some cs'=>Si cs' r
   |none=>none
  |none=>none
def My:AV->Option Nat
 |.int _ (.ofNat n)=>some n
 |_=>none
def Lh(ti:TI):Option AV:=
 match ti.zero with
 |some z=>match ti.isAgg with|true=>some (.agg z)|false=>match z with|[v]=>some v|_=>none
 |none=>none
def Je(ti:TI)(v:AV):Bool:=match v with
 |.any=>false
 |.tup _=>false
 |.agg cs=>ti.isAgg&&Nat.beq cs.length ti.size
 |_=> !ti.isAgg
def Fm:List Nat->List Nat->Bool
 |[],[]=>true
 |x::r,y::s=>cond (Nat.beq x y) (Fm r s) false
 |_,_=>false
def C8:List Nat->List Nat->Bool
 |_,[]=>false
 |[],_::_=>true
 |a::x,b::y=>cond (Nat.blt a b) true (cond (Nat.beq a b) (C8 x y) false)
def Tz:Int->Int->Bool
 |.ofNat a,.ofNat b=>Nat.beq a b
 |.negSucc a,.negSucc b=>Nat.beq a b
 |_,_=>false
def T1:Int->Int->Bool
 |.ofNat a,.ofNat b=>Nat.ble a b
 |.negSucc a,.negSucc b=>Nat.ble b a
 |.negSucc _,.ofNat _=>true
 |.ofNat _,.negSucc _=>false
def Ed(a b:IntKind):Bool:=match a,b with
 |.i64,.i64=>true
 |.u8,.u8=>true
 |a,b=>decide (a=b)
mutual
def Key.eq:Key->Key->Bool
 |.bool a,.bool b=>cond a b (!b)
 |.int k a,.int k' b=>Ed k k'&&Tz a b
 |.str a,.str b=>Fm a b
 |.agg a,.agg b=>Key.eqs a b
 |_,_=>false
def Key.eqs:List Key->List Key->Bool
 |[],[]=>true
 |x::r,y::s=>cond (Key.eq x y) (Key.eqs r s) false
 |_,_=>false
end
mutual
def Key.lt:Key->Key->Bool
 |.bool a,.bool b=> !a&&b
 |.int _ a,.int _ b=> !T1 b a
 |.str a,.str b=>C8 a b
 |.agg a,.agg b=>Key.lts a b
 |_,_=>false
def Key.lts:List Key->List Key->Bool
 |x::r,y::s=>cond (Key.lt x y) true (cond (Key.eq x y) (Key.lts r s) false)
 |_,_=>false
end
def Akn(d:TypeDesc)(v:AV):Option Key:=
 match d,v with
 |.int j,.int k n=>cond (Ed j k) (some (.int k n)) none
 |.string,.str l=>some (.str l)
 |.bool,.bool b=>some (.bool b)
 |_,_=>none
def Z9(P:Program):List Field->List AV->Option (List Key)
 |[],[]=>some []
 |f::fs,v::vs=>match Ay P f.type with
  |some ti=>match Akn ti.desc v,Z9 P fs vs with
   |some k, some ks=>cond (f.name != "_" &&Nat.beq ti.size 1) (some (k::ks)) none
   |_,_=>none
  |none=>none
 |_,_=>none
def Jz:List Field->Nat->Bool
 |[],_=>true
 |f::fs,i=>Nat.beq f.offset i&&Jz fs (i+1)
def Aqg(P:Program)(fs:List Field)(v:AV):Option Key:=
 match v with
 |.agg cs=>match Z9 P fs cs with|some l=>some (.agg l)|none=>none
 |_=>none
def Ahu(d:TypeDesc):List AV->Option (List Key)
 |[]=>some []
 |v::vs=>match Akn d v,Ahu d vs with
  |some k,some ks=>some (k::ks)
  |_,_=>none
def Aqh(d:TypeDesc)(n:Nat)(v:AV):Option Key:=
 match v with
 |.agg cs=>match Nat.beq cs.length n&& !Nat.beq n 0 with
  |true=>match Ahu d cs with|some l=>some (.agg l)|none=>none
  |false=>none
 |_=>none
def D4(P:Program)(t:Nat)(v:AV):Option Key:=
 match Ay P t with
 |some ti=>match ti.desc with
  |.struct fs=>match Jz fs.toList 0&& !P.stoodInHeld t with
   |true=>Aqg P fs.toList v
   |false=>none
  |.array n e=>match Ay P e with
   |some te=>match Nat.beq te.size 1&& !te.isAgg with
    |true=>Aqh te.desc n v
    |false=>none
   |none=>none
  |d=>Akn d v
 |none=>none
def T2:Key->AV
 |.bool b=>.bool b
 |.int k n=>.int k n
 |.str l=>.str l
 |.agg cs=>.agg (cs.map fun|.bool b=>.bool b|.int k n=>.int k n|.str l=>.str l|.agg _=>.any)
def D5(k:Key):List (Key×AV)->Option AV
 |[]=>none
 |(k',v)::r=>cond (Key.eq k k') (some v) (D5 k r)
def Ph(k:Key)(v:AV):List (Key×AV)->List (Key×AV)
 |[]=>[]
 |(k',v')::r=>cond (Key.eq k k') ((k',v)::r) ((k',v')::Ph k v r)
def Nx(k:Key)(v:AV):List (Key×AV)->List (Key×AV)
 |[]=>[(k,v)]
 |(k',v')::r=>cond (Key.lt k k') ((k,v)::(k',v')::r) ((k',v')::Nx k v r)
def Adh(k:Key):List (Key×AV)->List (Key×AV)
 |[]=>[]
 |(k',v')::r=>cond (Key.eq k k') r ((k',v')::Adh k r)
def Ht{α:Type}:List α->List (α×List α)
 |[]=>[]
 |x::r=>(x,r)::(Ht r).map fun(y,s)=>(y,x::s)
def Li(len:Nat)(cap:Option Nat)(n:Nat):Bool:=cond (Nat.ble n len) true (match cap with|some q=>Nat.ble n q|none=>false)
def Mz(cap:Option Nat)(l:Nat):Option Nat:=match cap with|some q=>some (q-l)|none=>none
def Do(len:Nat)(cap:Option Nat)(lo hi mx:Option AV):Option (Nat×Nat×Option Nat):=
 match(match lo with|none=>some 0|some v=>My v),(match hi with|none=>some len|some v=>My v)with
 |some l,some h=>
  match mx with
  |none=>cond (Nat.ble l h&&Li len cap h) (some (l,h,Mz cap l)) none
  |some mv=>match My mv,hi with
   |some m,some _=>cond (Nat.ble l h&&Nat.ble h m&&Li len cap m) (some (l,h,some (m-l))) none
   |_,_=>none
 |_,_=>none
def Iq:List Nat->List AV
 |[]=>[]
 |b::r=>.int .u8 (.ofNat b)::Iq r
def Atz:List AV->Option (List Nat)
 |[]=>some []
 |.int .u8 (.ofNat n)::r=>match Atz r with|some l=>cond (Nat.blt n 256) (some (n::l)) none|none=>none
 |_=>none
def F9(σ:Sto)(sz:Nat)(v:AV)(n:Nat):Option (List AV):=
 match v with
 |.sr a off _ _ _=>match σ.cells a with|some vs=>Dr (n*sz) (vs.drop off)|none=>none
 |.sv cs _ _ _=>Dr (n*sz) cs
 |.nil (.slice none 0 0)=>match n with|0=>some []|_=>none
 |.str l=>match sz with|1=>Dr n (Iq l)|_=>none
 |_=>none
def lenA:AV->Option Nat
 |.sr _ _ _ len _=>some len
 |.sv _ _ len _=>some len
 |.nil (.slice none 0 0)=>some 0
 |.str l=>some l.length
 |_=>none
def sizeLim:Nat:=1099511627776
def Aaa:Nat:=9223372036854775807
def Ja(sz bytes n:Nat)(new old:List AV)(len:Nat)(σ:Sto):Res:=
 cond (Nat.ble ((len+n)*(bytes+1)) sizeLim) (C7 (len+n) fun m=>some (.sr (nx σ) 0 sz m none,σ.new (.cells (old++new)))) none
def B6(σ:Sto)(sz bytes:Nat)(d:AV)(n:Nat)(new:List AV):Res:=
 match n with
 |0=>match d with
  |.nil (.slice none 0 0)=>some (d,σ)
  |.sv _ _ _ _=>some (d,σ)
  |.sr _ _ _ _ _=>some (d,σ)
  |_=>none
 |n'+1=>match d with
  |.nil (.slice none 0 0)=>Ja sz bytes (n'+1) new [] 0 σ
  |.sv cs sz' len (some q)=>cond (Nat.beq sz' sz&& !Nat.ble (len+(n'+1)) q) (Ja sz bytes (n'+1) new cs len σ) none
  |.sr a off sz' len cap=>cond (Nat.beq sz' sz)
    (match σ.cells a with
    |none=>none
    |some vs=>match Dr (len*sz) (vs.drop off)with
     |none=>none
     |some old=>match cap with
      |some q=>match Nat.ble (len+(n'+1)) q with
       |true=>match Et vs (off+len*sz) new with
        |some vs'=>C7 (len+(n'+1)) fun m=>some (.sr a off sz m (some q),σ.set a (.cells vs'))
        |none=>none
       |false=>Ja sz bytes (n'+1) new old len σ
      |none=>Ja sz bytes (n'+1) new old len (σ.kill a)) none
  |_=>none
def M0(k:IntKind):Int->Bool
 |.ofNat n=>match k with
  |.i64=>Nat.ble n 9223372036854775807
  |.u64=>Nat.ble n 18446744073709551615
  |.u8=>Nat.ble n 255
  |.i32=>Nat.ble n 2147483647
  |.u32=>Nat.ble n 4294967295
  |.i8=>Nat.ble n 127
  |.i16=>Nat.ble n 32767
  |.u16=>Nat.ble n 65535
 |.negSucc n=>match k with
  |.i64=>Nat.ble n 9223372036854775807
  |.i32=>Nat.ble n 2147483647
  |.i8=>Nat.ble n 127
  |.i16=>Nat.ble n 32767
  |_=>false
def Me(k:IntKind)(n:Int):AV:=
 match n with
 |.ofNat m=>C7 m fun m=>cond (M0 k (.ofNat m)) (.int k (.ofNat m)) (.int k (k.wrap (.ofNat m)))
 |.negSucc m=>C7 m fun m=>cond (M0 k (.negSucc m)) (.int k (.negSucc m)) (.int k (k.wrap (.negSucc m)))
def Ako:Int->Int->Int
 |.ofNat a,.ofNat b=>.ofNat (a+b)
 |a,b=>a+b
def Af3:Int->Int->Int
 |.ofNat a,.ofNat b=>cond (Nat.ble b a) (.ofNat (a-b)) (.ofNat a-.ofNat b)
 |a,b=>a-b
def Ic(op:BinOp)(k:IntKind)(a b:Int):Option AV:=
 match op with
 |.add=>some (Me k (Ako a b))
 |.sub=>some (Me k (Af3 a b))
 |.mul=>some (Me k (a*b))
 |.eql=>some (.bool (Tz a b))
 |.neq=>some (.bool (!Tz a b))
 |.leq=>some (.bool (T1 a b))
 |.lss=>some (.bool (!T1 b a))
 |.gtr=>some (.bool (!T1 a b))
 |.geq=>some (.bool (T1 b a))
 |.quo=>match a,b with
  |.ofNat a,.ofNat (b+1)=>some (Me k (.ofNat (a / (b+1))))
  |_,_=>none
 |.rem=>match a,b with
  |.ofNat a,.ofNat (b+1)=>C7 (a%(b+1)) fun m=>some (.int k (.ofNat m))
  |_,_=>none
 |_=>none
def T3(op:BinOp)(a b:List Nat):Option AV:=
 match op with
 |.eql=>some (.bool (Fm a b))
 |.neq=>some (.bool (!Fm a b))
 |.lss=>some (.bool (C8 a b))
 |.leq=>some (.bool (C8 a b||Fm a b))
 |.gtr=>some (.bool (!(C8 a b||Fm a b)))
 |.geq=>some (.bool (!C8 a b))
 |.add=>cond (Nat.ble (a.length+b.length) Aaa) (some (.str (a++b))) none
 |_=>none
def Pm(d:TypeDesc)(x y:AV):Bool:=
 match y with
 |.nil (.slice none 0 0)=>match d,x with|.slice _,.sr _ _ _ _ _=>true|.slice _,.sv _ _ (_+1) _=>true|_,_=>false
 |.nil (.pointer none)=>match d,x with|.pointer _,.pr _ _=>true|.pointer _,.pv _=>true|_,_=>false
 |.nil (.map none)=>match d,x with|.map _ _,.mp _=>true|_,_=>false
 |.nil .nilFunc=>match d,x with|.func _ _ _,.fn _ _ _=>true|_,_=>false
 |.nil .nilIface=>match d,x with|.interface _,.ifc _ _=>true|_,_=>false
 |_=>false
def Q6(d:TypeDesc)(x y:AV):Bool:=
 match d,x,y with
 |.slice _,.nil (.slice none 0 0),.nil (.slice none 0 0)=>true
 |.pointer _,.nil (.pointer none),.nil (.pointer none)=>true
 |.map _ _,.nil (.map none),.nil (.map none)=>true
 |.func _ _ _,.nil .nilFunc,.nil .nilFunc=>true
 |.interface _,.nil .nilIface,.nil .nilIface=>true
 |_,_,_=>false
def Ad7(d:TypeDesc)(x y:AV):Option Bool:=
 cond (Q6 d x y) (some true) (cond (Pm d x y||Pm d y x) (some false) none)
def Cm:Operand->Bool
 |.const _=>true
 |_=>false
def Pn(P:Program)(t:Nat)(x y:AV):Option Bool:=
 match x,y with
 |.agg l,.agg m=>match D4 P t (.agg l),D4 P t (.agg m)with
  |some a,some b=>some (Key.eq a b)
  |_,_=>none
 |_,_=>none
def Ir(P:Program)(ti:TI)(t:Nat)(cst:Bool)(x y:AV):Option Bool:=
 match cond cst (Ad7 ti.desc x y) none with
 |some b=>some b
 |none=>Pn P t x y
def isOrd(o:Option Ordering)(x:Ordering):Bool:=match o,x with
 |some .lt,.lt=>true
 |some .eq,.eq=>true
 |some .gt,.gt=>true
 |_,_=>false
def fltRes(k:FloatKind)(r:Option Nat):Option AV:=match r with|some n=>C7 n fun n=>some (.flt k n)|none=>none
def Aqi(op:BinOp)(k:FloatKind)(a b:Nat):Option AV:=none
def Wb(P:Program)(op:BinOp)(t:Nat)(cst:Bool)(x y:AV):Option AV:=
 match Ay P t with
 |some ti=>match x,y with
  |.int k a,.int k' b=>cond (Ed k k') (Ic op k a b) none
  |.str a,.str b=>T3 op a b
  |.flt k a,.flt k' b=>match decide (k=k')with|true=>Aqi op k a b|false=>none
  |.bool a,.bool b=>match op,ti.desc with
   |.eql,.bool=>some (.bool (cond a b (!b)))
   |.neq,.bool=>some (.bool (!cond a b (!b)))
   |_,_=>none
  |x,y=>match op with
   |.eql=>match Ir P ti t cst x y with
    |some b=>some (.bool b)
    |none=>none
   |.neq=>match Ir P ti t cst x y with
    |some b=>some (.bool (!b))
    |none=>none
   |_=>none
 |none=>none
def unA(op:UnOp)(x:AV):Option AV:=
 match op,x with
 |.not,.bool b=>some (.bool (!b))
 |.neg,.int k n=>some (Me k (Af3 0 n))
 |_,_=>none
def Po(x:AV)(n:Nat):Option AV:=
 match x with
 |.pr a off=>C7 (off+n) fun o=>some (.pr a o)
 |.pv cs=>some (.pv (cs.drop n))
 |_=>none
def opd(E:Env)(tm:Tr AV):Operand->AV
 |.tmp t=>match tm.get t with|some v=>v|none=>.any
 |.const v=>ofV v
 |.global g=>match E.gl g with|some cs=>.pv cs|none=>.any
 |.func f=>.fn (.func f) [] []
def opds(E:Env)(tm:Tr AV):List Operand->List AV
 |[]=>[]
 |x::r=>opd E tm x::opds E tm r
def opdO(E:Env)(tm:Tr AV):Option Operand->Option AV
 |none=>none
 |some x=>some (opd E tm x)
def Ad8(c a b:AV)(σ:Sto):Res:=match c with
 |.bool true=>some (a,σ)
 |.bool false=>some (b,σ)
 |_=>none
def Jf(x:AV)(σ:Sto):Res:=match x with
 |.pr a off=>some (.pr a off,σ)
 |.pv cs=>some (.pv cs,σ)
 |.fn (.func f) p q=>some (.fn (.func f) p q,σ)
 |_=>none
def Aab(z:List AV)(σ:Sto):Res:=some (.pr (nx σ) 0,σ.new (.cells z))
def sBox(size:Nat)(x:AV)(σ:Sto):Res:=match x.cellsN size with
 |some cs=>some (.pr (nx σ) 0,σ.new (.cells cs))
 |none=>none
def Js(P:Program)(E:Env)(tm:Tr AV)(fs:List Field):List (Nat×Operand)->Option (List (Nat×Nat×AV))
 |[]=>some []
 |(i,x)::r=>match fs[i]?,Js P E tm fs r with
  |some f,some l=>match Ay P f.type with
   |some ti=>some ((f.offset,ti.size,opd E tm x)::l)
   |none=>none
  |_,_=>none
def Q7(P:Program):List Field->Bool
 |[]=>true
 |f::r=>match P.info? f.type with|some _=>Q7 P r|none=>false
def Is(E:Env)(tm:Tr AV)(size:Nat):List (Nat×Operand)->List (Nat×Nat×AV)
 |[]=>[]
 |(i,x)::r=>(i*size,size,opd E tm x)::Is E tm size r
def M2(z:List AV)(ps:List (Nat×Nat×AV))(σ:Sto):Res:=match Si z ps with
 |some cs=>some (.agg cs,σ)
 |none=>none
def Id(z:List AV)(size len:Nat)(byref:Bool)(ps:List (Nat×Nat×AV))(σ:Sto):Res:=match Si (rep z len) ps with
 |some cs=>match byref with
  |true=>some (.sr (nx σ) 0 size len (some len),σ.new (.cells cs))
  |false=>some (.sv cs size len (some len),σ)
 |none=>none
def Na(ti:TI)(x:AV)(σ:Sto):Res:=match x with
 |.pr a off=>match σ.cells a with
  |some vs=>match Ff ti (vs.drop off)with|some v=>some (v,σ)|none=>none
  |none=>none
 |.pv cs=>match Ff ti cs with|some v=>some (v,σ)|none=>none
 |_=>none
def An:AV:=.tup []
def Wc(size:Nat)(x v:AV)(σ:Sto):Res:=match x,v.cellsN size with
 |.pr a off,some l=>match σ.cells a with
  |some vs=>match Et vs off l with
   |some vs'=>some (An,σ.set a (.cells vs'))
   |none=>none
  |none=>none
 |_,_=>none
def Sx(r:Option AV)(σ:Sto):Res:=match r with|some v=>some (v,σ)|none=>none
def Pp(k:IntKind)(x:AV)(σ:Sto):Res:=match x with
 |.int _ n=>some (Me k n,σ)
 |_=>none
def Aac(k:FloatKind)(x:AV)(σ:Sto):Res:=none
def T4(x:AV)(σ:Sto):Res:=match x with
 |.str l=>some (.str l,σ)
 |_=>none
def Kx(x:AV)(σ:Sto):Res:=match x with
 |.str l=>match l with
  |[]=>some (.sv [] 1 0 none,σ)
  |l=>some (.sv (Iq l) 1 l.length none,σ)
 |_=>none
def Ad9:AV->Bool
 |.str _=>false
 |_=>true
def Ny(x:AV)(σ:Sto):Res:=none
def Aad(x:AV)(σ:Sto):Res:=some (x,σ)
def sIfc(t:Nat)(x:AV)(σ:Sto):Res:=some (.ifc t x,σ)
def Al4(f:Fn)(a b:List AV)(σ:Sto):Res:=some (.fn f a b,σ)
def T5(kt:Nat)(σ:Sto):Res:=some (.mp (nx σ),σ.new (.map kt [] 0))
def We(kt:Nat)(x:AV)(σ:Sto):Res:=match x with
 |.int _ _=>some (.mp (nx σ),σ.new (.map kt [] 0))
 |_=>none
def Nz(z:List AV)(size bytes:Nat)(l c:AV)(σ:Sto):Res:=match l,c with
 |.int .i64 (.ofNat l),.int .i64 (.ofNat c)=>cond (Nat.ble l c&&Nat.ble (c*(bytes+1)) sizeLim)
   (some (.sr (nx σ) 0 size l (some c),σ.new (.cells (rep z c)))) none
 |_,_=>none
def Nb(x:AV)(lo hi:Option AV)(σ:Sto):Res:=match x with
 |.str l=>match Do l.length (some l.length) lo hi none with
  |some (a,b,_)=>some (.str ((l.take b).drop a),σ)
  |none=>none
 |_=>none
def Lj(size:Nat)(x:AV)(lo hi mx:Option AV)(σ:Sto):Res:=match x with
 |.sr a off sz len cap=>match Nat.beq sz size with
  |true=>match Do len cap lo hi mx with
   |some (l,h,c)=>C7 (off+l*sz) fun o=>C7 (h-l) fun m=>some (.sr a o sz m c,σ)
   |none=>none
  |false=>none
 |.sv cs sz len cap=>match Nat.beq sz size with
  |true=>match Do len cap lo hi mx with
   |some (l,h,c)=>match Dr ((h-l)*sz) (cs.drop (l*sz))with
    |some cs'=>C7 (h-l) fun m=>some (.sv cs' sz m c,σ)
    |none=>none
   |none=>none
  |false=>none
 |.nil (.slice none 0 0)=>match Do 0 (some 0) lo hi mx with
  |some _=>some (.nil (.slice none 0 0),σ)
  |none=>none
 |_=>none
def Wf(n size:Nat)(x:AV)(lo hi mx:Option AV)(σ:Sto):Res:=none
def Aqj(n:Nat)(x:AV)(σ:Sto):Res:=match Po x n with|some v=>some (v,σ)|none=>none
def Af4(ti:TI)(off:Nat)(x:AV)(σ:Sto):Res:=match x with
 |.agg cs=>match Ff ti (cs.drop off)with|some v=>some (v,σ)|none=>none
 |_=>none
def Gt(size:Nat)(x i:AV)(σ:Sto):Res:=match i with
 |.int _ (.ofNat n)=>match x with
  |.sr a off _ len _=>cond (Nat.blt n len) (C7 (off+n*size) fun o=>some (.pr a o,σ)) none
  |.sv cs _ len _=>cond (Nat.blt n len) (some (.pv (cs.drop (n*size)),σ)) none
  |_=>none
 |_=>none
def E6(len size:Nat)(x i:AV)(σ:Sto):Res:=match i with
 |.int _ (.ofNat n)=>cond (Nat.blt n len) (match Po x (n*size)with|some v=>some (v,σ)|none=>none) none
 |_=>none
def Lc(x i:AV)(σ:Sto):Res:=match x,i with
 |.str l,.int _ (.ofNat n)=>match l[n]? with
  |some b=>some (.int .u8 (.ofNat b),σ)
  |none=>none
 |_,_=>none
def Le(te:TI)(len:Nat)(x i:AV)(σ:Sto):Res:=match x,i with
 |.agg cs,.int _ (.ofNat n)=>cond (Nat.blt n len) (match Ff te (cs.drop (n*te.size))with|some v=>some (v,σ)|none=>none) none
 |_,_=>none
def Aae(ok:Bool)(v:AV)(b:Bool):AV:=match ok with|true=>.tup [v,.bool b]|false=>v
def Ky(kt:Nat)(key:Option Key)(z:AV)(ok:Bool)(m:AV)(σ:Sto):Res:=match key with
 |some kv=>match m with
  |.mp r=>match σ.get r with
   |some (.map kt' es _)=>match Nat.beq kt' kt with
    |true=>match D5 kv es with
     |some v=>some (Aae ok v true,σ)
     |none=>some (Aae ok z false,σ)
    |false=>none
   |_=>none
  |.nil (.map none)=>some (Aae ok z false,σ)
  |_=>none
 |none=>none
def N1(kt:Nat)(key:Option Key)(te:TI)(m v:AV)(σ:Sto):Res:=match key,m with
 |some kv,.mp r=>match σ.get r with
  |some (.map kt' es ver)=>match Nat.beq kt' kt&&Je te v with
   |true=>match D5 kv es with
    |some _=>C7 (ver+1) fun w=>some (An,σ.set r (.map kt (Ph kv v es) w))
    |none=>C7 (ver+1) fun w=>some (An,σ.set r (.map kt (Nx kv v es) w))
   |false=>none
  |_=>none
 |_,_=>none
def Q8(kt:Nat)(key:Option Key)(z:AV)(m:AV)(σ:Sto):Res:=match key,m with
 |some kv,.mp r=>match σ.get r with
  |some (.map kt' es ver)=>match Nat.beq kt' kt with
   |true=>C7 (ver+1) fun w=>match D5 kv es with
    |some v=>some (.tup [v,.stp (nx σ)],(σ.set r (.map kt es w)).new (.stamp r w kv))
    |none=>some (.tup [z,.stp (nx σ)],(σ.set r (.map kt (Nx kv z es) w)).new (.stamp r w kv))
   |false=>none
  |_=>none
 |_,_=>none
def Mf(te:TI)(m st v:AV)(σ:Sto):Res:=match m,st with
 |.mp r,.stp a=>match σ.get a,σ.get r with
  |some (.stamp r' w kv),some (.map kt es w')=>match Nat.beq r r'&&Nat.beq w w'&&Je te v with
   |true=>match D5 kv es with
    |some _=>C7 (w+1) fun w=>some (An,σ.set r (.map kt (Ph kv v es) w))
    |none=>none
   |false=>none
  |_,_=>none
 |_,_=>none
def Af5(x:AV)(σ:Sto):Res:=match x with
 |.nil (.map none)=>some (.it (nx σ),σ.new (.iter none 0 [] none))
 |.mp r=>match σ.get r with
  |some (.map _ es ver)=>some (.it (nx σ),σ.new (.iter (some r) ver es none))
  |_=>none
 |_=>none
def Aaf(x:AV)(σ:Sto):Res:=match x with
 |.it a=>match σ.get a with
  |some (.iter (some r) ver _ (some (k,v)))=>match σ.get r with
   |some (.map _ _ ver')=>cond (Nat.beq ver ver') (some (.tup [T2 k,v],σ)) none
   |_=>none
  |_=>none
 |_=>none
def Nc(i:Nat)(x:AV)(σ:Sto):Res:=match x with
 |.tup vs=>match vs[i]? with
  |some v=>some (v,σ)
  |none=>none
 |_=>none
def Zr(t:Nat)(z:Option AV)(ok:Bool)(x:AV)(σ:Sto):Res:=none
def sLen(x:AV)(σ:Sto):Res:=match x with
 |.sr _ _ _ len _=>some (.int .i64 (.ofNat len),σ)
 |.sv _ _ len _=>some (.int .i64 (.ofNat len),σ)
 |.nil (.slice none 0 0)=>some (.int .i64 0,σ)
 |_=>none
def Zt(x:AV)(σ:Sto):Res:=match x with
 |.str l=>C7 l.length fun n=>some (.int .i64 (.ofNat n),σ)
 |_=>none
def T6(x:AV)(σ:Sto):Res:=match x with
 |.mp r=>match σ.get r with
  |some (.map _ es _)=>C7 es.length fun n=>some (.int .i64 (.ofNat n),σ)
  |_=>none
 |.nil (.map none)=>some (.int .i64 0,σ)
 |_=>none
def Kj(x:AV)(σ:Sto):Res:=match x with
 |.sr _ _ _ _ (some q)=>some (.int .i64 (.ofNat q),σ)
 |.sv _ _ _ (some q)=>some (.int .i64 (.ofNat q),σ)
 |.nil (.slice none 0 0)=>some (.int .i64 0,σ)
 |_=>none
def T7(size bytes:Nat)(d s:AV)(σ:Sto):Res:=match lenA s with
 |some n=>match F9 σ size s n with
  |some new=>B6 σ size bytes d n new
  |none=>none
 |none=>none
def T8(z:List AV)(size bytes:Nat)(d s:AV)(σ:Sto):Res:=match s with
 |.int .i64 (.ofNat n)=>cond (Nat.ble (n*(bytes+1)) sizeLim) (B6 σ size bytes d n (rep z n)) none
 |_=>none
def Q9(x:AV)(σ:Sto):Res:=match x with
 |.mp r=>match σ.get r with
  |some (.map kt _ ver)=>C7 (ver+1) fun w=>some (An,σ.set r (.map kt [] w))
  |_=>none
 |.nil (.map none)=>some (An,σ)
 |_=>none
def Af6(z:List AV)(size:Nat)(x:AV)(σ:Sto):Res:=match x with
 |.sr a off sz len _=>match Nat.beq sz size,σ.cells a with
  |true,some vs=>match Et vs off (rep z len)with
   |some vs'=>some (An,σ.set a (.cells vs'))
   |none=>none
  |_,_=>none
 |.nil (.slice none 0 0)=>some (An,σ)
 |.sv _ _ 0 _=>some (An,σ)
 |_=>none
def Aqk(size:Nat)(d s:AV)(σ:Sto):Res:=none
def Af7(kt:Nat)(key:Option Key)(m:AV)(σ:Sto):Res:=match key,m with
 |some kv,.mp r=>match σ.get r with
  |some (.map kt' es ver)=>match Nat.beq kt' kt with
   |true=>C7 (ver+1) fun w=>some (An,σ.set r (.map kt (Adh kv es) w))
   |false=>none
  |_=>none
 |some _,.nil (.map none)=>some (An,σ)
 |_,_=>none
def Aag(a b:Int):Int:=cond (T1 a b) a b
def Ll(a b:Int):Int:=cond (T1 b a) a b
def Xm(f:Int->Int->Int)(x y:AV)(σ:Sto):Res:=match x,y with
 |.int k a,.int k' b=>cond (Ed k k') (some (.int k (f a b),σ)) none
 |_,_=>none
def Al5(x y z:AV)(σ:Sto):Res:=match x,y,z with
 |.int k a,.int k' b,.int k'' c=>cond (Ed k k'&&Ed k k'') (some (.int k (Ll (Ll a b) c),σ)) none
 |_,_,_=>none
def Ee(E:Env)(b:Builtin)(ti:TI)(ts:List Nat)(x:AV)(xs:List AV)(σ:Sto):Res:=
 match b with
 |.len=>match ti.desc with
  |.slice _=>sLen x σ
  |.string=>Zt x σ
  |.map _ _=>T6 x σ
  |.array n _=>some (.int .i64 (.ofNat n),σ)
  |_=>none
 |.cap=>match ti.desc with
  |.slice _=>Kj x σ
  |_=>none
 |.clear=>match ti.desc with
  |.map _ _=>Q9 x σ
  |.slice e=>match Ay E.P e with
   |some te=>match te.zero with
    |some z=>match Nat.beq z.length te.size with
     |true=>Af6 z te.size x σ
     |false=>none
    |none=>none
   |none=>none
  |_=>none
 |.append=>match ti.desc,ts,xs with
  |.slice e,t2::_,y::_=>match Ay E.P e,Ay E.P t2 with
   |some te,some tx=>match te.zero with
    |some z=>match Nat.beq z.length te.size with
     |true=>match tx.desc with
      |.slice _=>T7 te.size te.bytes x y σ
      |.string=>T7 te.size te.bytes x y σ
      |.int _=>T8 z te.size te.bytes x y σ
      |_=>none
     |false=>none
    |none=>none
   |_,_=>none
  |_,_,_=>none
 |.copy=>match ti.desc,xs with
  |.slice e,y::_=>match Ay E.P e with
   |some te=>Aqk te.size x y σ
   |none=>none
  |_,_=>none
 |.delete=>match ti.desc,xs with
  |.map kt _,y::_=>Af7 kt (D4 E.P kt y) x σ
  |_,_=>none
 |.min=>match xs with
  |[y]=>Xm Aag x y σ
  |_=>none
 |.max=>match xs with
  |[y]=>Xm Ll x y σ
  |[y,z]=>Al5 x y z σ
  |_=>none
 |_=>none
def Aw(E:Env)(op:Op)(tm:Tr AV)(σ:Sto):Res:=
 match op with
 |.move x=>Aad (opd E tm x) σ
 |.assign x=>Aad (opd E tm x) σ
 |.pick c a b=>Ad8 (opd E tm c) (opd E tm a) (opd E tm b) σ
 |.nilCheck x=>Jf (opd E tm x) σ
 |.alloc t=>match Ay E.P t with
  |some ti=>match ti.zero with|some z=>Aab z σ|none=>none
  |none=>none
 |.box t x=>match Ay E.P t with
  |some ti=>sBox ti.size (opd E tm x) σ
  |none=>none
 |.build t parts=>match Ay E.P t with
  |some ti=>match ti.zero,ti.desc with
   |some z,.struct fs=>match Q7 E.P fs.toList,Js E.P E tm fs.toList parts.toList with
    |true,some ps=>M2 z ps σ
    |_,_=>none
   |some z,.array _ e=>match Ay E.P e with
    |some te=>M2 z (Is E tm te.size parts.toList) σ
    |none=>none
   |_,_=>none
  |none=>none
 |.buildSlice t len parts=>match Ay E.P t with
  |some ti=>match ti.desc with
   |.slice e=>match Ay E.P e with
    |some te=>match te.zero with
     |some z=>match Nat.ble (len*te.size) 16777216&&Nat.beq z.length te.size with
      |true=>Id z te.size len (E.byref e) (Is E tm te.size parts.toList) σ
      |false=>none
     |none=>none
    |none=>none
   |_=>none
  |none=>none
 |.load t x=>match Ay E.P t with
  |some ti=>Na ti (opd E tm x) σ
  |none=>none
 |.store t x v=>match Ay E.P t with
  |some ti=>Wc ti.size (opd E tm x) (opd E tm v) σ
  |none=>none
 |.binOp op t x y _=>Sx (Wb E.P op t (Cm x||Cm y) (opd E tm x) (opd E tm y)) σ
 |.unOp op _ x=>Sx (unA op (opd E tm x)) σ
 |.convert s d x=>match Ay E.P s,Ay E.P d with
  |some ts,some td=>match td.desc with
   |.int k=>Pp k (opd E tm x) σ
   |.float k=>Aac k (opd E tm x) σ
   |.string=>match ts.desc with
    |.string=>T4 (opd E tm x) σ
    |.slice e=>match Ay E.P e with
     |some te=>match te.desc with
      |.int .u8=>Ny (opd E tm x) σ
      |_=>none
     |none=>none
    |_=>none
   |.slice e=>match ts.desc,Ay E.P e with
    |.string,some te=>match te.desc with
     |.int .u8=>Kx (opd E tm x) σ
     |_=>none
    |_,_=>none
   |_=>none
  |_,_=>none
 |.makeInterface t x=>match Ay E.P t with
  |some ti=>match ti.desc with
   |.interface _=>none
   |_=>sIfc t (opd E tm x) σ
  |none=>none
 |.makeFunc f first captured=>Al4 f (opds E tm first.toList) (opds E tm captured.toList) σ
 |.makeMap t r=>match Ay E.P t with
  |some ti=>match ti.desc,r with
   |.map kt _,none=>T5 kt σ
   |.map kt _,some h=>We kt (opd E tm h) σ
   |_,_=>none
  |none=>none
 |.makeSlice t l c=>match Ay E.P t with
  |some ti=>match ti.desc with
   |.slice e=>match Ay E.P e with
    |some te=>match te.zero with
     |some z=>match Nat.beq z.length te.size with
      |true=>Nz z te.size te.bytes (opd E tm l) (opd E tm c) σ
      |false=>none
     |none=>none
    |none=>none
   |_=>none
  |none=>none
 |.slice t x lo hi mx=>match Ay E.P t with
  |some ti=>match ti.desc with
   |.string=>match mx with|none=>Nb (opd E tm x) (opdO E tm lo) (opdO E tm hi) σ|some _=>none
   |.slice e=>match Ay E.P e with
    |some te=>Lj te.size (opd E tm x) (opdO E tm lo) (opdO E tm hi) (opdO E tm mx) σ
    |none=>none
   |.array n ee=>match Ay E.P ee with
    |some te=>Wf n te.size (opd E tm x) (opdO E tm lo) (opdO E tm hi) (opdO E tm mx) σ
    |none=>none
   |_=>none
  |none=>none
 |.fieldAddr t x i=>match Ay E.P t with
  |some ti=>match ti.desc with
   |.struct fs=>match fs.toList[i]? with
    |some f=>match Ay E.P f.type with
     |some tf=>match tf.size with
      |0=>none
      |_+1=>Aqj f.offset (opd E tm x) σ
     |none=>none
    |none=>none
   |_=>none
  |none=>none
 |.field t x i=>match Ay E.P t with
  |some ti=>match ti.desc with
   |.struct fs=>match fs.toList[i]? with
    |some f=>match Ay E.P f.type with
     |some tf=>Af4 tf f.offset (opd E tm x) σ
     |none=>none
    |none=>none
   |_=>none
  |none=>none
 |.indexAddr t x i=>match Ay E.P t with
  |some ti=>match ti.desc with
   |.slice e=>match Ay E.P e with
    |some te=>Gt te.size (opd E tm x) (opd E tm i) σ
    |none=>none
   |.array len e=>match Ay E.P e with
    |some te=>E6 len te.size (opd E tm x) (opd E tm i) σ
    |none=>none
   |_=>none
  |none=>none
 |.index t x i=>match Ay E.P t with
  |some ti=>match ti.desc with
   |.string=>Lc (opd E tm x) (opd E tm i) σ
   |.array len e=>match Ay E.P e with
    |some te=>Le te len (opd E tm x) (opd E tm i) σ
    |none=>none
   |_=>none
  |none=>none
 |.lookup t m k ok=>match Ay E.P t with
  |some ti=>match ti.desc with
   |.map kt et=>match Ay E.P et with
    |some te=>match Lh te with
     |some z=>Ky kt (D4 E.P kt (opd E tm k)) z ok (opd E tm m) σ
     |none=>none
    |none=>none
   |_=>none
  |none=>none
 |.mapUpdate t m k v=>match Ay E.P t with
  |some ti=>match ti.desc with
   |.map kt et=>match Ay E.P et with
    |some te=>N1 kt (D4 E.P kt (opd E tm k)) te (opd E tm m) (opd E tm v) σ
    |none=>none
   |_=>none
  |none=>none
 |.mapEntry t m k=>match Ay E.P t with
  |some ti=>match ti.desc with
   |.map kt et=>match Ay E.P et with
    |some te=>match Lh te with
     |some z=>Q8 kt (D4 E.P kt (opd E tm k)) z (opd E tm m) σ
     |none=>none
    |none=>none
   |_=>none
  |none=>none
 |.entryStore t m st v=>match Ay E.P t with
  |some ti=>match ti.desc with
   |.map _ et=>match Ay E.P et with
    |some te=>Mf te (opd E tm m) (opd E tm st) (opd E tm v) σ
    |none=>none
   |_=>none
  |none=>none
 |.range t x=>match Ay E.P t with
  |some ti=>match ti.desc with
   |.map _ _=>Af5 (opd E tm x) σ
   |_=>none
  |none=>none
 |.entry x=>Aaf (opd E tm x) σ
 |.extract x i=>Nc i (opd E tm x) σ
 |.typeAssert x _ t ok=>match Ay E.P t with
  |some ti=>match ti.desc with
   |.interface _=>none
   |_=>Zr t (Lh ti) ok (opd E tm x) σ
  |none=>none
 |.call c=>match c.callee with
  |.builtin b=>match c.argTypes.toList,c.args.toList with
   |t::ts,x::xs=>match Ay E.P t with
    |some ti=>Ee E b ti ts (opd E tm x) (opds E tm xs) σ
    |none=>none
   |_,_=>none
  |_=>none
 |_=>none
inductive Cls where
 |pure|read|eff
 deriving DecidableEq
def Bc(E:Env):Op->Cls
 |.move _|.assign _|.pick .. |.nilCheck _|.build .. |.fieldAddr .. |.field .. |.indexAddr .. |.index .. |.binOp .. |.unOp .. |.makeInterface .. |.makeFunc .. |.extract .. |.typeAssert .. =>.pure
 |.slice t _ _ _ _=>match Ay E.P t with
  |some ti=>match ti.desc with
   |.array _ _=>.read
   |_=>.pure
  |none=>.read
 |.load .. |.lookup .. |.entry _|.convert .. =>.read
 |.buildSlice t _ _=>match Ay E.P t with
  |some ti=>match ti.desc with
   |.slice e=>match E.byref e with|true=>.eff|false=>.pure
   |_=>.eff
  |none=>.eff
 |.call c=>match c.callee with
  |.builtin .len=>.read
  |.builtin .cap=>.pure
  |.builtin .min=>.pure
  |.builtin .max=>.pure
  |.value (.func f)=>match E.pu f with|true=>.pure|false=>.eff
  |_=>.eff
 |_=>.eff
def Ks:Nat:=4294967295
def Ka(d:Option Nat)(tm:Tr AV)(nt:Nat)(v:AV):Option (Tr AV):=
 match d with
 |none=>some tm
 |some d=>cond (Nat.blt d nt) (Ty (tm.put (d+1) d (some v)) some) none
def Akp(a b:Value):Bool:=
 match a,b with
 |.pointer none,.pointer none=>true
 |.slice none 0 0,.slice none 0 0=>true
 |.map none,.map none=>true
 |.nilFunc,.nilFunc=>true
 |.nilIface,.nilIface=>true
 |_,_=>false
def Aql:Fn->Fn->Bool
 |.func a,.func b=>Nat.beq a b
 |_,_=>false
def Af8(a b:Option Nat):Bool:=match a,b with|none,none=>true|some x,some y=>Nat.beq x y|_,_=>false
mutual
def AV.beq:AV->AV->Bool
 |.any,.any=>true
 |.bool a,.bool b=>cond a b (!b)
 |.int k a,.int k' b=>Ed k k'&&Tz a b
 |.str a,.str b=>Fm a b
 |.nil a,.nil b=>Akp a b
 |.pr a o,.pr b p=>Nat.beq a b&&Nat.beq o p
 |.pv l,.pv m=>AV.beqs l m
 |.sr a o s n c,.sr b p t m d=>Nat.beq a b&&Nat.beq o p&&Nat.beq s t&&Nat.beq n m&&Af8 c d
 |.sv l s n c,.sv m t k d=>AV.beqs l m&&Nat.beq s t&&Nat.beq n k&&Af8 c d
 |.mp a,.mp b=>Nat.beq a b
 |.it a,.it b=>Nat.beq a b
 |.stp a,.stp b=>Nat.beq a b
 |.yl a,.yl b=>Nat.beq a b
 |.flt k a,.flt k' b=>decide (k=k')&&Nat.beq a b
 |.fn f a b,.fn h c d=>Aql f h&&AV.beqs a c&&AV.beqs b d
 |.ifc t a,.ifc u b=>Nat.beq t u&&AV.beq a b
 |.agg l,.agg m=>AV.beqs l m
 |.tup l,.tup m=>AV.beqs l m
 |_,_=>false
def AV.beqs:List AV->List AV->Bool
 |[],[]=>true
 |x::r,y::s=>AV.beq x y&&AV.beqs r s
 |_,_=>false
end
def AV.join(a b:AV):AV:=cond (AV.beq a b) a .any
def Aea:List AV->List AV->Option (List AV)
 |[],[]=>some []
 |x::r,y::s=>match Aea r s with|some l=>some (AV.join x y::l)|none=>none
 |_,_=>none
def Aqm:List (Key×AV)->List (Key×AV)->Option (List (Key×AV))
 |[],[]=>some []
 |(k,x)::r,(l,y)::s=>cond (Key.eq k l) (match Aqm r s with|some t=>some ((k,AV.join x y)::t)|none=>none) none
 |_,_=>none
def joinO:AO->AO->Option AO
 |.cells a,.cells b=>match Aea a b with|some l=>some (.cells l)|none=>none
 |.map k a v,.map l b w=>cond (Nat.beq v w&&Nat.beq k l) (match Aqm a b with|some l=>some (.map k l v)|none=>none) none
 |_,_=>none
def Aah:Tr AV->Tr AV->Tr AV
 |.n (some x) l r,.n (some y) l' r'=>.n (some (AV.join x y)) (Aah l l') (Aah r r')
 |.n _ l r,.n _ l' r'=>.n none (Aah l l') (Aah r r')
 |_,_=>.e
def Pq:Tr AO->Tr AO->Tr AO
 |.n (some x) l r,.n (some y) l' r'=>.n (joinO x y) (Pq l l') (Pq r r')
 |.n _ l r,.n _ l' r'=>.n none (Pq l l') (Pq r r')
 |_,_=>.e
def At0(a b:Sto):Option Sto:=cond (Nat.beq a.next b.next) (some ⟨Pq a.objs b.objs,a.next⟩) none
def joinSt(a b:St):Option St:=
 match a.df,b.df with
 |[],[]=>cond (Nat.beq a.nt b.nt) (match At0 a.sto b.sto with|some σ=>some ⟨Aah a.tm b.tm,a.nt,[],σ⟩|none=>none) none
 |_,_=>none
def XE.beq:XE->XE->Bool
 |.normal,.normal=>true
 |.exit a,.exit b=>Nat.beq a b
 |.ret,.ret=>true
 |_,_=>false
def Ra:Op->Bool
 |.defer _=>true
 |_=>false
def D6(l:List Oper):Bool:=l.all fun o=> !Ra o.op
def Ln:Code->Bool
 |.region _ ops _=>D6 ops.toList
 |.seq a b=>Ln a&&Ln b
 |.cond _ a b=>Ln a&&Ln b
 |.block _ a=>Ln a
 |.loop a=>Ln a
 |.scope a=>Ln a
 |_=>true
def Bn(ops:List Oper)(o:Oper)(tm:Tr AV):Option Bool:=
 match o.guard with
 |none=>some true
 |some (j,want)=>match ops[j]? with
  |some oj=>match oj.dst with
   |some d=>match tm.get d with
    |some (.bool b)=>some (cond b want (!want))
    |some .any=>none
    |some _=>some false
    |none=>none
   |none=>none
  |none=>none
def Rb(v:AV)(args:List AV):Option (Nat×List AV):=
 match v with
 |.fn (.func k) first cap=>some (k,first++args++cap)
 |_=>none
def Af9(E:Env)(t:Nat)(name:String)(v:AV)(σ:Sto):Option (Nat×AV):=
 match E.P.info? t with
 |some i=>match i.methods.find? (·.name==name)with
  |some m=>match m.path.toList with
   |[]=>match m.func with
    |some (f,ptr)=>match E.P.underlying t with
     |some d=>match d with
      |.pointer e=>match ptr with
       |true=>some (f,v)
       |false=>match Ay E.P e with
        |some te=>match Na te v σ with
         |some (u,_)=>some (f,u)
         |none=>none
        |none=>none
      |_=>match ptr with
       |true=>none
       |false=>some (f,v)
     |none=>none
    |none=>none
   |_=>none
  |none=>none
 |none=>none
def opA(E:Env)(op:Op)(R:Rec)(tm:Tr AV)(σ:Sto):Res:=
 match op with
 |.call c=>match c.callee with
  |.value v=>match opd E tm v with
   |.yl a=>R (.yl a) (opds E tm c.args.toList) σ
   |u=>match Rb u (opds E tm c.args.toList)with
    |some (k,args)=>R (.fn k) args σ
    |none=>none
  |.invoke x name=>match opd E tm x with
   |.ifc t v=>match Af9 E t name v σ with
    |some (f,rv)=>R (.fn f) (rv::opds E tm c.args.toList) σ
    |none=>none
   |_=>none
  |_=>Aw E (.call c) tm σ
 |op=>Aw E op tm σ
def Yi(E:Env)(ops:List Oper)(o:Oper)(R:Rec)(s:St):Option St:=
 match Bn ops o s.tm with
 |some true=>match o.op with
  |.defer c=>match c.callee,o.dst with
   |.value v,none=>match Rb (opd E s.tm v) (opds E s.tm c.args.toList)with
    |some ka=>cond (Nat.beq ka.1 Ks) none (some ⟨s.tm,s.nt,ka::s.df,s.sto⟩)
    |none=>none
   |_,_=>none
  |op=>match opA E op R s.tm s.sto with
   |some (v,σ)=>match Ka o.dst s.tm s.nt v with
    |some tm=>some ⟨tm,s.nt,s.df,σ⟩
    |none=>none
   |none=>none
 |some false=>match Ka o.dst s.tm s.nt An with
  |some tm=>some ⟨tm,s.nt,s.df,s.sto⟩
  |none=>none
 |none=>none
def Aga(σ:Sto)(m:Option Nat)(ver:Nat):Bool:=
 match m with
 |none=>true
 |some r=>match σ.get r with|some (.map _ _ v)=>Nat.beq v ver|_=>false
structure Ann where
 cls:Cls
 lo:Nat
 hi:Nat
def B5:Cls->Bool
 |.eff=>true
 |_=>false
def A8(E:Env):List Oper->Nat->List Nat
 |[],_=>[]
 |o::r,i=>match B5 (Bc E o.op)with
  |true=>i::A8 E r (i+1)
  |false=>A8 E r (i+1)
def Mg(b:List Nat):List Nat->Bool
 |[]=>true
 |i::r=>match r with
  |[]=>true
  |j::s=>(b.getD j 0).testBit i&&Mg b (j::s)
def Bl(p:Nat->Bool):List Nat->Nat
 |[]=>0
 |i::r=>match p i with|true=>Bl p r+1|false=>0
def Kb(E:Env)(b effs:List Nat):List Oper->Nat->List Ann
 |[],_=>[]
 |o::r,i=>C7 (Bl (fun e=>(b.getD i 0).testBit e) effs) fun lo=>
   C7 (Bl (fun e=> !(b.getD e 0).testBit i) effs) fun hi=>
   match Bc E o.op with
   |.pure=>⟨.pure,lo,hi⟩::Kb E b effs r (i+1)
   |.read=>⟨.read,lo,hi⟩::Kb E b effs r (i+1)
   |.eff=>⟨.eff,lo,hi⟩::Kb E b effs r (i+1)
def Eu(ops:Array Oper)(b:List Nat):Bool:=
 (List.range ops.size).all fun j=>(List.range j).all fun i=>(b.getD j 0).testBit i||match ops[i]?,ops[j]? with
  |some x,some y=>Oper.apart ops x y
  |_,_=>true
def Fo(ops:Array Oper):Bool:=
 (List.range ops.size).all fun j=>match ops[j]? with
  |some o=>o.after.all fun e=> !Region.binds .any e||decide (e.on<j)
  |none=>true
def Lo(E:Env)(ops:Array Oper):Option (List Ann):=
 let b:=(Region.before ops).toList
 let effs:=A8 E ops.toList 0
 match Eu ops b&&Fo ops&&Mg b effs&&Region.noSelect ops with
 |true=>some (Kb E b effs ops.toList 0)
 |false=>none
structure DS where
 s:St
 eps:List Sto
 log:List (Tr AV×AV)
def Rc(E:Env)(ops:List Oper)(o:Oper)(R:Rec)(d:DS):Option DS:=
 match Bn ops o d.s.tm with
 |some true=>match opA E o.op R d.s.tm d.s.sto with
  |some (v,σ)=>match Ka o.dst d.s.tm d.s.nt v with
   |some tm=>match B5 (Bc E o.op)with
    |true=>some ⟨⟨tm,d.s.nt,d.s.df,σ⟩,σ::d.eps,(d.s.tm,v)::d.log⟩
    |false=>some ⟨⟨tm,d.s.nt,d.s.df,d.s.sto⟩,d.eps,(d.s.tm,v)::d.log⟩
   |none=>none
  |none=>none
 |some false=>match Ka o.dst d.s.tm d.s.nt An with
  |some tm=>match B5 (Bc E o.op)with
   |true=>some ⟨⟨tm,d.s.nt,d.s.df,d.s.sto⟩,d.s.sto::d.eps,(d.s.tm,An)::d.log⟩
   |false=>some ⟨⟨tm,d.s.nt,d.s.df,d.s.sto⟩,d.eps,(d.s.tm,An)::d.log⟩
  |none=>none
 |none=>none
def T9(E:Env)(ops:List Oper)(R:Rec):List Oper->DS->Option DS
 |[],d=>some d
 |o::r,d=>match Rc E ops o R d with
  |some d'=>T9 E ops R r d'
  |none=>none
def steady(E:Env)(ops:List Oper)(o:Oper)(tm:Tr AV)(v:AV)(l:List Sto):Bool:=
 match Bn ops o tm with
 |some true=>l.all fun σ=>match Aw E o.op tm σ with
  |some (u,_)=>AV.beq u v
  |none=>false
 |_=>true
def Sz(b es D:List Nat)(k:Nat):Bool:=es.all fun e=>match D.contains e with
 |true=> !(b.getD e 0).testBit k
 |false=> !(b.getD k 0).testBit e
structure Nd where
 D:List Nat
 σ:Sto
 U:List (Nat×AV)
def ovr(U:List (Nat×AV))(V:Nat->AV)(k:Nat):AV:=match U with
 |[]=>V k
 |(p,v)::_=>if k=p then v else V k
abbrev NL:=List (Nd×List Nat)
def Adi(nt:Nat):List Oper->List AV->Tr AV->Option (List (Tr AV))
 |[],[],tm=>some [tm]
 |o::r,v::vs,tm=>match Ka o.dst tm nt v with
  |some tm'=>match Adi nt r vs tm' with
   |some l=>some (tm::l)
   |none=>none
  |none=>none
 |_,_,_=>none
def Ahv(E:Env)(ops:List Oper)(R:Rec)(o:Oper)(tm:Tr AV)(σ:Sto):Res:=match Bn ops o tm with
 |some true=>opA E o.op R tm σ
 |_=>none
def N2(E:Env)(ops:List Oper)(R:Rec)(T:Nat->Tr AV)(V:Nat->AV)(i j:Nat)(D:List Nat)(σ:Sto):Option (NL×Sto):=
 match ops[i]?,ops[j]? with
 |some oi,some oj=>match Ahv E ops R oi (T i) σ,Ahv E ops R oj (T j) σ with
  |some (v1,σi),some (v3,σj)=>match oi.op,oj.op with
   |.makeSlice _ _ _,.makeSlice _ _ _=>match v1,v3 with
    |.sr _ _ s1 l1 c1,.sr _ _ s2 l2 c2=>match σi.get (nx σ),σj.get (nx σ)with
     |some (.cells A),some (.cells B)=>
      cond (!Nat.beq i j&&AV.beq (V i) (.sr (nx σ+2) 0 s1 l1 c1)&&AV.beq (V j) (.sr (nx σ+3) 0 s2 l2 c2))
       (some ([(⟨D,σ,[]⟩,[i,j]),(⟨i::D,σi,[(i,v1)]⟩,[j]),(⟨j::D,σj,[(j,v3)]⟩,[i])],((((σi.new (.cells B)).kill (nx σ)).kill (nx σ+1)).new (.cells A)).new (.cells B))) none
     |_,_=>none
    |_,_=>none
   |.store _ x _,.store _ y _=>match opd E (T i) x,opd E (T j) y with
    |.pr a _,.pr b _=>cond (!Nat.beq i j&& !Nat.beq a b&&AV.beq (V i) An&&AV.beq (V j) An)
      (match Ahv E ops R oj (T j) σi with
       |some (_,σij)=>some ([(⟨D,σ,[]⟩,[i,j]),(⟨i::D,σi,[]⟩,[j]),(⟨j::D,σj,[]⟩,[i])],σij)
       |none=>none) none
    |_,_=>none
   |_,_=>none
  |_,_=>none
 |_,_=>none
def Ps(E:Env)(ops:List Oper)(R:Rec)(T:Nat->Tr AV)(V:Nat->AV)(e:Nat)(σ:Sto):Option Sto:=
 match ops[e]? with
 |some o=>match Ahv E ops R o (T e) σ with
  |some (v,σ')=>cond (AV.beq (V e) v) (some σ') none
  |none=>none
 |none=>none
def Ne(E:Env)(ops:List Oper)(R:Rec)(T:Nat->Tr AV)(V:Nat->AV)(b:List Nat):List Nat->List Nat->Sto->Option (NL×Nd)
 |[],D,σ=>some ([],⟨D,σ,[]⟩)
 |[e],D,σ=>match Ps E ops R T V e σ with
  |some σ'=>some ([(⟨D,σ,[]⟩,[e])],⟨e::D,σ',[]⟩)
  |none=>none
 |e::j::r,D,σ=>match(b.getD j 0).testBit e with
  |true=>match Ps E ops R T V e σ with
   |some σ'=>match Ne E ops R T V b (j::r) (e::D) σ' with
    |some (m,nf)=>some ((⟨D,σ,[]⟩,[e])::m,nf)
    |none=>none
   |none=>none
  |false=>match N2 E ops R T V e j D σ with
   |some (l,σ')=>match Ne E ops R T V b r (j::e::D) σ' with
    |some (m,nf)=>some (l++m,nf)
    |none=>none
   |none=>none
def Lp(E:Env)(ops:List Oper)(R:Rec)(T:Nat->Tr AV)(V:Nat->AV)(σ:Sto)(k:Nat):Bool:=match ops[k]? with
 |none=>true
 |some o=>match Bn ops o (T k)with
  |some true=>match opA E o.op R (T k) σ with
   |some (v,_)=>AV.beq v (V k)
   |none=>false
  |some false=>AV.beq (V k) An
  |none=>false
def Aeb(b:List Nat)(U:List (Nat×AV))(k:Nat):Bool:=match U with
 |[]=>true
 |(p,_)::_=> !(b.getD k 0).testBit p
def Hm(E:Env)(ops:List Oper)(R:Rec)(T:Nat->Tr AV)(V:Nat->AV)(b es:List Nat)(x:Nd×List Nat):Bool:=
 (es.all fun e=>x.1.D.contains e|| !Sz b es x.1.D e||x.2.contains e)&&
 (List.range ops.length).all fun k=>x.1.D.contains k|| !Sz b es x.1.D k||(Aeb b x.1.U k&&(es.contains k||Lp E ops R T V x.1.σ k))
def Rd(E:Env)(ops:Array Oper)(R:Rec)(s:St)(vl:List AV):Option St:=
 match Adi s.nt ops.toList vl s.tm with
 |none=>none
 |some tl=>match Eu ops (Region.before ops).toList&&Fo ops with
  |false=>none
  |true=>match Ne E ops.toList R (fun k=>tl.getD k .e) (fun k=>vl.getD k .any) (Region.before ops).toList (A8 E ops.toList 0) [] s.sto with
   |none=>none
   |some (nl,nf)=>cond ((nl++[(nf,[])]).all (Hm E ops.toList R (fun k=>tl.getD k .e) (fun k=>vl.getD k .any) (Region.before ops).toList (A8 E ops.toList 0))&&
      nl.all fun x=>(A8 E ops.toList 0).any fun e=> !x.1.D.contains e)
     (some ⟨tl.getD ops.size .e,s.nt,s.df,nf.σ⟩) none
def Aai(P:Program)(tm:Tr AV)(σ:Sto):ResultVar->Option AV
 |.tmp t=>tm.get t
 |.cell a t=>match Ay P t with
  |some ti=>match tm.get a with
   |some (.pr b off)=>match σ.cells b with
    |some vs=>Ff ti (vs.drop off)
    |none=>none
   |_=>none
  |none=>none
def Ahw(P:Program)(tm:Tr AV)(σ:Sto):List ResultVar->Option (List AV)
 |[]=>some []
 |r::rs=>match Aai P tm σ r,Ahw P tm σ rs with
  |some v,some l=>some (v::l)
  |_,_=>none
def Akq:List AV->AV
 |[v]=>v
 |vs=>.tup vs
def Kz:List AV->Nat->Tr AV->Tr AV
 |[],_,t=>t
 |x::r,i,t=>Kz r (i+1) (t.put (i+1) i (some x))
def Sto.bump(σ:Sto):Sto:=match σ with|⟨t,n⟩=>C7 (n+1) fun n=>⟨t,n⟩
def H2:XE->LS
 |.normal=>.ready
 |x=>.done x
def Iu:XE->Bool
 |.normal=>true
 |_=>false
def Jt(b:Nat):List (Nat×List AV)->Bool
 |[]=>true
 |(k,[.yl _,.yl b'])::r=>Nat.beq k Ks&&Nat.beq b' b&&Jt b r
 |_=>false
end Go.AM
