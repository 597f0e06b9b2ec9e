/- A part of the proof; shortened by program. -/
import Derived.Shelf.Strings.FuncGrows
import Derived.Laws.Runes
import Derived.Deep.QuietTactic
import Derived.BigQuiet
import Derived.Test.YtmkaboegdoadhaaGreatDoorP16
set_option maxRecDepth 100000
set_option maxHeartbeats 4000000
set_option linter.unusedSimpArgs false
set_option linter.unusedVariables false
namespace Go.AM
open Go Go.Proofs
def txv(h:Hp):Str:=h.text.tail.headD []
def Apf(s:SM Bool)(l:List Hp):SM Bool:=l.foldl (fun m b=>m.put (txv b) true) s
abbrev Ord:=SM Hp×SM (SM Bool)
def Pi(i:Nat)(h:Hp)(s:Ord):Ord:=if i=0 then(s.1.put (txv h) h,s.2.put (txv h) [])else s
def Ai3(i:Nat)(pre:List Hp)(h:Hp)(s:Ord):Option Ord:=
 match(Pi i h s).2.get (txv h)with
 |none=>none
 |some a=>if Am9 ((Pi i h s).1.get (txv h)) h=true then some ((Pi i h s).1,(Pi i h s).2.put (txv h) (Apf a pre))else none
def Yw(i:Nat)(all:List Hp):List Hp->Nat->Ord->Option Ord
 |[],_,s=>some s
 |h::r,n,s=>match Ai3 i (all.take n) h s with
  |none=>none
  |some s'=>Yw i all r (n+1) s'
def Pb(i:Nat):List (List Hp)->Ord->Option Ord
 |[],s=>some s
 |l::r,s=>match Yw i l l 0 s with
  |none=>none
  |some s'=>Pb i r s'
def flo(l:List Hp):List Hp:=Eo Vd l
def Arw(d:Db)(f:Fr):Bool:= !decide (Int.ofNat ((flo f.hyps).length+(flo f.dummies).length)=Int.ofNat d.vars.length)||(f.hyps.drop (flo f.hyps).length).any (fun h=>h.floating)
def Ow(d:Db):List Fr->Nat->Ord->Option Ord
 |[],_,s=>some s
 |f::r,i,s=>if Arw d f=true then none else match Pb i [flo f.hyps,flo f.dummies] s with
  |none=>none
  |some s'=>Ow d r (i+1) s'
def rdy(a:SM (SM Bool))(done:SM Bool)(v:Str):Bool:= !done.has v&&((a.get v).getD []).all (fun p=>done.has p.1)
def W7(vars:List Str)(s:Ord):Nat->SM Bool->List Hp->Option (List Hp)
 |0,_,out=>some out
 |n+1,done,out=>match vars.find? (rdy s.2 done)with
  |none=>none
  |some v=>match s.1.get v with
   |none=>none
   |some h=>W7 vars s n (done.put v true) (out++[h])
def Fa(d:Db):Option (List Hp):=
 if d.frames.length=0 then(if d.vars.length=0 then some []else none)
 else match Ow d d.frames 0 ([],[])with
  |none=>none
  |some s=>W7 d.vars s d.vars.length [] []
structure Ag8 (σ:Sto)(N r:Nat)(A:SM (SM Bool))(refs:SM Nat):Prop where
 m:B8 (fun q=>AV.mp q) σ r refs
 s:∀v,(refs.get v).isSome=(A.get v).isSome
 a:∀v q s,refs.get v=some q->A.get v=some s->Fi σ q s
 n:∀v q,refs.get v=some q->N<=q
 i:∀v v' q,refs.get v=some q->refs.get v'=some q->v=v'
theorem Ag8.new{σ σ':Sto}{N r q ver:Nat}{A:SM (SM Bool)}{refs:SM Nat}{v:Str}(h:Ag8 σ N r A refs)(hw:WFS σ)(hr:r<N)(hN:N<=nx σ)(hq:q=nx σ)(hm:σ'.get r=some (.map 9 (Cn (fun q=>AV.mp q) (refs.put v q)) ver))(hs:Fi σ' q [])
  (hg:∀b,N<=b->b<nx σ->σ'.get b=σ.get b):Ag8 σ' N r (A.put v []) (refs.put v q):=by
 refine⟨⟨ver,hm⟩,fun u=>?_,fun u p s k1 k2=>?_,fun u p k1=>?_,fun u u' p k1 k2=>?_⟩
 ·rw[ch_,ch_];split<;>first|rfl|exact h.s u
 ·rw[ch_]at k1 k2
  split at k1
  ·grind
  ·rename_i e;rw[if_neg e]at k2
   exact(h.a u p s k1 k2).of_get (hg p (h.n u p k1) ((h.a u p s k1 k2).lt hw))
 ·rw[ch_]at k1
  split at k1
  ·grind
  ·exact h.n u p k1
 ·have lt:∀w p,refs.get w=some p->p<nx σ:=fun w p hh=>by
   have:=h.s w;rw[hh]at this;obtain⟨s,hs⟩:=bg_.1 this.symm;exact(h.a w p s hh hs).lt hw
  rw[ch_]at k1 k2
  split at k1<;>split at k2
  ·grind
  ·grind
  ·grind
  ·exact h.i u u' p k1 k2
theorem Ag8.upd{σ σ':Sto}{N r q:Nat}{A:SM (SM Bool)}{refs:SM Nat}{v:Str}{s:SM Bool}(h:Ag8 σ N r A refs)(hq:refs.get v=some q)(hr:σ'.get r=σ.get r)(hs:Fi σ' q s)
  (hg:∀b,N<=b->b≠q->σ'.get b=σ.get b):Ag8 σ' N r (A.put v s) refs:=by
 refine⟨h.m.of_get hr,fun u=>?_,fun u p t k1 k2=>?_,h.n,h.i⟩
 ·rw[ch_]
  split
  ·grind
  ·exact h.s u
 ·rw[ch_]at k2
  split at k2
  ·grind
  ·rename_i e
   refine(h.a u p t k1 k2).of_get (hg p (h.n u p k1) fun hh=>e ?_)
   subst hh;exact h.i u v p k1 hq
end Go.AM
namespace Go.AM
open Go Go.Proofs
structure Pd (σ τ:Sto)(s:Ord):Prop where
 n:nx σ+2<=nx τ
 g:∀b,b<nx σ->τ.get b=σ.get b
 o:B8 hV τ (nx σ) s.1
 a:∃refs,Ag8 τ (nx σ+2) (nx σ+1) s.2 refs
 k:∀v,(s.1.get v).isSome=(s.2.get v).isSome
theorem Apg{s:SM Bool}{l:List Hp}{b:Hp}:Apf s (l++[b])=(Apf s l).put (txv b) true:=by unfold Apf;grind
theorem Z2{h:Hp}{a b:Str}(e:h.text=[a,b]):txv h=b:=by unfold txv;rw[e];rfl
theorem Axc{i:Nat}{h:Hp}{s:Ord}(hk:∀v,(s.1.get v).isSome=(s.2.get v).isSome):∀v,((Pi i h s).1.get v).isSome=((Pi i h s).2.get v).isSome:=fun v=>by
 unfold Pi
 split
 ·simp only[ch_];split<;>first|rfl|exact hk v
 ·exact hk v
theorem Pd.first{σ τ τ':Sto}{s:Ord}{h:Hp}{ver ver2:Nat}{refs:SM Nat}(hO:Pd σ τ s)(hA:Ag8 τ (nx σ+2) (nx σ+1) s.2 refs)(hw:WFS τ)(hn:nx τ<=nx τ')(ho:τ'.get (nx σ)=some (.map 9 (Cn hV (s.1.put (txv h) h)) ver))
  (hr:τ'.get (nx σ+1)=some (.map 9 (Cn (fun q=>AV.mp q) (refs.put (txv h) (nx τ))) ver2))(hs:Fi τ' (nx τ) [])(hg:∀b,b<nx τ->b≠nx σ->b≠nx σ+1->τ'.get b=τ.get b):Pd σ τ' (Pi 0 h s):=by
 have hN:=hO.n
 refine⟨by omega,fun b hb=>(hg b Om Om Om).trans (hO.g b hb),⟨ver,ho⟩,⟨_,hA.new hw Om hN rfl hr hs fun b h1 h2=>hg b h2 Om Om⟩,Axc hO.k⟩
theorem Pd.turn{σ τ τ':Sto}{s:Ord}{a:SM Bool}{v:Str}{q:Nat}{refs:SM Nat}(hO:Pd σ τ s)(hA:Ag8 τ (nx σ+2) (nx σ+1) s.2 refs)(hq:refs.get v=some q)(hn:nx τ<=nx τ')(hs:Fi τ' q a)(hg:∀b,b≠q->τ'.get b=τ.get b):Pd σ τ' (s.1,s.2.put v a):=by
 have hN:=hO.n;have hqn:=hA.n v q hq
 refine⟨by omega,fun b hb=>(hg b Om).trans (hO.g b hb),hO.o.of_get (hg _ Om),⟨refs,hA.upd hq (hg _ Om) hs fun b _ h2=>hg b h2⟩,fun u=>?_⟩
 show(s.1.get u).isSome=_
 rw[ch_,hO.k u]
 split
 ·rename_i e;subst e
  have:=hA.s u;grind
 ·rfl
section
open Go Go.Proofs Go.RowKit
def Gb:ByteArray:=⟨#[45,95,46,63]⟩
theorem Aur(p:Nat)(h:p<Gb.size):(Utf8.decode Gb p).2=1/\((Utf8.decode Gb p).1:Int)≠65533:=by
 have h4:p<4:=h
 match p,h4 with
 |0,_=>decide
 |1,_=>decide
 |2,_=>decide
 |3,_=>decide
set_option maxRecDepth 1000000 in
theorem Arx (w : World) : Calls Tryz.prog 299 #[.string Gb,.int .i32 65533] w fun e w' => e = .returned (.int .i64 (-1)) /\ Go.RowKit.Below w.heap.size w w' := by
 go_enter Tryz.func299,Tryz.ntmps299
 go_wp2
 go_loopg [] 4 (fun gf wx => ∃ pos : Nat,wx.heap[w.heap.size]? = some (.stringIter Gb pos) /\ Go.RowKit.Below w.heap.size w wx /\ Gb.size <= pos + gf)
 case atStart => exact ⟨0,World.iter_heap w Gb 0,(Go.RowKit.Below.refl _ w).alloc nl _,nl⟩
 case round =>
  obtain ⟨pos,hit,hbw,hfu⟩ := hrel
  by_cases hps : pos < Gb.size
  ·obtain ⟨g',rfl⟩ : ∃ g',gk = g' + 1 := ⟨gk - 1,by omega⟩
   have hnx : ∀ ty,(Instr.next (.pointer (some ⟨w.heap.size,0,none⟩)) true ty).run Tryz.prog wr = _ := fun ty => Lib.run_next_any_at wr w.heap.size Gb pos ty hit hps
   obtain ⟨hd1,hd2⟩ := Aur pos hps;obtain ⟨R,hR⟩ : ∃ R,(Utf8.decode Gb pos).1 = R := ⟨_,rfl⟩;rw [hR] at hd2;rw [hR,hd1] at hnx;have pe := Lib.iterAt_heap wr w.heap.size Gb pos (pos + 1) hit;have pi := Lib.below_iterAt hbw (k := w.heap.size) nl Gb (pos + 1);obtain ⟨W,hWd⟩ : ∃ W,wr.iterAt w.heap.size Gb (pos + 1) = W := ⟨_,rfl⟩;rw [hWd] at hnx pe pi
   go_wp2
   go_roundg g'
   case measure => omega
   grind
  ·have hnx : ∀ ty,(Instr.next (.pointer (some ⟨w.heap.size,0,none⟩)) true ty).run Tryz.prog wr = _ := fun ty => Lib.run_next_end_at wr w.heap.size Gb pos ty hit hps
   go_wp2
   go_ret
   exact ⟨rfl,hbw⟩
set_option maxRecDepth 1000000 in
theorem Ary (x : Int) (h0 : 128 <= x) (h1 : Lib.validRune x = false) (h2 : x ≠ 65533) (w : World) : Calls Tryz.prog 299 #[.string Gb,.int .i32 x] w fun e w' => e = .returned (.int .i64 (-1)) /\ w' = w := by
 have hd0 : decide ((0 : Int) <= x) = true := by simp; omega
 have hd1 : decide (x < (128 : Int)) = false := by simp; omega
 have e295 : ∀ args w,(callFunc 302 args).run Tryz.prog w = .ok (.enter 302 args) w := enters_of Tryz.func302 Kr rfl
 go_enter Tryz.func299,Tryz.ntmps299
 go_wp2_with (go_at_fn 302; refine (Tryz.utf8_ValidRune _ _).mono ?_; rintro e w' ⟨rfl,hw⟩; rw [hw,h1])
 go_ret
 exact ⟨rfl,rfl⟩
theorem Aph(x:Int)(h:128<=x):(∃a b:UInt8,Utf8.encode x=⟨#[a,b]⟩/\128<=b.toNat)∨(∃a b d:UInt8,Utf8.encode x=⟨#[a,b,d]⟩/\128<=d.toNat)∨∃a b d e:UInt8,Utf8.encode x=⟨#[a,b,d,e]⟩/\128<=e.toNat:=by
 have hb:∀n:Nat,128<=(UInt8.ofNat (0x80+n%64)).toNat:=fun n=>by
  rw[UInt8.toNat_ofNat'];omega
 unfold Utf8.encode;obtain⟨c,hc⟩:∃c,(if Utf8.valid x=true then x.toNat else Utf8.runeError)=c:=⟨_,rfl⟩
 have h128:128<=c:=by
  rw[←hc];split
  ·omega
  ·decide
 simp only[hc];rw[if_neg Om]
 split
 ·grind
 ·split
  ·grind
  grind
theorem All(s:ByteArray)(c:Int)(w:World):Calls Tryz.prog 301 #[.string s,.int .u8 c] w fun e w'=>e=.returned (.int .i64 (Lib.indexByte s.data.toList c.toNat.toUInt8))/\w'=w:=Any.strings_IndexByte { Tryz.lays151 with } s c w
theorem And{b:UInt8}(hb:128<=b.toNat):∀{l:List UInt8},(∀c∈l,c.toNat<128)->Lib.indexByte l b= -1
 |[],_=>rfl
 |c::l,h=>by
  have h1:(c==b)=false:=gr;have h2:=And hb (l:=l) fun x hx=>h x (aj_ _ hx)
  simp[Lib.indexByte,h1,h2]
set_option maxRecDepth 1000000 in
theorem Api (x : Int) (a b : UInt8) (he : Utf8.encode x = ⟨#[a,b]⟩) (hb : 128 <= b.toNat) (h0 : 128 <= x) (h1 : Lib.validRune x = true) (h2 : x ≠ 65533) (w : World) : Calls Tryz.prog 299 #[.string Gb,.int .i32 x] w fun e w' => e = .returned (.int .i64 (-1)) /\ Go.RowKit.Below w.heap.size w w' := by
 have hd0 : decide ((0 : Int) <= x) = true := by simp; omega
 have hd1 : decide (x < (128 : Int)) = false := by simp; omega
 have hd2 : decide ((95 : Int) = b.toNat) = false := by simp; omega
 have e295 : ∀ args w,(callFunc 302 args).run Tryz.prog w = .ok (.enter 302 args) w := enters_of Tryz.func302 Kr rfl;have e294 : ∀ args w,(callFunc 301 args).run Tryz.prog w = .ok (.enter 301 args) w := enters_of Tryz.func301 Kr rfl;have mixed : Tryz.prog.follows .mixedOrders = true := Kr;have hsz : Gb.size = 4 := rfl
 have hne : (((Gb[1]'(by decide)).toNat : Int) != (((⟨#[a,b]⟩ : ByteArray)[1]'(by show 1 < 2; omega)).toNat : Int)) = true := by
  show (((95 : Nat) : Int) != ((b.toNat : Nat) : Int)) = true
  simp; omega
 have hix : Lib.indexByte (Gb.extract 2 4).data.toList ((((⟨#[a,b]⟩ : ByteArray)[1]'gr).toNat : Int)).toNat.toUInt8 = -1 := by
  show Lib.indexByte [46,63] (b.toNat : Int).toNat.toUInt8 = -1
  rw [ei_,show b.toNat.toUInt8 = b from UInt8.ofNat_toNat]
  exact And hb (by decide)
 have hI : ∀ w,Calls Tryz.prog 301 #[.string (Gb.extract 2 4),.int .u8 (((⟨#[a,b]⟩ : ByteArray)[1]'gr).toNat : Int)] w fun e w' => e = .returned (.int .i64 (-1)) /\ w' = w := fun w => by
  have := All (Gb.extract 2 4) (((⟨#[a,b]⟩ : ByteArray)[1]'gr).toNat : Int) w
  grind
 clear hix
 have hwr : IntKind.i64.wrap 2 = 2 := by decide
 have kc : ∀ (w : World),(convert 21 9 (.int .i32 x)).run Tryz.prog w = .ok (.string ⟨#[a,b]⟩) w := fun w => by rw [← he]; exact run_convert_int_string (P := Tryz.prog) w 21 9 .i32 x (by rw [Tryz.underlying21]; rfl) Tryz.underlying9
 go_enter Tryz.func299,Tryz.ntmps299
 go_wp2_with (first | (go_at_fn 302; refine (Tryz.utf8_ValidRune _ _).mono ?_; rintro e w' ⟨rfl,hw⟩; rw [hw,h1]) | (go_at_fn 301; refine (Any.strings_IndexByte { Tryz.lays151 with } _ _ _).mono ?_; rintro e w' ⟨rfl,hw⟩; rw [hw]))
 refine wp_scope_straight ?_
 go_wp2
 go_loopg [9] 1 (fun gf s9 wx => s9 = .int .i64 1 /\ wx = w)
 case atStart => exact ⟨rfl,rfl⟩
 case round =>
  obtain ⟨rfl,rfl⟩ := hrel
  go_wp2
  refine wp_scope_straight ?_
  go_wp2
  go_quiet (fail)
  go_wp2
  go_quiet ((refine (hI _).mono fun e w'' h => ⟨h.1,_,h.2⟩))
  go_wp2
  simp only [Exit.noGoto,Exit.inBlock,Exit.then]
  go_ret
  exact ⟨rfl,below_drewNg _ _⟩
set_option maxRecDepth 1000000 in
theorem Apj (x : Int) (a b d : UInt8) (he : Utf8.encode x = ⟨#[a,b,d]⟩) (hb : 128 <= d.toNat) (h0 : 128 <= x) (h1 : Lib.validRune x = true) (h2 : x ≠ 65533) (w : World) : Calls Tryz.prog 299 #[.string Gb,.int .i32 x] w fun e w' => e = .returned (.int .i64 (-1)) /\ Go.RowKit.Below w.heap.size w w' := by
 have hd0 : decide ((0 : Int) <= x) = true := by simp; omega
 have hd1 : decide (x < (128 : Int)) = false := by simp; omega
 have hd2 : decide ((46 : Int) = d.toNat) = false := by simp; omega
 have e295 : ∀ args w,(callFunc 302 args).run Tryz.prog w = .ok (.enter 302 args) w := enters_of Tryz.func302 Kr rfl;have e294 : ∀ args w,(callFunc 301 args).run Tryz.prog w = .ok (.enter 301 args) w := enters_of Tryz.func301 Kr rfl;have mixed : Tryz.prog.follows .mixedOrders = true := Kr;have hsz : Gb.size = 4 := rfl
 have hne : (((Gb[2]'(by decide)).toNat : Int) != (((⟨#[a,b,d]⟩ : ByteArray)[2]'(by show 2 < 3; omega)).toNat : Int)) = true := by
  show (((46 : Nat) : Int) != ((d.toNat : Nat) : Int)) = true
  simp; omega
 have hix : Lib.indexByte (Gb.extract 3 4).data.toList ((((⟨#[a,b,d]⟩ : ByteArray)[2]'gr).toNat : Int)).toNat.toUInt8 = -1 := by
  show Lib.indexByte [63] (d.toNat : Int).toNat.toUInt8 = -1
  rw [ei_,show d.toNat.toUInt8 = d from UInt8.ofNat_toNat]
  exact And hb (by decide)
 have hI : ∀ w,Calls Tryz.prog 301 #[.string (Gb.extract 3 4),.int .u8 (((⟨#[a,b,d]⟩ : ByteArray)[2]'gr).toNat : Int)] w fun e w' => e = .returned (.int .i64 (-1)) /\ w' = w := fun w => by
  have := All (Gb.extract 3 4) (((⟨#[a,b,d]⟩ : ByteArray)[2]'gr).toNat : Int) w
  grind
 clear hix
 have hwr : IntKind.i64.wrap 3 = 3 := by decide
 have kc : ∀ (w : World),(convert 21 9 (.int .i32 x)).run Tryz.prog w = .ok (.string ⟨#[a,b,d]⟩) w := fun w => by rw [← he]; exact run_convert_int_string (P := Tryz.prog) w 21 9 .i32 x (by rw [Tryz.underlying21]; rfl) Tryz.underlying9
 go_enter Tryz.func299,Tryz.ntmps299
 go_wp2_with (first | (go_at_fn 302; refine (Tryz.utf8_ValidRune _ _).mono ?_; rintro e w' ⟨rfl,hw⟩; rw [hw,h1]) | (go_at_fn 301; refine (Any.strings_IndexByte { Tryz.lays151 with } _ _ _).mono ?_; rintro e w' ⟨rfl,hw⟩; rw [hw]))
 refine wp_scope_straight ?_
 go_wp2
 go_loopg [9] 1 (fun gf s9 wx => s9 = .int .i64 2 /\ wx = w)
 case atStart => exact ⟨rfl,rfl⟩
 case round =>
  obtain ⟨rfl,rfl⟩ := hrel
  go_wp2
  refine wp_scope_straight ?_
  go_wp2
  go_quiet (fail)
  go_wp2
  go_quiet ((refine (hI _).mono fun e w'' h => ⟨h.1,_,h.2⟩))
  go_wp2
  simp only [Exit.noGoto,Exit.inBlock,Exit.then]
  go_ret
  exact ⟨rfl,below_drewNg _ _⟩
set_option maxRecDepth 1000000 in
theorem Apk (x : Int) (a b d e : UInt8) (he : Utf8.encode x = ⟨#[a,b,d,e]⟩) (hb : 128 <= e.toNat) (h0 : 128 <= x) (h1 : Lib.validRune x = true) (h2 : x ≠ 65533) (w : World) : Calls Tryz.prog 299 #[.string Gb,.int .i32 x] w fun e w' => e = .returned (.int .i64 (-1)) /\ Go.RowKit.Below w.heap.size w w' := by
 have hd0 : decide ((0 : Int) <= x) = true := by simp; omega
 have hd1 : decide (x < (128 : Int)) = false := by simp; omega
 have hd2 : decide ((63 : Int) = e.toNat) = false := by simp; omega
 have e295 : ∀ args w,(callFunc 302 args).run Tryz.prog w = .ok (.enter 302 args) w := enters_of Tryz.func302 Kr rfl;have e294 : ∀ args w,(callFunc 301 args).run Tryz.prog w = .ok (.enter 301 args) w := enters_of Tryz.func301 Kr rfl;have mixed : Tryz.prog.follows .mixedOrders = true := Kr;have hsz : Gb.size = 4 := rfl
 have hne : (((Gb[3]'(by decide)).toNat : Int) != (((⟨#[a,b,d,e]⟩ : ByteArray)[3]'(by show 3 < 4; omega)).toNat : Int)) = true := by
  show (((63 : Nat) : Int) != ((e.toNat : Nat) : Int)) = true
  simp; omega
 have hix : Lib.indexByte (Gb.extract 4 4).data.toList ((((⟨#[a,b,d,e]⟩ : ByteArray)[3]'gr).toNat : Int)).toNat.toUInt8 = -1 := by
  show Lib.indexByte ([] : List UInt8) (e.toNat : Int).toNat.toUInt8 = -1
  rw [ei_,show e.toNat.toUInt8 = e from UInt8.ofNat_toNat]
  exact And hb (by decide)
 have hI : ∀ w,Calls Tryz.prog 301 #[.string (Gb.extract 4 4),.int .u8 (((⟨#[a,b,d,e]⟩ : ByteArray)[3]'gr).toNat : Int)] w fun e w' => e = .returned (.int .i64 (-1)) /\ w' = w := fun w => by
  have := All (Gb.extract 4 4) (((⟨#[a,b,d,e]⟩ : ByteArray)[3]'gr).toNat : Int) w
  grind
 clear hix
 have hwr : IntKind.i64.wrap 4 = 4 := by decide
 have kc : ∀ (w : World),(convert 21 9 (.int .i32 x)).run Tryz.prog w = .ok (.string ⟨#[a,b,d,e]⟩) w := fun w => by rw [← he]; exact run_convert_int_string (P := Tryz.prog) w 21 9 .i32 x (by rw [Tryz.underlying21]; rfl) Tryz.underlying9
 go_enter Tryz.func299,Tryz.ntmps299
 go_wp2_with (first | (go_at_fn 302; refine (Tryz.utf8_ValidRune _ _).mono ?_; rintro e w' ⟨rfl,hw⟩; rw [hw,h1]) | (go_at_fn 301; refine (Any.strings_IndexByte { Tryz.lays151 with } _ _ _).mono ?_; rintro e w' ⟨rfl,hw⟩; rw [hw]))
 refine wp_scope_straight ?_
 go_wp2
 go_loopg [9] 1 (fun gf s9 wx => s9 = .int .i64 3 /\ wx = w)
 case atStart => exact ⟨rfl,rfl⟩
 case round =>
  obtain ⟨rfl,rfl⟩ := hrel
  go_wp2
  refine wp_scope_straight ?_
  go_wp2
  go_quiet (fail)
  go_wp2
  go_quiet ((refine (hI _).mono fun e w'' h => ⟨h.1,_,h.2⟩))
  go_wp2
  simp only [Exit.noGoto,Exit.inBlock,Exit.then]
  go_ret
  exact ⟨rfl,below_drewNg _ _⟩
theorem Aus(x:Int)(h0:128<=x)(w:World):Calls Tryz.prog 299 #[.string Gb,.int .i32 x] w fun e w'=>e=.returned (.int .i64 (-1))/\Go.RowKit.Below w.heap.size w w':=by
 by_cases h2:x=65533
 ·subst h2;exact Arx w
 ·cases h1:Lib.validRune x with
  |false=>exact(Ary x h0 h1 h2 w).mono fun e w' h=>⟨h.1,h.2▸Go.RowKit.Below.refl _ _⟩
  |true=>
   rcases Aph x h0 with⟨a,b,he,hb⟩|⟨a,b,d,he,hb⟩|⟨a,b,d,e,he,hb⟩
   ·exact Api x a b he hb h0 h1 h2 w
   ·exact Apj x a b d he hb h0 h1 h2 w
   ·exact Apk x a b d e he hb h0 h1 h2 w
def Afb(x:Int):Bool:=decide (x=45)||decide (x=95)||decide (x=46)||decide (x=63)
theorem Axd(x:Nat)(h:x<128):decide ((0:Int)<=Lib.indexByte Gb.data.toList x.toUInt8)=Afb x:=by
 have:∀x:Fin 128,decide ((0:Int)<=Lib.indexByte Gb.data.toList x.val.toUInt8)=Afb x.val:=by decide
 exact this ⟨x,h⟩
set_option maxRecDepth 1000000 in
theorem Aut (x : Nat) (w : World) : Calls Tryz.prog 297 #[.string Gb,.int .i32 x] w fun e w' => e = .returned (.bool (Afb x)) /\ Go.RowKit.Below w.heap.size w w' := by
 by_cases h : x < 128
 ·have := Tryz.strings_ContainsRune_ascii Gb (x : Int) w Om Om;rw [ei_,Axd x h] at this;exact this.mono fun e w' h => ⟨h.1,h.2 ▸ Go.RowKit.Below.refl _ _⟩
 ·have e292 : ∀ args w,(callFunc 299 args).run Tryz.prog w = .ok (.enter 299 args) w := enters_of Tryz.func299 Kr rfl
  have hi : Afb x = false := by simp [Afb]; omega
  rw [hi]
  go_enter Tryz.func297,Tryz.ntmps297
  go_wp2_with (go_at_fn 299; refine (Aus (x : Int) Om _).mono ?_; rintro e w' ⟨rfl,hw⟩)
  go_ret
  exact ⟨rfl,hw⟩
def prC(n:Int):Bool:=(((decide ((97:Int)<=n)&&decide (n<=122))||(decide ((65:Int)<=n)&&decide (n<=90)))||(decide ((48:Int)<=n)&&decide (n<=57)))||Afb n
end
section
open Go Go.Proofs Go.RowKit
set_option maxRecDepth 1000000 in
theorem g289 (x : Nat) (w : World) : Calls Tryz.prog 296 #[.int .i32 x] w fun e w' => e = .returned (.bool (!prC x)) /\ Go.RowKit.Below w.heap.size w w' := by
  have e290 : ∀ args w,(callFunc 297 args).run Tryz.prog w = .ok (.enter 297 args) w := enters_of Tryz.func297 Kr rfl;obtain ⟨X,hX⟩ : ∃ X : Int,(x : Int) = X := ⟨_,rfl⟩;have hR := Aut x;rw [hX] at hR ⊢;unfold prC;cases h1 : decide ((97 : Int) <= X) <;> cases h2 : decide (X <= 122) <;> cases h3 : decide ((65 : Int) <= X) <;> cases h4 : decide (X <= 90) <;> cases h5 : decide ((48 : Int) <= X) <;> cases h6 : decide (X <= 57) <;>
  (go_enter Tryz.func296,Tryz.ntmps296
   go_wp2_with (go_at_fn 297; refine (hR _).mono ?_; rintro e w' ⟨rfl,hw⟩)
   go_ret
   first | exact ⟨rfl,Go.RowKit.Below.refl _ _⟩ | exact ⟨rfl,hw⟩)
theorem Ai4{f:Nat}{args:List AV}{σ:Sto}{b:Bool}(he:Aa2 Ew.P f)(h:∀C w (vs:Array Value),RL C (nx σ) w args vs.toList->Calls Ew.P f vs w (fun e w'=>e=.returned (.bool b)/\Go.RowKit.Below w.heap.size w w')):Al Ew f args σ fun u τ=>u=.bool b/\τ=σ:=by
 intro C w vs hs hg ha;refine⟨he,(h C w vs ha).mono fun e w' hq=>?_⟩
 obtain⟨rfl,hb⟩:=hq;obtain⟨k1,k2⟩:=hs.same hb.size hb.block ⟨hb.os,hb.output⟩
 exact⟨.bool b,σ,C,⟨rfl,rfl⟩,k1,k2,by unfold R;rfl⟩
def prS(s:Str):Bool:=decide (0<=Lib.idxFunc (fun x=> !prC x) true ⟨⟨s⟩⟩)
theorem Axe{C:Ctx}{N:Nat}{w:World}{k:Nat}{x:Value}(h:R C N w (.fn (.func k) [] []) x):x=.func (.func k) #[] #[]:=by
 unfold R at h;obtain⟨a,b,rfl,h1,h2⟩:=h
 have e:∀a:Array Value,RL C N w [] a.toList->a=#[]:=fun a h=>by
  obtain⟨l⟩:=a;cases l with
  |nil=>rfl
  |cons x r=>unfold RL at h;exact h.elim
 rw[e a h1,e b h2]
theorem f295(s:Str)(σ:Sto):Cv 295 [sV s,.fn (.func 296) [] []] σ (.bool (prS s)):=by
 refine Ai4 ⟨_,Tryz.func295,rfl,rfl⟩ fun C w vs ha=>?_
 obtain⟨x,y,rfl,hx,hy⟩:=Art ha;obtain⟨a,rfl,rfl⟩:=Ars hx;rw[Axe hy];have e289:∀args w,(callFunc 296 args).run Tryz.prog w=.ok (.enter 296 args) w:=enters_of Tryz.func296 Kr rfl;exact Any.strings_ContainsFunc_grows Tryz.laysGw17 296 #[] e289 (fun x=> !prC x) a w fun W x _ _=>g289 x W
def Fb(s:Str):Bool:=(decide (s=[40])||decide (s=[41]))||(!decide (s=[])&& !prS s)
end
abbrev e1(s:Str):List AV:=[sV s]
def Ox(s:Str):List Str:=[[120],[36,112],[120],[36,61],s,[36,46]]
def Ag9(s:Str):Stm:=⟨7,[120],[[120]],[s]⟩
theorem D9{N:Nat}(s:Str):AV.unds N (e1 s)=true:=rfl
theorem f292(s:Str)(σ:Sto):Cv 292 [sV s] σ (.bool (Fb s)):=by
 refine Aj Tryz.func292 rfl rfl fun hw hu0=>?_
 refine G8 ?_;refine O1 (H5 (q:=[40]) okC rfl rfl) ?_;refine G ?_;refine TOr 2 ?_ (fun hg=>?_) ?_
 rotate_left
 ·refine Gn hg ?_;refine On hg (H5 (q:=[41]) okC rfl rfl) ?_;exact Ez
 refine G ?_;refine Ab rfl ?_ ?_<;>intro h1
 ·refine G5 ?_;refine B4 hw rfl ?_
  exact congrArg AV.bool (by unfold Fb;rw[show(decide (s=[40])||decide (s=[41]))=true from h1];rfl)
 ·refine G4 ?_;refine O1 (Ko (q:=[]) okC rfl rfl) ?_;refine G ?_;refine TAn 3 ?_ (fun hg=>?_) ?_
  rotate_left
  ·refine Gn hg ?_
   refine Bh rfl rfl rfl (by rw[hg];rfl) rfl rfl rfl rfl (f295 s _) ?_
   refine Gn hg ?_;exact Ez
  refine G3 ?_;refine B4 hw rfl ?_
  exact congrArg AV.bool (by unfold Fb;rw[show(decide (s=[40])||decide (s=[41]))=false from h1];rfl)
theorem f278(s:Str)(σ:Sto):Cv 278 [.agg (stX s)] σ (Af (Ox s)):=by
 refine Aj Tryz.func278 rfl rfl fun hw hu0=>?_
 refine G9 ?_
 refine O1 (Bp Av8 rfl rfl (by decide) (n:=7) rfl) ?_
 iterate 13 refine G ?_
 refine Ab rfl ?_ ?_<;>intro h1
 ·obtain⟨v1,τ1,ha1,ho1,hb1,_⟩:=ex_ (by':=16) (enc:=e1) (fun _=>rfl) (Nat.le_refl (nx σ)) (Own.nil (sz:=1)) [[120]] (by simp[sizeLim])
  have hB1:=hb1
  obtain⟨v2,τ2,ha2,ho2,hb2,_⟩:=ex_ (by':=16) (enc:=e1) (fun _=>rfl) hB1.1 ho1 [[36,112]] (by simp[sizeLim])
  have hB2:=hB1.trans hb2
  obtain⟨v3,τ3,ha3,ho3,hb3,_⟩:=ex_ (by':=16) (enc:=e1) (fun _=>rfl) hB2.1 ho2 [[120]] (by simp[sizeLim])
  have hB3:=hB2.trans hb3
  obtain⟨v4,τ4,ha4,ho4,hb4,_⟩:=ex_ (by':=16) (enc:=e1) (fun _=>rfl) hB3.1 ho3 [[36,61]] (by simp[sizeLim])
  have hB4:=hB3.trans hb4
  obtain⟨v5,τ5,ha5,ho5,hb5,_⟩:=ex_ (by':=16) (enc:=e1) (fun _=>rfl) hB4.1 ho4 [s] (by simp[sizeLim])
  have hB5:=hB4.trans hb5
  obtain⟨v6,τ6,ha6,ho6,hb6,_⟩:=ex_ (by':=16) (enc:=e1) (fun _=>rfl) hB5.1 ho5 [[36,46]] (by simp[sizeLim])
  have hB6:=hB5.trans hb6;refine G4 ?_;refine Cx (Ai elC byW rfl rfl rfl) (Dv (len:=1)) rfl rfl (O1 (Av elC rfl slC rfl rfl rfl (new:=e1 [120]) rfl ha1) ?_);refine G3 ?_;refine L4 (Rr:=Dk []) (anns:=[⟨.pure,0,0⟩,⟨.pure,0,0⟩,⟨.read,0,0⟩,⟨.pure,0,0⟩,⟨.eff,0,1⟩,⟨.pure,0,1⟩,⟨.read,0,1⟩,⟨.eff,1,2⟩,⟨.pure,2,2⟩]) Di (Bw trivial) Kr ?_;refine G3 ?_;refine DF (Ai elC byW rfl rfl rfl) (DT (Av elC rfl slC rfl rfl rfl (new:=e1 [36,112]) rfl ha2) ?_);refine G2 ?_;refine DT (Av elC rfl slC rfl rfl rfl (new:=[[120]].flatMap e1) (X7 (enc:=e1) (sz:=1) (fun _=>rfl) _ _) ha3) ?_
  refine G2 ?_;refine⟨⟨trivial,trivial,fun τ _=>⟨τ,Ac (ldC (t:=9)) rfl rfl rfl⟩,trivial,trivial,trivial,fun τ _=>⟨τ,Ac (ldC (t:=22)) rfl rfl rfl⟩,trivial,trivial,trivial⟩,?_⟩
  refine G7 ?_;refine Ab rfl ?_ ?_<;>intro h2
  ·refine L4 (Rr:=Dk []) (anns:=[⟨.pure,0,0⟩,⟨.pure,0,0⟩,⟨.eff,0,1⟩,⟨.pure,0,1⟩,⟨.read,0,1⟩,⟨.eff,1,2⟩,⟨.pure,2,2⟩]) Di (Bw trivial) Kr ?_;refine G ?_;refine DF (Ai elC byW rfl rfl rfl) (DT (Av elC rfl slC rfl rfl rfl (new:=e1 [36,61]) rfl ha4) ?_);refine G2 ?_;refine DT (Av elC rfl slC rfl rfl rfl (new:=[s].flatMap e1) (X7 (enc:=e1) (sz:=1) (fun _=>rfl) _ _) ha5) ?_
   refine G2 ?_;refine⟨⟨trivial,trivial,trivial,trivial,fun τ _=>⟨τ,Ac (ldC (t:=22)) rfl rfl rfl⟩,trivial,trivial,trivial⟩,?_⟩
   refine G7 ?_;refine Ab rfl ?_ ?_<;>intro h3
   ·refine G2 ?_;refine Cx (Ai elC byW rfl rfl rfl) (Dv (len:=1)) rfl rfl (O1 (Av elC rfl slC rfl rfl rfl (new:=e1 [36,46]) rfl ha6) ?_);refine G8 ?_;exact⟨_,rfl,Af (Ox s),σ,am_ hw hB6,nl,ho6.fz (fun _=>rfl) (fun a ha=>hw.none ha) (A2 D9 _),rfl,rfl⟩
   ·exact absurd h3 (by decide)
  ·exact absurd h2 (by decide)
 ·exact absurd h1 (by decide)
def outX(s:Str):Nat->List Str
 |0=>[]
 |_+1=>Ox s
def Axf(s:Str)(b:Bool):AV:=if b=true then Af (Ox s)else nS
theorem f252(s:Str)(σ:Sto):Cv 252 [slV eSt 4 [Ag9 s]] σ (.tup [Axf s (Fb s),iV (if Fb s=true then 0 else 2)]):=by
 refine Aj Tryz.func252 rfl rfl fun hw hu0=>?_
 refine G12 ?_;refine Ab rfl ?_ ?_<;>intro h1
 ·exact absurd h1 (by simp)
 ·refine G5 ?_
  refine Ca (f275 (fun _=> !Fb s) [Ag9 s] 276 [] σ (by simp) (fun a ha=>by simp at ha;subst ha;exact f276 s (Fb s) σ (f292 s σ))) ?_
  refine G ?_;refine Ab rfl ?_ ?_<;>intro h2
  ·refine G6 ?_;refine B4 hw rfl ?_
   exact(by rw[show Fb s=false from by simpa using h2];rfl)
  ·iterate 13 refine G ?_
   refine Ci (fun q:Nat×AV=>[(4,q.2),(12,slV eSt 4 [Ag9 s]),(13,iV (.ofNat [Ag9 s].length)),(14,iV (.ofNat q.1))]) (fun q σ0=>q.1<=[Ag9 s].length/\Own σ0 (nx σ) e1 1 (outX s q.1) q.2/\Below (nx σ) σ σ0) (fun q=>[Ag9 s].length-q.1) (0,nS) SL ⟨aq_ _,.nil,.rfl'⟩ ?_
   rintro⟨i0,v0⟩ σ0 hP0;obtain⟨hi0,c7,cp⟩:i0<=[Ag9 s].length/\Own σ0 (nx σ) e1 1 (outX s i0) v0/\Below (nx σ) σ σ0:=hP0;refine G5 ?_;refine Ab rfl ?_ ?_<;>intro h3
   ·have h3n:=of_decide_eq_true h3
    have jz:i0=0:=by simp at h3n;omega
    subst jz
    have bc:0<1:=by omega
    have ha0:[Ag9 s][0]? =some (Ag9 s):=rfl
    obtain⟨v1,τ1,ha1,ho1,hb1,_⟩:=ex_ (by':=16) (enc:=e1) (fun _=>rfl) cp.1 c7 (Ox s) (by simp[sizeLim,outX,Ox])
    iterate 13 refine G ?_
    refine Ca (f278 s _) ?_;refine O1 (Av elC rfl slC rfl rfl rfl (new:=(Ox s).flatMap e1) (X7 (enc:=e1) (sz:=1) (fun _=>rfl) _ _) ha1) ?_
    refine G5 ?_;refine O1 (Bf slC rfl ho1.lenA.1 ho1.lenA.2) ?_;refine G2 ?_;refine Ab rfl ?_ ?_<;>intro h4
    ·exact absurd h4 (by simp[outX,Ox])
    ·refine G5 ?_
     refine⟨(0+1,v1),by show 1-1<1-0;omega,SL,bc,ho1,cp.trans hb1⟩
   ·have h3n:=of_decide_eq_false h3
    have po:i0=1:=by have:i0<=1:=hi0;simp at h3n;omega
    subst po;refine G7 ?_
    have hp:Fb s=true:=by simpa using h2
    refine G ?_
    exact⟨_,rfl,.tup [Af (Ox s),iV 0],σ,am_ hw cp,nl,.tup (.cons (c7.fz (fun _=>rfl) (fun a ha=>hw.none ha) (A2 D9 _)) (.cons (.same rfl) .nil)),by rw[hp];rfl,rfl⟩
theorem f219(s:Str)(σ:Sto):Cv 219 [sV s] σ (.bool (Fb s)):=by
 refine Aj Tryz.func219 rfl rfl fun hw hu0=>?_
 refine G6 ?_;refine Cx (Ai elC byW rfl rfl rfl) (Dv (len:=1)) rfl rfl ?_;refine G ?_;refine Cx (Ai elC byW rfl rfl rfl) (Dv (len:=1)) rfl rfl ?_;refine G ?_;refine Cx (Ai elC byW rfl rfl rfl) (Dv (len:=1)) rfl rfl ?_;refine Ca (f252 s _) ?_
 iterate 13 refine G ?_
 refine B4 hw rfl ?_
 exact(by cases Fb s<;>rfl)
theorem f218(s:Str)(σ:Sto):Cv 218 [sV s] σ (.bool (!Fb s)):=by
 refine Aj Tryz.func218 rfl rfl fun hw hu0=>?_
 refine G7 ?_;refine Ca (f219 s _) ?_;refine G4 ?_;refine B4 hw rfl ?_;exact rfl
theorem Nr{ρ:Ad}{σ:Sto}{Rr:Rec}{t r sz:Nat}{x y:Operand}{agg:Bool}{z:AV}{α:Type}{enc:α->AV}{m:SM α}{s:Str}{v:α}(h9:Fs Ew.P 9=true)(hi:mpI Ew.P t=some (9,z,sz,agg))(hx:Ah Ew ρ x=some (.mp r))(hm:B8 enc σ r m)(hy:Ah Ew ρ y=some (sV s))(hg:m.get s=some v):
  As Ew Rr (.lookup t x y false) ρ σ (enc v) σ:=by
 have:=W4 (Rr:=Rr) h9 hi hx hm hy
 grind
theorem Arz{ρ:Ad}{σ:Sto}{Rr:Rec}{t r sz:Nat}{x y:Operand}{agg:Bool}{z:AV}{α:Type}{enc:α->AV}{m:SM α}{s:Str}(h9:Fs Ew.P 9=true)(hi:mpI Ew.P t=some (9,z,sz,agg))(hx:Ah Ew ρ x=some (.mp r))(hm:B8 enc σ r m)(hy:Ah Ew ρ y=some (sV s))(hg:m.get s=none):
  As Ew Rr (.lookup t x y false) ρ σ z σ:=by
 have:=W4 (Rr:=Rr) h9 hi hx hm hy
 grind
theorem Ar0{ρ:Ad}{σ:Sto}{Rr:Rec}{x:Operand}{hi:Option Operand}{l:List Hp}{n:Nat}(hx:Ah Ew ρ x=some (slV eH 3 l))(h2:Iz Ew ρ hi=some (some (iV (.ofNat n))))(hn:n<=l.length):
  As Ew Rr (.slice 47 x none hi none) ρ σ (slV eH 3 (l.take n)) σ:=by
 have hb:Do l.length none none (some (iV (.ofNat n))) none=some (0,n,none):=by
  have h3:Nat.ble n l.length=true:=ar_ hn;have h4:Nat.ble 0 n=true:=rfl;simp only[Do,iV,My,h3,h4,Li,cond_true,be_,Mz]
 have:=Ag0 (Rr:=Rr) (σ:=σ) (lo:=none) (hi:=hi) (mx:=none) (elC (t:=47)) Qq hx rfl h2 rfl hb (aq_ _) hn;rw[db_,es_]at this
 rwa[show slV eH 3 (l.take n)=.sv ((l.take n).flatMap eH) 3 n none by unfold slV;rw[cb_,du_ hn]]
theorem Ai5:∀{l m:List Str},l.flatMap (fun s=>[sV s])=m.flatMap (fun s=>[sV s])->l=m
 |[],[],_=>rfl
 |[],_::_,h=>by simp at h
 |_::_,[],h=>by simp at h
 |a::l,b::m,h=>by
  simp only[bs_,ay_,bd_,dl_]at h
  have h1:a=b:=by have:=h.1;unfold sV at this;injection this with this;exact Fu.1 this
  rw[h1,Ai5 h.2]
theorem Ar1:∀{l m:List Hp},l.flatMap eH=m.flatMap eH->l=m
 |[],[],_=>rfl
 |[],b::_,h=>by simp[eH]at h
 |a::_,[],h=>by simp[eH]at h
 |a::l,b::m,h=>by
  simp only[bs_,eH,ay_,bd_,dl_]at h;obtain⟨h1,h2,h3,h4⟩:=h
  have e1:a.label=b.label:=by unfold sV at h1;injection h1 with h1;exact Fu.1 h1
  have e2:a.floating=b.floating:=by injection h2
  have e3:a.text=b.text:=by simp only[Af,slV,AV.sv.injEq]at h3;exact Ai5 h3.1
  rw[Ar1 h4];cases a;cases b;grind
theorem Auu{l m:List Hp}(h:slV eH 3 l=slV eH 3 m):l=m:=by unfold slV at h;injection h with h;exact Ar1 h
theorem Ar2{f:Nat}{a a':List AV}{s:Sto}{v v':AV}{r:List (Nat×List AV×Sto×AV×Sto)}(h:a'=a->v=v'):Dk ((f,a,s,v,s)::(f,a',s,v',s)::r) (.fn f) a' s=some (v',s):=by
 by_cases e:a'=a
 ·unfold Dk;grind
 ·unfold Dk;rw[if_neg (fun hh=>e hh.2.1)];unfold Dk;grind
def Oy(d:Db):AV:=.tup [slV eH 3 ((Fa d).getD []),.bool (Fa d).isSome]
theorem Qt{d:Db}(hne:d.frames.length≠0)(h:Ow d d.frames 0 ([],[])=none):Fa d=none:=by unfold Fa;grind
theorem Apl{α:Type}{f:α->Bool}:∀{l:List α} {p:α×List α},p∈Ht l->l.all f=(f p.1&&p.2.all f)
 |[],p,h=>by simp[Ht]at h
 |x::m,p,h=>by
  simp only[Ht,an_,bt_]at h
  rcases h with rfl|⟨q,hq,rfl⟩
  ·rfl
  ·simp only[cs_,Apl hq]
   grind
theorem Z3{l:List Hp}{h:Hp}(hm:h∈flo l):h∈l/\h.floating=true:=by
 have:=cp_.1 hm
 exact⟨this.1,by have h2:=this.2;simpa[Vd]using h2⟩
theorem f179(h:Hp)(σ:Sto):Cv 179 [.agg (eH h)] σ (.bool h.floating):=by
 refine Aj Tryz.func179 rfl rfl fun hw hu0=>?_
 refine G12 ?_;refine B4 hw rfl ?_;exact rfl
theorem f146(d:Db)(σ:Sto)(hB:DbB d)(hfl:∀f∈d.frames,∀h∈f.all,h.floating=true->∃a b,h.text=[a,b])(jy:d.frames.length≠0->∀s,Ow d d.frames 0 ([],[])=some s->∀v∈d.vars,(s.1.get v).isSome=true):Cv 146 [dbV d] σ (Oy d):=by
 refine Aj Tryz.func146 rfl rfl fun hw hu0=>?_
 refine G6 ?_;refine Aue ?_;refine G8 ?_;refine Ab rfl ?_ ?_<;>intro h1
 ·refine G ?_;refine X0 ?_;refine G7 ?_;refine⟨rfl,rfl,?_⟩;have hfz:d.frames.length=0:=gr
  have e:Oy d=.tup [slV eH 3 [],.bool (decide (Int.ofNat d.vars.length=0))]:=by
   unfold Oy Fa;rw[if_pos hfz]
   by_cases hv:d.vars.length=0
   ·grind
   ·rw[if_neg hv,decide_eq_false gr];rfl
  refine G ?_
  exact⟨_,rfl,Oy d,σ,a_ hw nl (fun _ _=>rfl),nl,by rw[e];exact .tup (.cons Ex (.cons (.same rfl) .nil)),rfl,rfl⟩
 ·refine G3 ?_;refine O1 (Cd (n:=nx σ) Qo rfl) ?_;refine G4 ?_;refine O1 (Cd (n:=nx σ+1) Ae7 (nx1 rfl)) ?_;refine G10 ?_;have hbn:=hB.n;have hbv:=hB.v;have hne:d.frames.length≠0:=gr
  have c8:∃s,Pd σ ((σ.new (.map 9 [] 0)).new (.map 9 [] 0)) s/\Ow d d.frames 0 ([],[])=Ow d (d.frames.drop 0) 0 s:=by
   refine⟨([],[]),⟨gr,gr,⟨0,by rw[ag_,if_neg gr,ag_,if_pos rfl];rfl⟩,⟨[],⟨⟨0,by rw[ag_,if_pos (by rw[Ao])];rfl⟩,fun _=>rfl,fun _ _ _ h=>(by cases h),fun _ _ h=>(by cases h),fun _ _ _ h=>(by cases h)⟩⟩,fun _=>rfl⟩,rfl⟩
  refine G ?_;refine Bz d.frames.length (fun i0=>[(1,.pv [Af d.consts,Af d.vars,slV eF 8 d.frames]),(4,.mp (nx σ)),(5,.mp (nx σ+1)),(34,slV eF 8 d.frames),(35,iV (.ofNat d.frames.length)),(36,iV (.ofNat i0))]) (fun i0 σ0=>∃s,Pd σ σ0 s/\Ow d d.frames 0 ([],[])=Ow d (d.frames.drop i0) i0 s) SL c8 ?_
  rintro i0 σ0 hi0 ⟨s0,hO0,hf0⟩;refine G5 ?_;refine Ab rfl ?_ ?_<;>intro h2
  ·have bc:i0<d.frames.length:=gr;obtain⟨a0,ha0⟩:=Ar bc;have hd0:=A4 ha0;have hFa:=hB.f a0 (ab_ ha0);have bs:=hFa.a
   have hdl:a0.dummies.length<1000000:=by have:=hFa.a;simp[Fr.all]at this;omega
   have hhl:=hFa.h;have hs1:=H0 (p:=Vd) (l:=a0.hyps);have hs2:=H0 (p:=Vd) (l:=a0.dummies);have hs1':(flo a0.hyps).length<=a0.hyps.length:=hs1;have hs2':(flo a0.dummies).length<=a0.dummies.length:=hs2;refine G8 ?_;refine Rn ziC ldC rfl rfl (fun _=>rfl) rfl (fun _=>rfl) rfl rfl rfl rfl rfl ?_
   refine G2 ?_;refine XI (l:=[(178,[slV eH 3 a0.hyps],σ0,slV eH 3 (flo a0.hyps),σ0),(178,[slV eH 3 a0.dummies],σ0,slV eH 3 (flo a0.dummies),σ0)]) ⟨f178 a0.hyps σ0 hFa.h,f178 a0.dummies σ0 hdl,trivial⟩ ?_;refine G5 ?_
   refine DT (Bq rfl rfl (Ar2 (fun e=>by have:=Auu (List.cons.inj e).1;rw[this]))) ?_
   refine G3 ?_
   refine⟨rfl,by simp,?_⟩
   refine G7 ?_;refine O1 (D3 okC rfl rfl Om) ?_;refine G5 ?_;refine TOr 6 ?_ (fun hg=>?_) ?_
   rotate_left
   ·iterate 4 refine Gn hg ?_
    refine On hg (Uu elC Qq rfl rfl H0) (Bh rfl rfl rfl (by rw[hg];rfl) rfl rfl rfl rfl (f45 (fun h=>h.floating) (a0.hyps.drop (flo a0.hyps).length) 179 [] σ0 gr (fun a _=>f179 a σ0)) ?_)
    exact Ez
   refine G ?_;refine Ab rfl ?_ ?_<;>intro h3
   ·refine G5 ?_
    have hO:Fa d=none:=Qt hne (by rw[hf0,hd0,Ow,if_pos (show Arw d a0=true from h3)])
    refine G ?_
    exact⟨_,rfl,.tup [slV eH 3 [],.bool false],σ,am_ hw ⟨by have:=hO0.n;omega,hO0.g⟩,nl,.tup (.cons Ex (.cons (.same rfl) .nil)),by unfold Oy;rw[hO];rfl,rfl⟩
   ·have h3':Arw d a0=false:=h3;refine G5 ?_;refine O1 (G0 (z:=[nS,nS]) Kr Av7 rfl rfl) ?_;refine G3 ?_;refine Bz 2 (fun i2=>[(1,.pv [Af d.consts,Af d.vars,slV eF 8 d.frames]),(4,.mp (nx σ)),(5,.mp (nx σ+1)),(6,iV (.ofNat i0)),(34,slV eF 8 d.frames),(35,iV (.ofNat d.frames.length)),(36,iV (.ofNat i0)),(66,.agg [slV eH 3 (flo a0.hyps),slV eH 3 (flo a0.dummies)]),(67,iV (.ofNat i2))]) (fun i2 σ2=>∃s,Pd σ σ2 s/\Pb i0 [flo a0.hyps,flo a0.dummies] s0=Pb i0 ([flo a0.hyps,flo a0.dummies].drop i2) s) SL ⟨s0,hO0,rfl⟩ ?_
    rintro i2 σ2 hi2 ⟨s2,hO2,hf2⟩;refine G5 ?_;refine Ab rfl ?_ ?_<;>intro h4
    ·have bv:i2<2:=gr
     have p7:∀a2,[flo a0.hyps,flo a0.dummies][i2]? =some a2->Cz 1 false (([slV eH 3 (flo a0.hyps),slV eH 3 (flo a0.dummies)]:List AV).drop (i2*1))=some (slV eH 3 a2):=fun a2 ha=>by
      match i2,bv,ha with
      |0,_,ha=>cases ha;rfl
      |1,_,ha=>cases ha;rfl
     obtain⟨a2,ha2⟩:=Ar (show i2<[flo a0.hyps,flo a0.dummies].length from bv)
     have hd2:=A4 ha2
     have m0:∀h∈a2,∃a b,h.text=[a,b]:=fun h hh=>by
      have hm:=ab_ ha2;simp only[an_,cl_,or_false]at hm
      rcases hm with rfl|rfl
      ·exact hfl a0 (ab_ ha0) h (by simp[Fr.all,(Z3 hh).1]) (Z3 hh).2
      ·exact hfl a0 (ab_ ha0) h (by simp[Fr.all,(Z3 hh).1]) (Z3 hh).2
     have hl2:a2.length<1000000:=by
      have hm:=ab_ ha2
      grind
     refine G5 ?_;refine O1 (Ao4 (v:=slV eH 3 a2) Av7 rfl rfl bv (p7 a2 ha2)) ?_;refine G9 ?_;refine Bz a2.length (fun i4=>[(1,.pv [Af d.consts,Af d.vars,slV eF 8 d.frames]),(4,.mp (nx σ)),(5,.mp (nx σ+1)),(6,iV (.ofNat i0)),(11,slV eH 3 a2),(34,slV eF 8 d.frames),(35,iV (.ofNat d.frames.length)),(36,iV (.ofNat i0)),(66,.agg [slV eH 3 (flo a0.hyps),slV eH 3 (flo a0.dummies)]),(67,iV (.ofNat i2)),(70,slV eH 3 a2),(71,iV (.ofNat a2.length)),(72,iV (.ofNat i4))]) (fun i4 σ4=>∃s,Pd σ σ4 s/\Yw i0 a2 a2 0 s2=Yw i0 a2 (a2.drop i4) i4 s) SL ⟨s2,hO2,rfl⟩ ?_
     rintro i4 σ4 hi4 ⟨s4,hO4,hf4⟩;refine G5 ?_;refine Ab rfl ?_ ?_<;>intro h5
     ·have dy:i4<a2.length:=gr;obtain⟨a4,ha4⟩:=Ar dy;have hd4:=A4 ha4;obtain⟨t0,t1,htx⟩:=m0 a4 (ab_ ha4);have htv:txv a4=t1:=Z2 htx;refine Bo fun hw4=>?_
      refine G8 ?_;refine Rn ziC ldC rfl rfl (fun _=>rfl) rfl (fun _=>rfl) rfl rfl rfl rfl rfl ?_
      refine G5 ?_
      refine O1 (A1 elC (fun _=>rfl) rfl rfl (by grind:a4.text[1]? =some t1) (i:=1)) ?_
      refine G3 ?_;refine Ak6 (fun L τ=>L=[(1,.pv [Af d.consts,Af d.vars,slV eF 8 d.frames]),(4,.mp (nx σ)),(5,.mp (nx σ+1)),(6,iV (.ofNat i0)),(11,slV eH 3 a2),(12,iV (.ofNat i4)),(13,.pv (eH a4)),(14,sV t1),(34,slV eF 8 d.frames),(35,iV (.ofNat d.frames.length)),(36,iV (.ofNat i0)),(66,.agg [slV eH 3 (flo a0.hyps),slV eH 3 (flo a0.dummies)]),(67,iV (.ofNat i2)),(70,slV eH 3 a2),(71,iV (.ofNat a2.length)),(72,iV (.ofNat i4))]/\Pd σ τ (Pi i0 a4 s4)) ?_ ?_
      ·refine G5 ?_;refine Ab rfl ?_ ?_<;>intro h6
       ·have jz:i0=0:=gr;have hn4:=hO4.n;obtain⟨refs4,hA4⟩:=id hO4.a;obtain⟨v1,hv1⟩:=id hO4.o;obtain⟨v2,hv2⟩:=id hA4.m;have hm1:(σ4.new (.map 9 [] 0)).get (nx σ)=some (.map 9 (Cn hV s4.1) v1):=gr;have hm2:(((σ4.new (.map 9 [] 0)).set (nx σ) (.map 9 (Td hV (.agg [.str [],.bool false,nS]) s4.1 t1) (v1+1))).new (.stamp (nx σ) (v1+1) (kS t1))).get (nx (σ4.new (.map 9 [] 0)))=some (.stamp (nx σ) (v1+1) (kS t1)):=gr
        have hm3:(((σ4.new (.map 9 [] 0)).set (nx σ) (.map 9 (Td hV (.agg [.str [],.bool false,nS]) s4.1 t1) (v1+1))).new (.stamp (nx σ) (v1+1) (kS t1))).get (nx σ)=some (.map 9 (Td hV (.agg [.str [],.bool false,nS]) s4.1 t1) (v1+1)):=by rw[ag_,if_neg gr,aa_,if_pos rfl]
        have hm4:((((σ4.new (.map 9 [] 0)).set (nx σ) (.map 9 (Td hV (.agg [.str [],.bool false,nS]) s4.1 t1) (v1+1))).new (.stamp (nx σ) (v1+1) (kS t1))).set (nx σ) (.map 9 (Cn hV (s4.1.put t1 a4)) (v1+1+1))).get (nx σ+1)=some (.map 9 (Cn (fun q=>AV.mp q) refs4) v2):=by rw[aa_,if_neg Om,ag_,if_neg gr,aa_,if_neg Om,ag_,if_neg gr];exact hv2
        have jl:Pd σ (((((σ4.new (.map 9 [] 0)).set (nx σ) (.map 9 (Td hV (.agg [.str [],.bool false,nS]) s4.1 t1) (v1+1))).new (.stamp (nx σ) (v1+1) (kS t1))).set (nx σ) (.map 9 (Cn hV (s4.1.put t1 a4)) (v1+1+1))).set (nx σ+1) (.map 9 (Cn (fun q=>AV.mp q) (refs4.put t1 (nx σ4))) (v2+1))) (Pi i0 a4 s4):=by
         rw[jz];refine hO4.first (ver:=v1+1+1) (ver2:=v2+1) hA4 hw4 gr gr gr ⟨0,?_⟩ (fun b h8 h9 h10=>?_)
         ·rw[aa_,if_neg Om,aa_,if_neg Om,ag_,if_neg gr,aa_,if_neg Om,ag_,if_pos rfl];rfl
         ·rw[aa_,if_neg Om,aa_,if_neg Om,ag_,if_neg gr,aa_,if_neg Om,ag_,if_neg Om]
        skip
        refine G6 ?_;refine Ca (f180 a4 σ4 gr) ?_;refine O1 (Gx Cr) (O1 (Ait (enc:=hV) (m:=s4.1) (s:=t1) st9 Qo rfl (hm1:(σ4.new (.map 9 [] 0)).get (nx σ)=some (.map 9 (Cn hV s4.1) v1)) rfl) ?_);refine G ?_;refine O1 (Ad1 (enc:=hV) (m:=s4.1) (s:=t1) (v:=a4) Qo rfl rfl rfl (fun te k1 k2=>H6 k1 k2 rfl) (hm2:(((σ4.new (.map 9 [] 0)).set (nx σ) (.map 9 (Td hV (.agg [.str [],.bool false,nS]) s4.1 t1) (v1+1))).new (.stamp (nx σ) (v1+1) (kS t1))).get (nx (σ4.new (.map 9 [] 0)))=_) (hm3:(((σ4.new (.map 9 [] 0)).set (nx σ) (.map 9 (Td hV (.agg [.str [],.bool false,nS]) s4.1 t1) (v1+1))).new (.stamp (nx σ) (v1+1) (kS t1))).get (nx σ)=_)) ?_
        refine O1 (Gh (v:=nx σ4) (enc:=fun q=>AV.mp q) st9 Ae7 rfl (hm4:((((σ4.new (.map 9 [] 0)).set (nx σ) (.map 9 (Td hV (.agg [.str [],.bool false,nS]) s4.1 t1) (v1+1))).new (.stamp (nx σ) (v1+1) (kS t1))).set (nx σ) (.map 9 (Cn hV (s4.1.put t1 a4)) (v1+1+1))).get (nx σ+1)=some (.map 9 (Cn (fun q=>AV.mp q) refs4) v2)) rfl rfl (fun te k1 k2=>by first|exact I0 k1 k2|exact I1 k1 k2|exact I2 k1 k2|exact Jn k1 k2|exact H6 k1 k2 rfl)) ?_
        refine G ?_;exact⟨[(1,.pv [Af d.consts,Af d.vars,slV eF 8 d.frames]),(4,.mp (nx σ)),(5,.mp (nx σ+1)),(6,iV (.ofNat i0)),(11,slV eH 3 a2),(12,iV (.ofNat i4)),(13,.pv (eH a4)),(14,sV t1),(34,slV eF 8 d.frames),(35,iV (.ofNat d.frames.length)),(36,iV (.ofNat i0)),(66,.agg [slV eH 3 (flo a0.hyps),slV eH 3 (flo a0.dummies)]),(67,iV (.ofNat i2)),(70,slV eH 3 a2),(71,iV (.ofNat a2.length)),(72,iV (.ofNat i4))],SL,rfl,jl⟩
       ·refine G ?_
        exact⟨[(1,.pv [Af d.consts,Af d.vars,slV eF 8 d.frames]),(4,.mp (nx σ)),(5,.mp (nx σ+1)),(6,iV (.ofNat i0)),(11,slV eH 3 a2),(12,iV (.ofNat i4)),(13,.pv (eH a4)),(14,sV t1),(34,slV eF 8 d.frames),(35,iV (.ofNat d.frames.length)),(36,iV (.ofNat i0)),(66,.agg [slV eH 3 (flo a0.hyps),slV eH 3 (flo a0.dummies)]),(67,iV (.ofNat i2)),(70,slV eH 3 a2),(71,iV (.ofNat a2.length)),(72,iV (.ofNat i4))],SL,rfl,by have h9:i0≠0:=gr;unfold Pi;grind⟩
      ·rintro L τ ⟨rfl,hO5⟩;obtain⟨refs,hA5⟩:=id hO5.a;have hn5:=hO5.n
       rcases hq:refs.get t1 with _|q
       ·refine G5 ?_;refine O1 (Arz st9 Ae7 rfl hA5.m rfl hq) (O1 (Ara Cr rfl) ?_);refine G ?_;refine Qh 6 true false rfl rfl rfl rfl rfl (Eh rfl) (fun hg=>?_) (fun hg=>?_) ?_
        ·cases hg
        ·iterate 6 refine Gn hg ?_
         refine G ?_;exact⟨rfl,sb⟩
        refine G ?_;refine Ab rfl (fun h7=>?_) gr
        refine G5 ?_
        have hH:Ai3 i0 (a2.take i4) a4 s4=none:=by
         have hAn:=hA5.s t1;rw[hq]at hAn;unfold Ai3;rw[htv];cases hx:(Pi i0 a4 s4).2.get t1 with
         |none=>rfl
         |some a=>rw[hx]at hAn;cases hAn
        have e1:Yw i0 a2 a2 0 s2=none:=by rw[hf4,hd4,Yw,hH]
        have e2:Pb i0 [flo a0.hyps,flo a0.dummies] s0=none:=by rw[hf2,hd2,Pb,e1]
        have e3:Ow d d.frames 0 ([],[])=none:=by rw[hf0,hd0,Ow,if_neg (fun hh=>Bool.noConfusion (h3'.symm.trans hh)),e2]
        have hO:Fa d=none:=Qt hne e3;refine G ?_
        exact⟨_,rfl,.tup [slV eH 3 [],.bool false],σ,am_ hw ⟨by omega,hO5.g⟩,nl,.tup (.cons Ex (.cons (.same rfl) .nil)),by unfold Oy;rw[hO];rfl,rfl⟩
       have hqn:=hA5.n t1 q hq;have hAq:=hA5.s t1;rw[hq]at hAq;obtain⟨aS,haS⟩:=bg_.1 hAq.symm;have hk5:=hO5.k t1;rw[haS]at hk5;obtain⟨h1H,h1e⟩:=bg_.1 hk5;refine G5 ?_;refine O1 (Nr (v:=q) (enc:=fun q=>AV.mp q) st9 Ae7 rfl hA5.m rfl hq) ?_
       refine O1 (Aq9 Cr rfl) ?_;refine G ?_;refine Qh 6 _ ?_ rfl rfl rfl rfl rfl (Eh rfl) (fun hg=>?_) (fun hg=>?_) ?_
       rotate_left
       ·iterate 2 refine Gn hg ?_
        refine On hg (Nr (v:=h1H) (enc:=hV) st9 Qo rfl hO5.o rfl h1e) ?_;refine Gn hg ?_
        refine Bh rfl rfl rfl (by rw[hg];rfl) rfl rfl rfl rfl (f181 h1H a4 τ gr) ?_
        refine Gn hg ?_;refine G ?_;refine⟨rfl,?_,?_⟩
        ·exact sb
        ·exact rfl
       ·cases hg
       refine G ?_;refine Ab rfl ?_ ?_<;>intro h7
       ·refine G5 ?_
        have hH:Ai3 i0 (a2.take i4) a4 s4=none:=by
         unfold Ai3;rw[htv,haS];simp only[h1e]
         rw[if_neg (by show ¬Am5 h1H a4=true;simpa using h7)]
        have e1:Yw i0 a2 a2 0 s2=none:=by rw[hf4,hd4,Yw,hH]
        have e2:Pb i0 [flo a0.hyps,flo a0.dummies] s0=none:=by rw[hf2,hd2,Pb,e1]
        have e3:Ow d d.frames 0 ([],[])=none:=by rw[hf0,hd0,Ow,if_neg (fun hh=>Bool.noConfusion (h3'.symm.trans hh)),e2]
        have hO:Fa d=none:=Qt hne e3;refine G ?_
        exact⟨_,rfl,.tup [slV eH 3 [],.bool false],σ,am_ hw ⟨by omega,hO5.g⟩,nl,.tup (.cons Ex (.cons (.same rfl) .nil)),by unfold Oy;rw[hO];rfl,rfl⟩
       ·have hsm:Am5 h1H a4=true:=gr;refine G5 ?_;refine O1 (Ar0 rfl rfl Om) ?_;refine G4 ?_;refine Bz (a2.take i4).length (fun i6=>[(1,.pv [Af d.consts,Af d.vars,slV eF 8 d.frames]),(4,.mp (nx σ)),(5,.mp (nx σ+1)),(6,iV (.ofNat i0)),(11,slV eH 3 a2),(14,sV t1),(34,slV eF 8 d.frames),(35,iV (.ofNat d.frames.length)),(36,iV (.ofNat i0)),(66,.agg [slV eH 3 (flo a0.hyps),slV eH 3 (flo a0.dummies)]),(67,iV (.ofNat i2)),(70,slV eH 3 a2),(71,iV (.ofNat a2.length)),(72,iV (.ofNat i4)),(106,slV eH 3 (a2.take i4)),(107,iV (.ofNat (a2.take i4).length)),(108,iV (.ofNat i6))]) (fun i6 σ6=>Fi σ6 q (Apf aS ((a2.take i4).take i6))/\nx σ6=nx τ/\∀b,b≠q->σ6.get b=τ.get b) SL ⟨hA5.a t1 q aS hq haS,rfl,fun _ _=>rfl⟩ ?_
        rintro i6 σ6 hi6 ⟨hs6,hn6,hg6⟩;refine G5 ?_;refine Ab rfl ?_ ?_<;>intro h8
        ·have m6:i6<(a2.take i4).length:=gr;obtain⟨a6,ha6⟩:=Ar m6;have hd6:=A4 ha6;have ha6m:a6∈a2:=cm_ (ab_ ha6);obtain⟨u0,u1,hux⟩:=m0 a6 ha6m;obtain⟨v6,hv6⟩:=id hs6;have hlt6':i6<a2.length:=gr;refine G9 ?_;refine XS (l:=[]) trivial ?_;refine G2 ?_;refine DF (Nr (v:=q) (enc:=fun q=>AV.mp q) st9 Ae7 rfl (hA5.m.of_get (hg6 _ Om)) rfl hq) ?_
         refine G2 ?_
         refine DF (A1 elC (fun _=>rfl) rfl rfl (by grind:a6.text[1]? =some u1) (i:=1)) ?_
         refine G ?_
         refine DT (Gh (v:=true) st9 Cr rfl hv6 rfl rfl (fun te k1 k2=>by first|exact I0 k1 k2|exact I1 k1 k2|exact I2 k1 k2|exact Jn k1 k2|exact H6 k1 k2 rfl)) ?_
         refine G5 ?_
         refine⟨m6,SL,by rw[Fw ha6,Apg,Z2 hux];exact dz_,gr,gr⟩
        ·have p8:(a2.take i4).length<=i6:=gr;rw[at_ p8]at hs6;refine G5 ?_
         refine⟨dy,SL,((Pi i0 a4 s4).1,(Pi i0 a4 s4).2.put t1 (Apf aS (a2.take i4))),hO5.turn hA5 hq gr hs6 hg6,by rw[hf4,hd4,Yw,Ai3,htv,haS];simp only[h1e];rw[if_pos (show Am9 (some h1H) a4=true from hsm)]⟩
     ·have jn:a2.length<=i4:=gr
      have hL4:Yw i0 a2 a2 0 s2=some s4:=by rw[hf4,ah_ jn];rfl
      refine G5 ?_
      refine⟨bv,SL,s4,hO4,by rw[hf2,hd2,Pb,hL4]⟩
    ·have ba:2<=i2:=gr
     have hLs:Pb i0 [flo a0.hyps,flo a0.dummies] s0=some s2:=by rw[hf2,ah_ (show[flo a0.hyps,flo a0.dummies].length<=i2 from ba)];rfl
     refine G5 ?_
     refine⟨bc,SL,s2,hO2,by rw[hf0,hd0,Ow,if_neg (fun hh=>Bool.noConfusion (h3'.symm.trans hh)),hLs]⟩
  ·have bj:d.frames.length<=i0:=gr
   have hF:Ow d d.frames 0 ([],[])=some s0:=by rw[hf0,ah_ bj];rfl
   have hcv:=jy hne s0 hF;obtain⟨refs,hA0⟩:=id hO0.a;have hn0:=hO0.n;refine Bo fun hw0=>?_
   refine G7 ?_;refine O1 (Cd (n:=nx σ0) Cr rfl) ?_;refine G3 ?_;refine Aud ?_;refine G2 ?_;refine Ci (fun q:AV×SM Bool×List Hp=>[(1,.pv [Af d.consts,Af d.vars,slV eF 8 d.frames]),(4,.mp (nx σ)),(5,.mp (nx σ+1)),(17,q.1),(18,.mp (nx σ0))])
    (fun q σ8=>Own σ8 (nx σ0+1) eH 3 q.2.2 q.1/\Fi σ8 (nx σ0) q.2.1/\nx σ0+1<=nx σ8/\(∀b,b<nx σ0->σ8.get b=σ0.get b)/\q.2.2.length<=d.vars.length/\W7 d.vars s0 d.vars.length [] []=W7 d.vars s0 (d.vars.length-q.2.2.length) q.2.1 q.2.2)
    (fun q=>d.vars.length-q.2.2.length) (nS,[],[]) SL ⟨.nil,⟨0,by rw[ag_,if_pos rfl];rfl⟩,gr,gr,aq_ _,rfl⟩ ?_
   rintro⟨vo,done,out⟩ σ8 ⟨di,hd8,hn8,hg8,hl8,hf8⟩;simp only at di hd8 hl8 hf8;refine G4 ?_;refine O1 (Bf slC rfl di.lenA.1 di.lenA.2) ?_;refine G5 ?_;refine Ab rfl ?_ ?_<;>intro h3
   ·have hlt8:out.length<d.vars.length:=gr;refine G11 ?_;refine Bz d.vars.length (fun i10=>[(1,.pv [Af d.consts,Af d.vars,slV eF 8 d.frames]),(4,.mp (nx σ)),(5,.mp (nx σ+1)),(17,vo),(18,.mp (nx σ0)),(131,Af d.vars),(132,iV (.ofNat d.vars.length)),(133,iV (.ofNat i10))])
     (fun i10 σ10=>Own σ10 (nx σ0+1) eH 3 out vo/\Fi σ10 (nx σ0) done/\nx σ0+1<=nx σ10/\(∀b,b<nx σ0->σ10.get b=σ0.get b)/\d.vars.find? (rdy s0.2 done)=(d.vars.drop i10).find? (rdy s0.2 done)) SL ⟨di,hd8,hn8,hg8,rfl⟩ ?_
    rintro i10 σ10 hi10 ⟨jr,m7,hn10,bt,hf10⟩;refine Bo fun hw10=>?_
    refine G5 ?_;refine Ab rfl ?_ ?_<;>intro h4
    ·have i9:i10<d.vars.length:=gr;obtain⟨v10,gq⟩:=Ar i9;have hd10':=A4 gq;obtain⟨h1H,h1e⟩:=bg_.1 (hcv v10 (ab_ gq));have hk0:=hO0.k v10;rw[h1e]at hk0;obtain⟨aS,haS⟩:=bg_.1 hk0.symm;have m8:=hA0.s v10;rw[haS]at m8;obtain⟨q,hq⟩:=bg_.1 m8;have hqs:=hA0.a v10 q aS hq haS;have p9:q<nx σ0:=hqs.lt hw0;obtain⟨vq,hvq⟩:=hqs;have gn:σ10.get q=some (.map 9 (Cn bV aS) vq):=(bt q p9).trans hvq
     iterate 13 refine G ?_
     refine O1 (De st9 Cr rfl m7 rfl) ?_;refine G8 ?_;refine O1 (Nr (v:=q) (enc:=fun q=>AV.mp q) st9 Ae7 rfl (hA0.m.of_get (bt _ Om)) rfl hq) ?_
     refine O1 (Air Cr rfl gn) ?_;refine G2 ?_;refine Ci (fun q12:Bool×SM Bool=>[(1,.pv [Af d.consts,Af d.vars,slV eF 8 d.frames]),(4,.mp (nx σ)),(5,.mp (nx σ+1)),(17,vo),(18,.mp (nx σ0)),(20,sV v10),(21,.bool q12.1),(131,Af d.vars),(132,iV (.ofNat d.vars.length)),(133,iV (.ofNat i10)),(144,.it (nx σ10))])
      (fun q12 σ12=>(∃cur,σ12.get (nx σ10)=some (.iter (some q) vq (Cn bV q12.2) cur))/\nx σ12=nx σ10+1/\(∀b,b<nx σ10->σ12.get b=σ10.get b)/\rdy s0.2 done v10=(q12.1&&q12.2.all fun p=>done.has p.1))
      (fun q12=>q12.2.length) (!done.has v10,aS) SL
      ⟨⟨none,gr⟩,Ao _ _,gr,by unfold rdy;rw[haS];rfl⟩ ?_
     rintro⟨ready,left⟩ σ12 ⟨⟨cur,hit⟩,hn12,ii,qb⟩;simp only at hit qb;have m9:Fi σ12 (nx σ0) done:=m7.of_get (ii _ Om);have js:Own σ12 (nx σ0+1) eH 3 out vo:=jr.mono Om fun a tl _ _ h9 _=>ii a h9
     refine G ?_
     refine Ard rfl rfl rfl hit (by show(match σ12.get q with|some (.map _ _ v)=>Nat.beq v vq|_=>false)=true;rw[ii q Om,gn];exact aw_ _) (fun h0=>?_) (fun p hp=>?_)
     ·have h0':left=[]:=by cases left with
       |nil=>rfl
       |cons x l=>cases h0
      subst h0';have hr:rdy s0.2 done v10=ready:=gr;have io:Fi (σ12.set (nx σ10) (.iter (some q) vq [] none)) (nx σ0) done:=m9.set Om;have gu:Own (σ12.set (nx σ10) (.iter (some q) vq [] none)) (nx σ0+1) eH 3 out vo:=js.mono gr gr;refine G3 ?_;refine Ab rfl gr (fun h5=>?_)
      refine G5 ?_;refine Ab rfl ?_ ?_<;>intro h6
      ·have hr6:ready=true:=h6;have hfd:d.vars.find? (rdy s0.2 done)=some v10:=gr;obtain⟨vd,hvd⟩:=id io;have jt:Own ((σ12.set (nx σ10) (.iter (some q) vq [] none)).set (nx σ0) (.map 9 (Cn bV (done.put v10 true)) (vd+1))) (nx σ0+1) eH 3 out vo:=gu.mono gr gr;have nb:nx σ0+1<=nx ((σ12.set (nx σ10) (.iter (some q) vq [] none)).set (nx σ0) (.map 9 (Cn bV (done.put v10 true)) (vd+1))):=gr
       have bn:(out.length+[h1H].length)*(48+1)<=sizeLim:=by simp[sizeLim];omega
       obtain⟨v1,τ1,hap,ho1,hb1,_⟩:=jt.app (by':=48) Qq nb [h1H] bn
       have bi:∀b,b<nx σ0->((σ12.set (nx σ10) (.iter (some q) vq [] none)).set (nx σ0) (.map 9 (Cn bV (done.put v10 true)) (vd+1))).get b=σ0.get b:=gr;refine G4 ?_;refine O1 (Gh (v:=true) st9 Cr rfl hvd rfl rfl (fun te k1 k2=>I0 k1 k2)) ?_
       refine G6 ?_;refine O1 (Nr (v:=h1H) (enc:=hV) st9 Qo rfl (hO0.o.of_get (bi _ Om)) rfl h1e) ?_;refine Cx (Ai elC byW rfl rfl rfl) (Dv (len:=1)) rfl rfl (O1 (Av elC rfl slC rfl rfl rfl (new:=eH h1H) rfl hap) ?_);refine G3 ?_;refine⟨(v1,done.put v10 true,out++[h1H]),gr,SL,ho1,⟨vd+1,?_⟩,ai_ nb hb1.1,fun b hb=>(hb1.2 b Om).trans (bi b hb),gr,?_⟩
       ·rw[hb1.2 (nx σ0) Om,aa_,if_pos rfl]
       ·rw[hf8]
        show _=W7 d.vars s0 (d.vars.length-(out++[h1H]).length) (done.put v10 true) (out++[h1H])
        rw[show d.vars.length-out.length=(d.vars.length-(out++[h1H]).length)+1 by rw[bx_];simp;omega,W7,hfd]
        grind
      ·have hr6:ready=false:=h6;refine G5 ?_;refine⟨i9,SL,gu,io,gr,gr,?_⟩
       grind
     ·obtain⟨pq,hpq,rfl⟩:=Tc hp;obtain⟨_,_,hpl⟩:=Rp hpq;have io:Fi (σ12.set (nx σ10) (.iter (some q) vq (Cn bV pq.2) (some (kS pq.1.1,bV pq.1.2)))) (nx σ0) done:=m9.set Om;refine G3 ?_;refine Ab rfl (fun h5=>?_) gr
      refine G4 ?_
      refine O1 (Ais rfl (by rw[aa_,if_pos rfl]) (by rw[aa_,if_neg Om,ii q Om];exact gn)) ?_
      refine G6 ?_;refine Hq 3 _ ?_ rfl rfl rfl rfl rfl (Eh rfl) (fun hg=>?_) (fun hg=>?_) ?_
      rotate_left
      ·refine Bi rfl rfl rfl rfl gr noR rfl rfl (Ag rfl) ?_;refine Bi rfl rfl rfl rfl gr noR rfl rfl (Ag rfl) ?_;refine Bi rfl rfl rfl rfl gr noR rfl rfl (De (s:=pq.1.1) st9 Cr rfl io rfl) ?_;refine G ?_;refine⟨rfl,?_,?_⟩
       ·exact sb
       ·exact rfl
      ·refine Co rfl rfl rfl rfl gr rfl ?_;refine Co rfl rfl rfl rfl gr rfl ?_;refine Co rfl rfl rfl rfl gr rfl ?_;refine G ?_;exact⟨rfl,sb⟩
      refine G2 ?_
      refine⟨(ready&&done.has pq.1.1,pq.2),gr,SL,⟨_,by rw[aa_,if_pos rfl]⟩,gr,gr,?_⟩
      grind
    ·have hge10:d.vars.length<=i10:=gr;have hfd:d.vars.find? (rdy s0.2 done)=none:=gr
     have hO:Fa d=none:=by
      unfold Fa;rw[if_neg hne,hF]
      show W7 d.vars s0 d.vars.length [] []=none
      rw[hf8,show d.vars.length-out.length=(d.vars.length-out.length-1)+1 by omega,W7,hfd]
     refine G7 ?_
     exact⟨_,rfl,.tup [slV eH 3 [],.bool false],σ,am_ hw ⟨by omega,fun b hb=>(bt b Om).trans (hO0.g b hb)⟩,nl,.tup (.cons Ex (.cons (.same rfl) .nil)),by unfold Oy;rw[hO];rfl,rfl⟩
   ·have hge8:d.vars.length<=out.length:=gr
    have hO:Fa d=some out:=by
     unfold Fa;rw[if_neg hne,hF]
     show W7 d.vars s0 d.vars.length [] []=some out
     rw[hf8,show d.vars.length-out.length=0 by omega];rfl
    refine G8 ?_
    exact⟨_,rfl,.tup [slV eH 3 out,.bool true],σ,am_ hw ⟨by omega,fun b hb=>(hg8 b Om).trans (hO0.g b hb)⟩,nl,.tup (.cons (di.fz Qq (fun a ha=>hw.none Om) (A2 Mr _)) (.cons (.same rfl) .nil)),by unfold Oy;rw[hO];rfl,rfl⟩
end Go.AM
