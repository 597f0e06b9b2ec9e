/- A part. -/
import Derived.Shelf.Strings.FuncGrows
import Derived.Laws.Runes
import Derived.Deep.QuietTactic
import Derived.BigQuiet
import Derived.Test.YtmkaboegdoadhaaGreatDoorW14
set_option maxRecDepth 100000
set_option maxHeartbeats 4000000
set_option linter.unusedSimpArgs false
set_option linter.unusedVariables false
namespace Go.AM
open Go Go.Proofs
def txv(h:Hp):Str:=h.text.tail.headD []
def Apf(s:SM Bool)(l:List Hp):SM Bool:=l.foldl (fun m b=>m.put (txv b) true) s
abbrev Ord:=SM Hp×SM (SM Bool)
def Pi(i:Nat)(h:Hp)(s:Ord):Ord:=if i=0 then(s.1.put (txv h) h,s.2.put (txv h) [])else s
def Ai3(i:Nat)(pre:List Hp)(h:Hp)(s:Ord):Option Ord:=
 match(Pi i h s).2.get (txv h)with
 |none=>none
 |some a=>if Am9 ((Pi i h s).1.get (txv h)) h=true then some ((Pi i h s).1,(Pi i h s).2.put (txv h) (Apf a pre))else none
def Yw(i:Nat)(all:List Hp):List Hp->Nat->Ord->Option Ord
 |[],_,s=>some s
 |h::r,n,s=>match Ai3 i (all.take n) h s with
  |none=>none
  |some s'=>Yw i all r (n+1) s'
def Pb(i:Nat):List (List Hp)->Ord->Option Ord
 |[],s=>some s
 |l::r,s=>match Yw i l l 0 s with
  |none=>none
  |some s'=>Pb i r s'
def flo(l:List Hp):List Hp:=Eo Vd l
def Arw(d:Db)(f:Fr):Bool:= !decide (Int.ofNat ((flo f.hyps).length+(flo f.dummies).length)=Int.ofNat d.vars.length)||(f.hyps.drop (flo f.hyps).length).any (fun h=>h.floating)
def Ow(d:Db):List Fr->Nat->Ord->Option Ord
 |[],_,s=>some s
 |f::r,i,s=>if Arw d f=true then none else match Pb i [flo f.hyps,flo f.dummies] s with
  |none=>none
  |some s'=>Ow d r (i+1) s'
def rdy(a:SM (SM Bool))(done:SM Bool)(v:Str):Bool:= !done.has v&&((a.get v).getD []).all (fun p=>done.has p.1)
def W7(vars:List Str)(s:Ord):Nat->SM Bool->List Hp->Option (List Hp)
 |0,_,out=>some out
 |n+1,done,out=>match vars.find? (rdy s.2 done)with
  |none=>none
  |some v=>match s.1.get v with
   |none=>none
   |some h=>W7 vars s n (done.put v true) (out++[h])
def Fa(d:Db):Option (List Hp):=
 if d.frames.length=0 then(if d.vars.length=0 then some []else none)
 else match Ow d d.frames 0 ([],[])with
  |none=>none
  |some s=>W7 d.vars s d.vars.length [] []
structure Ag8 (J:Sto)(N r:Nat)(A:SM (SM Bool))(refs:SM Nat):Prop where
 m:B8 (fun q=>AV.mp q) J r refs
 s:∀v,(refs.get v).isSome=(A.get v).isSome
 a:∀v q s,refs.get v=some q->A.get v=some s->Fi J q s
 n:∀v q,refs.get v=some q->N<=q
 i:∀v v' q,refs.get v=some q->refs.get v'=some q->v=v'
theorem Ag8.new{J J' N r q ver A refs v}(h:Ag8 J N r A refs)(hw:WFS J)(hr:r<N)(hN:N<=nx J)(hq:q=nx J)(hm:J'.get r=some (.map 9 (Cn (fun q=>AV.mp q) (refs.put v q)) ver))(hs:Fi J' q [])
  (hg:∀b,N<=b->b<nx J->J'.get b=J.get b):Ag8 J' N r (A.put v []) (refs.put v q):=by
 refine⟨⟨ver,hm⟩,fun u=>?_,fun u p s k1 k2=>?_,fun u p k1=>?_,fun u u' p k1 k2=>?_⟩
 ·rw[ch_,ch_];split<;>first|rfl|exact h.s u
 ·rw[ch_]at k1 k2
  split at k1
  ·grind
  ·rename_i e;rw[if_neg e]at k2
   exact(h.a u p s k1 k2).of_get (hg p (h.n u p k1) ((h.a u p s k1 k2).lt hw))
 ·rw[ch_]at k1
  split at k1
  ·grind
  ·exact h.n u p k1
 ·have lt:∀w p,refs.get w=some p->p<nx J:=fun w p hh=>by
   have:=h.s w;rw[hh]at this;obtain⟨s,hs⟩:=bg_.1 this.symm;exact(h.a w p s hh hs).lt hw
  rw[ch_]at k1 k2
  split at k1<;>split at k2
  ·grind
  ·grind
  ·grind
  ·exact h.i u u' p k1 k2
theorem Ag8.upd{J J' N r q A refs v s}(h:Ag8 J N r A refs)(hq:refs.get v=some q)(hr:J'.get r=J.get r)(hs:Fi J' q s)
  (hg:∀b,N<=b->b≠q->J'.get b=J.get b):Ag8 J' N r (A.put v s) refs:=by
 refine⟨h.m.of_get hr,fun u=>?_,fun u p t k1 k2=>?_,h.n,h.i⟩
 ·rw[ch_]
  split
  ·grind
  ·exact h.s u
 ·rw[ch_]at k2
  split at k2
  ·grind
  ·rename_i e
   refine(h.a u p t k1 k2).of_get (hg p (h.n u p k1) fun hh=>e ?_)
   subst hh;exact h.i u v p k1 hq
end Go.AM
namespace Go.AM
open Go Go.Proofs
structure Pd (J U:Sto)(s:Ord):Prop where
 n:nx J+2<=nx U
 g:∀b,b<nx J->U.get b=J.get b
 o:B8 hV U (nx J) s.1
 a:∃refs,Ag8 U (nx J+2) (nx J+1) s.2 refs
 k:∀v,(s.1.get v).isSome=(s.2.get v).isSome
theorem Apg{s l b}:Apf s (l++[b])=(Apf s l).put (txv b) true:=by unfold Apf;grind
theorem Z2{h a b}(e:h.text=[a,b]):txv h=b:=by unfold txv;rw[e];rfl
theorem Axc{i h s}(hk:∀v,(s.1.get v).isSome=(s.2.get v).isSome):∀v,((Pi i h s).1.get v).isSome=((Pi i h s).2.get v).isSome:=fun v=>by
 unfold Pi
 split
 ·simp only[ch_];split<;>first|rfl|exact hk v
 ·exact hk v
theorem Pd.first{J U U' s h ver ver2 refs}(hO:Pd J U s)(hA:Ag8 U (nx J+2) (nx J+1) s.2 refs)(hw:WFS U)(hn:nx U<=nx U')(ho:U'.get (nx J)=some (.map 9 (Cn hV (s.1.put (txv h) h)) ver))
  (hr:U'.get (nx J+1)=some (.map 9 (Cn (fun q=>AV.mp q) (refs.put (txv h) (nx U))) ver2))(hs:Fi U' (nx U) [])(hg:∀b,b<nx U->b≠nx J->b≠nx J+1->U'.get b=U.get b):Pd J U' (Pi 0 h s):=by
 have hN:=hO.n
 refine⟨by omega,fun b hb=>(hg b Om Om Om).trans (hO.g b hb),⟨ver,ho⟩,⟨_,hA.new hw Om hN rfl hr hs fun b h1 h2=>hg b h2 Om Om⟩,Axc hO.k⟩
theorem Pd.turn{J U U' s a v q refs}(hO:Pd J U s)(hA:Ag8 U (nx J+2) (nx J+1) s.2 refs)(hq:refs.get v=some q)(hn:nx U<=nx U')(hs:Fi U' q a)(hg:∀b,b≠q->U'.get b=U.get b):Pd J U' (s.1,s.2.put v a):=by
 have hN:=hO.n;have hqn:=hA.n v q hq
 refine⟨by omega,fun b hb=>(hg b Om).trans (hO.g b hb),hO.o.of_get (hg _ Om),⟨refs,hA.upd hq (hg _ Om) hs fun b _ h2=>hg b h2⟩,fun u=>?_⟩
 show(s.1.get u).isSome=_
 rw[ch_,hO.k u]
 split
 ·rename_i e;subst e
  have:=hA.s u;grind
 ·rfl
section
open Go Go.Proofs Go.RowKit
def Gb:ByteArray:=⟨#[45,95,46,63]⟩
theorem Aur(p)(h:p<Gb.size):(Utf8.decode Gb p).2=1/\((Utf8.decode Gb p).1:Int)≠65533:=by
 have h4:p<4:=h
 match p,h4 with
 |0,_=>decide
 |1,_=>decide
 |2,_=>decide
 |3,_=>decide
set_option maxRecDepth 1000000 in
theorem Arx (w : World) : Calls Tryz.prog 299 #[.string Gb,.int .i32 65533] w fun e w' => e = .returned (.int .i64 (-1)) /\ Go.RowKit.Below w.heap.size w w' := by
 go_enter Tryz.func299,Tryz.ntmps299
 go_wp2
 go_loopg [] 4 (fun gf wx => ∃ pos : Nat,wx.heap[w.heap.size]? = some (.stringIter Gb pos) /\ Go.RowKit.Below w.heap.size w wx /\ Gb.size <= pos + gf)
 case atStart => exact ⟨0,World.iter_heap w Gb 0,(Go.RowKit.Below.refl _ w).alloc nl _,nl⟩
 case round =>
  obtain ⟨pos,hit,hbw,hfu⟩ := hrel
  by_cases hps : pos < Gb.size
  ·obtain ⟨g',rfl⟩ : ∃ g',gk = g' + 1 := ⟨gk - 1,by omega⟩
   have hnx : ∀ ty,(Instr.next (.pointer (some ⟨w.heap.size,0,none⟩)) true ty).run Tryz.prog wr = _ := fun ty => Lib.run_next_any_at wr w.heap.size Gb pos ty hit hps
   obtain ⟨hd1,hd2⟩ := Aur pos hps;obtain ⟨R,hR⟩ : ∃ R,(Utf8.decode Gb pos).1 = R := ⟨_,rfl⟩;rw [hR] at hd2;rw [hR,hd1] at hnx;have pe := Lib.iterAt_heap wr w.heap.size Gb pos (pos + 1) hit;have pi := Lib.below_iterAt hbw (k := w.heap.size) nl Gb (pos + 1);obtain ⟨W,hWd⟩ : ∃ W,wr.iterAt w.heap.size Gb (pos + 1) = W := ⟨_,rfl⟩;rw [hWd] at hnx pe pi
   go_wp2
   go_roundg g'
   case measure => omega
   grind
  ·have hnx : ∀ ty,(Instr.next (.pointer (some ⟨w.heap.size,0,none⟩)) true ty).run Tryz.prog wr = _ := fun ty => Lib.run_next_end_at wr w.heap.size Gb pos ty hit hps
   go_wp2
   go_ret
   exact ⟨rfl,hbw⟩
set_option maxRecDepth 1000000 in
theorem Ary (x : Int) (h0 : 128 <= x) (h1 : Lib.validRune x = false) (h2 : x ≠ 65533) (w : World) : Calls Tryz.prog 299 #[.string Gb,.int .i32 x] w fun e w' => e = .returned (.int .i64 (-1)) /\ w' = w := by
 have hd0 : decide ((0 : Int) <= x) = true := by simp; omega
 have hd1 : decide (x < (128 : Int)) = false := by simp; omega
 have e295 : ∀ args w,(callFunc 302 args).run Tryz.prog w = .ok (.enter 302 args) w := enters_of Tryz.func302 Kr rfl
 go_enter Tryz.func299,Tryz.ntmps299
 go_wp2_with (go_at_fn 302; refine (Tryz.utf8_ValidRune _ _).mono ?_; rintro e w' ⟨rfl,hw⟩; rw [hw,h1])
 go_ret
 exact ⟨rfl,rfl⟩
theorem Aph(x)(h:128<=x):(∃a b:UInt8,Utf8.encode x=⟨#[a,b]⟩/\128<=b.toNat)∨(∃a b d:UInt8,Utf8.encode x=⟨#[a,b,d]⟩/\128<=d.toNat)∨∃a b d e:UInt8,Utf8.encode x=⟨#[a,b,d,e]⟩/\128<=e.toNat:=by
 have hb:∀n:Nat,128<=(UInt8.ofNat (0x80+n%64)).toNat:=fun n=>by
  rw[UInt8.toNat_ofNat'];omega
 unfold Utf8.encode;obtain⟨c,hc⟩:∃c,(if Utf8.valid x=true then x.toNat else Utf8.runeError)=c:=⟨_,rfl⟩
 have h128:128<=c:=by
  rw[←hc];split
  ·omega
  ·decide
 simp only[hc];rw[if_neg Om]
 split
 ·grind
 ·split
  ·grind
  grind
theorem All(s c w):Calls Tryz.prog 301 #[.string s,.int .u8 c] w fun e w'=>e=.returned (.int .i64 (Lib.indexByte s.data.toList c.toNat.toUInt8))/\w'=w:=Any.strings_IndexByte { Tryz.lays151 with } s c w
theorem And{b}(hb:128<=b.toNat):∀{l:List UInt8},(∀c∈l,c.toNat<128)->Lib.indexByte l b= -1
 |[],_=>rfl
 |c::l,h=>by
  have h1:(c==b)=false:=gr;have h2:=And hb (l:=l) fun x hx=>h x (aj_ _ hx)
  simp[Lib.indexByte,h1,h2]
set_option maxRecDepth 1000000 in
theorem Api (x : Int) (a b : UInt8) (he : Utf8.encode x = ⟨#[a,b]⟩) (hb : 128 <= b.toNat) (h0 : 128 <= x) (h1 : Lib.validRune x = true) (h2 : x ≠ 65533) (w : World) : Calls Tryz.prog 299 #[.string Gb,.int .i32 x] w fun e w' => e = .returned (.int .i64 (-1)) /\ Go.RowKit.Below w.heap.size w w' := by
 have hd0 : decide ((0 : Int) <= x) = true := by simp; omega
 have hd1 : decide (x < (128 : Int)) = false := by simp; omega
 have hd2 : decide ((95 : Int) = b.toNat) = false := by simp; omega
 have e295 : ∀ args w,(callFunc 302 args).run Tryz.prog w = .ok (.enter 302 args) w := enters_of Tryz.func302 Kr rfl;have e294 : ∀ args w,(callFunc 301 args).run Tryz.prog w = .ok (.enter 301 args) w := enters_of Tryz.func301 Kr rfl;have mixed : Tryz.prog.follows .mixedOrders = true := Kr;have hsz : Gb.size = 4 := rfl
 have hne : (((Gb[1]'(by decide)).toNat : Int) != (((⟨#[a,b]⟩ : ByteArray)[1]'(by show 1 < 2; omega)).toNat : Int)) = true := by
  show (((95 : Nat) : Int) != ((b.toNat : Nat) : Int)) = true
  simp; omega
 have hix : Lib.indexByte (Gb.extract 2 4).data.toList ((((⟨#[a,b]⟩ : ByteArray)[1]'gr).toNat : Int)).toNat.toUInt8 = -1 := by
  show Lib.indexByte [46,63] (b.toNat : Int).toNat.toUInt8 = -1
  rw [ei_,show b.toNat.toUInt8 = b from UInt8.ofNat_toNat]
  exact And hb (by decide)
 have hI : ∀ w,Calls Tryz.prog 301 #[.string (Gb.extract 2 4),.int .u8 (((⟨#[a,b]⟩ : ByteArray)[1]'gr).toNat : Int)] w fun e w' => e = .returned (.int .i64 (-1)) /\ w' = w := fun w => by
  have := All (Gb.extract 2 4) (((⟨#[a,b]⟩ : ByteArray)[1]'gr).toNat : Int) w
  grind
 clear hix
 have hwr : IntKind.i64.wrap 2 = 2 := by decide
 have kc : ∀ (w : World),(convert 21 9 (.int .i32 x)).run Tryz.prog w = .ok (.string ⟨#[a,b]⟩) w := fun w => by rw [← he]; exact run_convert_int_string (P := Tryz.prog) w 21 9 .i32 x (by rw [Tryz.underlying21]; rfl) Tryz.underlying9
 go_enter Tryz.func299,Tryz.ntmps299
 go_wp2_with (first | (go_at_fn 302; refine (Tryz.utf8_ValidRune _ _).mono ?_; rintro e w' ⟨rfl,hw⟩; rw [hw,h1]) | (go_at_fn 301; refine (Any.strings_IndexByte { Tryz.lays151 with } _ _ _).mono ?_; rintro e w' ⟨rfl,hw⟩; rw [hw]))
 refine wp_scope_straight ?_
 go_wp2
 go_loopg [9] 1 (fun gf s9 wx => s9 = .int .i64 1 /\ wx = w)
 case atStart => exact ⟨rfl,rfl⟩
 case round =>
  obtain ⟨rfl,rfl⟩ := hrel
  go_wp2
  refine wp_scope_straight ?_
  go_wp2
  go_quiet (fail)
  go_wp2
  go_quiet ((refine (hI _).mono fun e w'' h => ⟨h.1,_,h.2⟩))
  go_wp2
  simp only [Exit.noGoto,Exit.inBlock,Exit.then]
  go_ret
  exact ⟨rfl,below_drewNg _ _⟩
set_option maxRecDepth 1000000 in
theorem Apj (x : Int) (a b d : UInt8) (he : Utf8.encode x = ⟨#[a,b,d]⟩) (hb : 128 <= d.toNat) (h0 : 128 <= x) (h1 : Lib.validRune x = true) (h2 : x ≠ 65533) (w : World) : Calls Tryz.prog 299 #[.string Gb,.int .i32 x] w fun e w' => e = .returned (.int .i64 (-1)) /\ Go.RowKit.Below w.heap.size w w' := by
 have hd0 : decide ((0 : Int) <= x) = true := by simp; omega
 have hd1 : decide (x < (128 : Int)) = false := by simp; omega
 have hd2 : decide ((46 : Int) = d.toNat) = false := by simp; omega
 have e295 : ∀ args w,(callFunc 302 args).run Tryz.prog w = .ok (.enter 302 args) w := enters_of Tryz.func302 Kr rfl;have e294 : ∀ args w,(callFunc 301 args).run Tryz.prog w = .ok (.enter 301 args) w := enters_of Tryz.func301 Kr rfl;have mixed : Tryz.prog.follows .mixedOrders = true := Kr;have hsz : Gb.size = 4 := rfl
 have hne : (((Gb[2]'(by decide)).toNat : Int) != (((⟨#[a,b,d]⟩ : ByteArray)[2]'(by show 2 < 3; omega)).toNat : Int)) = true := by
  show (((46 : Nat) : Int) != ((d.toNat : Nat) : Int)) = true
  simp; omega
 have hix : Lib.indexByte (Gb.extract 3 4).data.toList ((((⟨#[a,b,d]⟩ : ByteArray)[2]'gr).toNat : Int)).toNat.toUInt8 = -1 := by
  show Lib.indexByte [63] (d.toNat : Int).toNat.toUInt8 = -1
  rw [ei_,show d.toNat.toUInt8 = d from UInt8.ofNat_toNat]
  exact And hb (by decide)
 have hI : ∀ w,Calls Tryz.prog 301 #[.string (Gb.extract 3 4),.int .u8 (((⟨#[a,b,d]⟩ : ByteArray)[2]'gr).toNat : Int)] w fun e w' => e = .returned (.int .i64 (-1)) /\ w' = w := fun w => by
  have := All (Gb.extract 3 4) (((⟨#[a,b,d]⟩ : ByteArray)[2]'gr).toNat : Int) w
  grind
 clear hix
 have hwr : IntKind.i64.wrap 3 = 3 := by decide
 have kc : ∀ (w : World),(convert 21 9 (.int .i32 x)).run Tryz.prog w = .ok (.string ⟨#[a,b,d]⟩) w := fun w => by rw [← he]; exact run_convert_int_string (P := Tryz.prog) w 21 9 .i32 x (by rw [Tryz.underlying21]; rfl) Tryz.underlying9
 go_enter Tryz.func299,Tryz.ntmps299
 go_wp2_with (first | (go_at_fn 302; refine (Tryz.utf8_ValidRune _ _).mono ?_; rintro e w' ⟨rfl,hw⟩; rw [hw,h1]) | (go_at_fn 301; refine (Any.strings_IndexByte { Tryz.lays151 with } _ _ _).mono ?_; rintro e w' ⟨rfl,hw⟩; rw [hw]))
 refine wp_scope_straight ?_
 go_wp2
 go_loopg [9] 1 (fun gf s9 wx => s9 = .int .i64 2 /\ wx = w)
 case atStart => exact ⟨rfl,rfl⟩
 case round =>
  obtain ⟨rfl,rfl⟩ := hrel
  go_wp2
  refine wp_scope_straight ?_
  go_wp2
  go_quiet (fail)
  go_wp2
  go_quiet ((refine (hI _).mono fun e w'' h => ⟨h.1,_,h.2⟩))
  go_wp2
  simp only [Exit.noGoto,Exit.inBlock,Exit.then]
  go_ret
  exact ⟨rfl,below_drewNg _ _⟩
set_option maxRecDepth 1000000 in
theorem Apk (x : Int) (a b d e : UInt8) (he : Utf8.encode x = ⟨#[a,b,d,e]⟩) (hb : 128 <= e.toNat) (h0 : 128 <= x) (h1 : Lib.validRune x = true) (h2 : x ≠ 65533) (w : World) : Calls Tryz.prog 299 #[.string Gb,.int .i32 x] w fun e w' => e = .returned (.int .i64 (-1)) /\ Go.RowKit.Below w.heap.size w w' := by
 have hd0 : decide ((0 : Int) <= x) = true := by simp; omega
 have hd1 : decide (x < (128 : Int)) = false := by simp; omega
 have hd2 : decide ((63 : Int) = e.toNat) = false := by simp; omega
 have e295 : ∀ args w,(callFunc 302 args).run Tryz.prog w = .ok (.enter 302 args) w := enters_of Tryz.func302 Kr rfl;have e294 : ∀ args w,(callFunc 301 args).run Tryz.prog w = .ok (.enter 301 args) w := enters_of Tryz.func301 Kr rfl;have mixed : Tryz.prog.follows .mixedOrders = true := Kr;have hsz : Gb.size = 4 := rfl
 have hne : (((Gb[3]'(by decide)).toNat : Int) != (((⟨#[a,b,d,e]⟩ : ByteArray)[3]'(by show 3 < 4; omega)).toNat : Int)) = true := by
  show (((63 : Nat) : Int) != ((e.toNat : Nat) : Int)) = true
  simp; omega
 have hix : Lib.indexByte (Gb.extract 4 4).data.toList ((((⟨#[a,b,d,e]⟩ : ByteArray)[3]'gr).toNat : Int)).toNat.toUInt8 = -1 := by
  show Lib.indexByte ([] : List UInt8) (e.toNat : Int).toNat.toUInt8 = -1
  rw [ei_,show e.toNat.toUInt8 = e from UInt8.ofNat_toNat]
  exact And hb (by decide)
 have hI : ∀ w,Calls Tryz.prog 301 #[.string (Gb.extract 4 4),.int .u8 (((⟨#[a,b,d,e]⟩ : ByteArray)[3]'gr).toNat : Int)] w fun e w' => e = .returned (.int .i64 (-1)) /\ w' = w := fun w => by
  have := All (Gb.extract 4 4) (((⟨#[a,b,d,e]⟩ : ByteArray)[3]'gr).toNat : Int) w
  grind
 clear hix
 have hwr : IntKind.i64.wrap 4 = 4 := by decide
 have kc : ∀ (w : World),(convert 21 9 (.int .i32 x)).run Tryz.prog w = .ok (.string ⟨#[a,b,d,e]⟩) w := fun w => by rw [← he]; exact run_convert_int_string (P := Tryz.prog) w 21 9 .i32 x (by rw [Tryz.underlying21]; rfl) Tryz.underlying9
 go_enter Tryz.func299,Tryz.ntmps299
 go_wp2_with (first | (go_at_fn 302; refine (Tryz.utf8_ValidRune _ _).mono ?_; rintro e w' ⟨rfl,hw⟩; rw [hw,h1]) | (go_at_fn 301; refine (Any.strings_IndexByte { Tryz.lays151 with } _ _ _).mono ?_; rintro e w' ⟨rfl,hw⟩; rw [hw]))
 refine wp_scope_straight ?_
 go_wp2
 go_loopg [9] 1 (fun gf s9 wx => s9 = .int .i64 3 /\ wx = w)
 case atStart => exact ⟨rfl,rfl⟩
 case round =>
  obtain ⟨rfl,rfl⟩ := hrel
  go_wp2
  refine wp_scope_straight ?_
  go_wp2
  go_quiet (fail)
  go_wp2
  go_quiet ((refine (hI _).mono fun e w'' h => ⟨h.1,_,h.2⟩))
  go_wp2
  simp only [Exit.noGoto,Exit.inBlock,Exit.then]
  go_ret
  exact ⟨rfl,below_drewNg _ _⟩
theorem Aus(x)(h0:128<=x)(w):Calls Tryz.prog 299 #[.string Gb,.int .i32 x] w fun e w'=>e=.returned (.int .i64 (-1))/\Go.RowKit.Below w.heap.size w w':=by
 by_cases h2:x=65533
 ·subst h2;exact Arx w
 ·cases h1:Lib.validRune x with
  |false=>exact(Ary x h0 h1 h2 w).mono fun e w' h=>⟨h.1,h.2▸Go.RowKit.Below.refl _ _⟩
  |true=>
   rcases Aph x h0 with⟨a,b,he,hb⟩|⟨a,b,d,he,hb⟩|⟨a,b,d,e,he,hb⟩
   ·exact Api x a b he hb h0 h1 h2 w
   ·exact Apj x a b d he hb h0 h1 h2 w
   ·exact Apk x a b d e he hb h0 h1 h2 w
def Afb(x:Int):Bool:=decide (x=45)||decide (x=95)||decide (x=46)||decide (x=63)
theorem Axd(x:Nat)(h:x<128):decide ((0:Int)<=Lib.indexByte Gb.data.toList x.toUInt8)=Afb x:=by
 have:∀x:Fin 128,decide ((0:Int)<=Lib.indexByte Gb.data.toList x.val.toUInt8)=Afb x.val:=by decide
 exact this ⟨x,h⟩
set_option maxRecDepth 1000000 in
theorem Aut (x : Nat) (w : World) : Calls Tryz.prog 297 #[.string Gb,.int .i32 x] w fun e w' => e = .returned (.bool (Afb x)) /\ Go.RowKit.Below w.heap.size w w' := by
 by_cases h : x < 128
 ·have := Tryz.strings_ContainsRune_ascii Gb (x : Int) w Om Om;rw [ei_,Axd x h] at this;exact this.mono fun e w' h => ⟨h.1,h.2 ▸ Go.RowKit.Below.refl _ _⟩
 ·have e292 : ∀ args w,(callFunc 299 args).run Tryz.prog w = .ok (.enter 299 args) w := enters_of Tryz.func299 Kr rfl
  have hi : Afb x = false := by simp [Afb]; omega
  rw [hi]
  go_enter Tryz.func297,Tryz.ntmps297
  go_wp2_with (go_at_fn 299; refine (Aus (x : Int) Om _).mono ?_; rintro e w' ⟨rfl,hw⟩)
  go_ret
  exact ⟨rfl,hw⟩
def prC(n:Int):Bool:=(((decide ((97:Int)<=n)&&decide (n<=122))||(decide ((65:Int)<=n)&&decide (n<=90)))||(decide ((48:Int)<=n)&&decide (n<=57)))||Afb n
end
section
open Go Go.Proofs Go.RowKit
set_option maxRecDepth 1000000 in
theorem g289 (x : Nat) (w : World) : Calls Tryz.prog 296 #[.int .i32 x] w fun e w' => e = .returned (.bool (!prC x)) /\ Go.RowKit.Below w.heap.size w w' := by
  have e290 : ∀ args w,(callFunc 297 args).run Tryz.prog w = .ok (.enter 297 args) w := enters_of Tryz.func297 Kr rfl;obtain ⟨X,hX⟩ : ∃ X : Int,(x : Int) = X := ⟨_,rfl⟩;have hR := Aut x;rw [hX] at hR ⊢;unfold prC;cases h1 : decide ((97 : Int) <= X) <;> cases h2 : decide (X <= 122) <;> cases h3 : decide ((65 : Int) <= X) <;> cases h4 : decide (X <= 90) <;> cases h5 : decide ((48 : Int) <= X) <;> cases h6 : decide (X <= 57) <;>
  (go_enter Tryz.func296,Tryz.ntmps296
   go_wp2_with (go_at_fn 297; refine (hR _).mono ?_; rintro e w' ⟨rfl,hw⟩)
   go_ret
   first | exact ⟨rfl,Go.RowKit.Below.refl _ _⟩ | exact ⟨rfl,hw⟩)
theorem Ai4{f:Nat}{args J b}(he:Aa2 Ew.P f)(h:∀C w (vs:Array Value),RL C (nx J) w args vs.toList->Calls Ew.P f vs w (fun e w'=>e=.returned (.bool b)/\Go.RowKit.Below w.heap.size w w')):Al Ew f args J fun u U=>u=.bool b/\U=J:=by
 intro C w vs hs hg ha;refine⟨he,(h C w vs ha).mono fun e w' hq=>?_⟩
 obtain⟨rfl,hb⟩:=hq;obtain⟨k1,k2⟩:=hs.same hb.size hb.block ⟨hb.os,hb.output⟩
 exact⟨.bool b,J,C,⟨rfl,rfl⟩,k1,k2,by unfold R;rfl⟩
def prS(s:Str):Bool:=decide (0<=Lib.idxFunc (fun x=> !prC x) true ⟨⟨s⟩⟩)
theorem Axe{C N w}{k:Nat}{x}(h:R C N w (.fn (.func k) [] []) x):x=.func (.func k) #[] #[]:=by
 unfold R at h;obtain⟨a,b,rfl,h1,h2⟩:=h
 have e:∀a:Array Value,RL C N w [] a.toList->a=#[]:=fun a h=>by
  obtain⟨l⟩:=a;cases l with
  |nil=>rfl
  |cons x r=>unfold RL at h;exact h.elim
 rw[e a h1,e b h2]
theorem f295(s J):Cv 295 [sV s,.fn (.func 296) [] []] J (.bool (prS s)):=by
 refine Ai4 ⟨_,Tryz.func295,rfl,rfl⟩ fun C w vs ha=>?_
 obtain⟨x,y,rfl,hx,hy⟩:=Art ha;obtain⟨a,rfl,rfl⟩:=Ars hx;rw[Axe hy];have e289:∀args w,(callFunc 296 args).run Tryz.prog w=.ok (.enter 296 args) w:=enters_of Tryz.func296 Kr rfl;exact Any.strings_ContainsFunc_grows Tryz.laysGw17 296 #[] e289 (fun x=> !prC x) a w fun W x _ _=>g289 x W
def Fb(s:Str):Bool:=(decide (s=[40])||decide (s=[41]))||(!decide (s=[])&& !prS s)
end
abbrev e1(s:Str):List AV:=[sV s]
def Ox(s:Str):List Str:=[[120],[36,112],[120],[36,61],s,[36,46]]
def Ag9(s:Str):Stm:=⟨7,[120],[[120]],[s]⟩
theorem D9{N}(s):AV.unds N (e1 s)=true:=rfl
theorem f292(s J):Cv 292 [sV s] J (.bool (Fb s)):=by
 refine Aj Tryz.func292 rfl rfl fun hw hu0=>?_
 refine G8 ?_;refine O1 (H5 (q:=[40]) okC rfl rfl) ?_;refine G ?_;refine TOr 2 ?_ (fun hg=>?_) ?_
 rotate_left
 ·refine Gn hg ?_;refine On hg (H5 (q:=[41]) okC rfl rfl) ?_;exact Ez
 refine G ?_;refine Ab rfl ?_ ?_<;>intro h1
 ·refine G5 ?_;refine B4 hw rfl ?_
  exact congrArg AV.bool (by unfold Fb;rw[show(decide (s=[40])||decide (s=[41]))=true from h1];rfl)
 ·refine G4 ?_;refine O1 (Ko (q:=[]) okC rfl rfl) ?_;refine G ?_;refine TAn 3 ?_ (fun hg=>?_) ?_
  rotate_left
  ·refine Gn hg ?_
   refine Bh rfl rfl rfl (by rw[hg];rfl) rfl rfl rfl rfl (f295 s _) ?_
   refine Gn hg ?_;exact Ez
  refine G3 ?_;refine B4 hw rfl ?_
  exact congrArg AV.bool (by unfold Fb;rw[show(decide (s=[40])||decide (s=[41]))=false from h1];rfl)
theorem f278(s J):Cv 278 [.agg (stX s)] J (Af (Ox s)):=by
 refine Aj Tryz.func278 rfl rfl fun hw hu0=>?_
 refine G9 ?_
 refine O1 (Bp Av8 rfl rfl (by decide) (n:=7) rfl) ?_
 iterate 13 refine G ?_
 refine Ab rfl ?_ ?_<;>intro h1
 ·obtain⟨v1,U1,ha1,ho1,hb1,_⟩:=ex_ (by':=16) (enc:=e1) (fun _=>rfl) (Nat.le_refl (nx J)) (Own.nil (sz:=1)) [[120]] (by simp[sizeLim])
  have hB1:=hb1
  obtain⟨v2,U2,ha2,ho2,hb2,_⟩:=ex_ (by':=16) (enc:=e1) (fun _=>rfl) hB1.1 ho1 [[36,112]] (by simp[sizeLim])
  have hB2:=hB1.trans hb2
  obtain⟨v3,U3,ha3,ho3,hb3,_⟩:=ex_ (by':=16) (enc:=e1) (fun _=>rfl) hB2.1 ho2 [[120]] (by simp[sizeLim])
  have hB3:=hB2.trans hb3
  obtain⟨v4,U4,ha4,ho4,hb4,_⟩:=ex_ (by':=16) (enc:=e1) (fun _=>rfl) hB3.1 ho3 [[36,61]] (by simp[sizeLim])
  have hB4:=hB3.trans hb4
  obtain⟨v5,U5,ha5,ho5,hb5,_⟩:=ex_ (by':=16) (enc:=e1) (fun _=>rfl) hB4.1 ho4 [s] (by simp[sizeLim])
  have hB5:=hB4.trans hb5
  obtain⟨v6,U6,ha6,ho6,hb6,_⟩:=ex_ (by':=16) (enc:=e1) (fun _=>rfl) hB5.1 ho5 [[36,46]] (by simp[sizeLim])
  have hB6:=hB5.trans hb6;refine G4 ?_;refine Cx (Ai elC byW rfl rfl rfl) (Dv (len:=1)) rfl rfl (O1 (Av elC rfl slC rfl rfl rfl (new:=e1 [120]) rfl ha1) ?_);refine G3 ?_;refine L4 (Rr:=Dk []) (anns:=[⟨.pure,0,0⟩,⟨.pure,0,0⟩,⟨.read,0,0⟩,⟨.pure,0,0⟩,⟨.eff,0,1⟩,⟨.pure,0,1⟩,⟨.read,0,1⟩,⟨.eff,1,2⟩,⟨.pure,2,2⟩]) Di (Bw trivial) Kr ?_;refine G3 ?_;refine DF (Ai elC byW rfl rfl rfl) (DT (Av elC rfl slC rfl rfl rfl (new:=e1 [36,112]) rfl ha2) ?_);refine G2 ?_;refine DT (Av elC rfl slC rfl rfl rfl (new:=[[120]].flatMap e1) (X7 (enc:=e1) (sz:=1) (fun _=>rfl) _ _) ha3) ?_
  refine G2 ?_;refine⟨⟨trivial,trivial,fun U _=>⟨U,Ac (ldC (t:=9)) rfl rfl rfl⟩,trivial,trivial,trivial,fun U _=>⟨U,Ac (ldC (t:=22)) rfl rfl rfl⟩,trivial,trivial,trivial⟩,?_⟩
  refine G7 ?_;refine Ab rfl ?_ ?_<;>intro h2
  ·refine L4 (Rr:=Dk []) (anns:=[⟨.pure,0,0⟩,⟨.pure,0,0⟩,⟨.eff,0,1⟩,⟨.pure,0,1⟩,⟨.read,0,1⟩,⟨.eff,1,2⟩,⟨.pure,2,2⟩]) Di (Bw trivial) Kr ?_;refine G ?_;refine DF (Ai elC byW rfl rfl rfl) (DT (Av elC rfl slC rfl rfl rfl (new:=e1 [36,61]) rfl ha4) ?_);refine G2 ?_;refine DT (Av elC rfl slC rfl rfl rfl (new:=[s].flatMap e1) (X7 (enc:=e1) (sz:=1) (fun _=>rfl) _ _) ha5) ?_
   refine G2 ?_;refine⟨⟨trivial,trivial,trivial,trivial,fun U _=>⟨U,Ac (ldC (t:=22)) rfl rfl rfl⟩,trivial,trivial,trivial⟩,?_⟩
   refine G7 ?_;refine Ab rfl ?_ ?_<;>intro h3
   ·refine G2 ?_;refine Cx (Ai elC byW rfl rfl rfl) (Dv (len:=1)) rfl rfl (O1 (Av elC rfl slC rfl rfl rfl (new:=e1 [36,46]) rfl ha6) ?_);refine G8 ?_;exact⟨_,rfl,Af (Ox s),J,am_ hw hB6,nl,ho6.fz (fun _=>rfl) (fun a ha=>hw.none ha) (A2 D9 _),rfl,rfl⟩
   ·exact absurd h3 (by decide)
  ·exact absurd h2 (by decide)
 ·exact absurd h1 (by decide)
def outX(s:Str):Nat->List Str
 |0=>[]
 |_+1=>Ox s
def Axf(s:Str)(b:Bool):AV:=if b=true then Af (Ox s)else nS
theorem f252(s J):Cv 252 [slV eSt 4 [Ag9 s]] J (.tup [Axf s (Fb s),iV (if Fb s=true then 0 else 2)]):=by
 refine Aj Tryz.func252 rfl rfl fun hw hu0=>?_
 refine G12 ?_;refine Ab rfl ?_ ?_<;>intro h1
 ·exact absurd h1 (by simp)
 ·refine G5 ?_
  refine Ca (f275 (fun _=> !Fb s) [Ag9 s] 276 [] J (by simp) (fun a ha=>by simp at ha;subst ha;exact f276 s (Fb s) J (f292 s J))) ?_
  refine G ?_;refine Ab rfl ?_ ?_<;>intro h2
  ·refine G6 ?_;refine B4 hw rfl ?_
   exact(by rw[show Fb s=false from by simpa using h2];rfl)
  ·iterate 13 refine G ?_
   refine Ci (fun q:Nat×AV=>[(4,q.2),(12,slV eSt 4 [Ag9 s]),(13,iV (.ofNat [Ag9 s].length)),(14,iV (.ofNat q.1))]) (fun q J0=>q.1<=[Ag9 s].length/\Own J0 (nx J) e1 1 (outX s q.1) q.2/\Below (nx J) J J0) (fun q=>[Ag9 s].length-q.1) (0,nS) SL ⟨aq_ _,.nil,.rfl'⟩ ?_
   rintro⟨i0,v0⟩ J0 hP0;obtain⟨hi0,c7,cp⟩:i0<=[Ag9 s].length/\Own J0 (nx J) e1 1 (outX s i0) v0/\Below (nx J) J J0:=hP0;refine G5 ?_;refine Ab rfl ?_ ?_<;>intro h3
   ·have h3n:=of_decide_eq_true h3
    have jz:i0=0:=by simp at h3n;omega
    subst jz
    have bc:0<1:=by omega
    have ha0:[Ag9 s][0]? =some (Ag9 s):=rfl
    obtain⟨v1,U1,ha1,ho1,hb1,_⟩:=ex_ (by':=16) (enc:=e1) (fun _=>rfl) cp.1 c7 (Ox s) (by simp[sizeLim,outX,Ox])
    iterate 13 refine G ?_
    refine Ca (f278 s _) ?_;refine O1 (Av elC rfl slC rfl rfl rfl (new:=(Ox s).flatMap e1) (X7 (enc:=e1) (sz:=1) (fun _=>rfl) _ _) ha1) ?_
    refine G5 ?_;refine O1 (Bf slC rfl ho1.lenA.1 ho1.lenA.2) ?_;refine G2 ?_;refine Ab rfl ?_ ?_<;>intro h4
    ·exact absurd h4 (by simp[outX,Ox])
    ·refine G5 ?_
     refine⟨(0+1,v1),by show 1-1<1-0;omega,SL,bc,ho1,cp.trans hb1⟩
   ·have h3n:=of_decide_eq_false h3
    have po:i0=1:=by have:i0<=1:=hi0;simp at h3n;omega
    subst po;refine G7 ?_
    have hp:Fb s=true:=by simpa using h2
    refine G ?_
    exact⟨_,rfl,.tup [Af (Ox s),iV 0],J,am_ hw cp,nl,.tup (.cons (c7.fz (fun _=>rfl) (fun a ha=>hw.none ha) (A2 D9 _)) (.cons (.same rfl) .nil)),by rw[hp];rfl,rfl⟩
theorem f219(s J):Cv 219 [sV s] J (.bool (Fb s)):=by
 refine Aj Tryz.func219 rfl rfl fun hw hu0=>?_
 refine G6 ?_;refine Cx (Ai elC byW rfl rfl rfl) (Dv (len:=1)) rfl rfl ?_;refine G ?_;refine Cx (Ai elC byW rfl rfl rfl) (Dv (len:=1)) rfl rfl ?_;refine G ?_;refine Cx (Ai elC byW rfl rfl rfl) (Dv (len:=1)) rfl rfl ?_;refine Ca (f252 s _) ?_
 iterate 13 refine G ?_
 refine B4 hw rfl ?_
 exact(by cases Fb s<;>rfl)
theorem f218(s J):Cv 218 [sV s] J (.bool (!Fb s)):=by
 refine Aj Tryz.func218 rfl rfl fun hw hu0=>?_
 refine G7 ?_;refine Ca (f219 s _) ?_;refine G4 ?_;refine B4 hw rfl ?_;exact rfl
theorem Nr{ρ J Rr t r sz x y agg z α enc m s}{v:α}(h9:Fs Ew.P 9=true)(hi:mpI Ew.P t=some (9,z,sz,agg))(hx:Ah Ew ρ x=some (.mp r))(hm:B8 enc J r m)(hy:Ah Ew ρ y=some (sV s))(hg:m.get s=some v):
  As Ew Rr (.lookup t x y false) ρ J (enc v) J:=by
 have:=W4 (Rr:=Rr) h9 hi hx hm hy
 grind
theorem Arz{ρ J Rr t r sz x y agg z α enc}{m:SM α}{s}(h9:Fs Ew.P 9=true)(hi:mpI Ew.P t=some (9,z,sz,agg))(hx:Ah Ew ρ x=some (.mp r))(hm:B8 enc J r m)(hy:Ah Ew ρ y=some (sV s))(hg:m.get s=none):
  As Ew Rr (.lookup t x y false) ρ J z J:=by
 have:=W4 (Rr:=Rr) h9 hi hx hm hy
 grind
theorem Ar0{ρ J Rr x hi l n}(hx:Ah Ew ρ x=some (slV eH 3 l))(h2:Iz Ew ρ hi=some (some (iV (.ofNat n))))(hn:n<=l.length):
  As Ew Rr (.slice 47 x none hi none) ρ J (slV eH 3 (l.take n)) J:=by
 have hb:Do l.length none none (some (iV (.ofNat n))) none=some (0,n,none):=by
  have h3:Nat.ble n l.length=true:=ar_ hn;have h4:Nat.ble 0 n=true:=rfl;simp only[Do,iV,My,h3,h4,Li,cond_true,be_,Mz]
 have:=Ag0 (Rr:=Rr) (J:=J) (lo:=none) (hi:=hi) (mx:=none) (elC (t:=47)) Qq hx rfl h2 rfl hb (aq_ _) hn;rw[db_,es_]at this
 rwa[show slV eH 3 (l.take n)=.sv ((l.take n).flatMap eH) 3 n none by unfold slV;rw[cb_,du_ hn]]
theorem Ai5:∀{l m:List Str},l.flatMap (fun s=>[sV s])=m.flatMap (fun s=>[sV s])->l=m
 |[],[],_=>rfl
 |[],_::_,h=>by simp at h
 |_::_,[],h=>by simp at h
 |a::l,b::m,h=>by
  simp only[bs_,ay_,bd_,dl_]at h
  have h1:a=b:=by have:=h.1;unfold sV at this;injection this with this;exact Fu.1 this
  rw[h1,Ai5 h.2]
theorem Ar1:∀{l m:List Hp},l.flatMap eH=m.flatMap eH->l=m
 |[],[],_=>rfl
 |[],b::_,h=>by simp[eH]at h
 |a::_,[],h=>by simp[eH]at h
 |a::l,b::m,h=>by
  simp only[bs_,eH,ay_,bd_,dl_]at h;obtain⟨h1,h2,h3,h4⟩:=h
  have e1:a.label=b.label:=by unfold sV at h1;injection h1 with h1;exact Fu.1 h1
  have e2:a.floating=b.floating:=by injection h2
  have e3:a.text=b.text:=by simp only[Af,slV,AV.sv.injEq]at h3;exact Ai5 h3.1
  rw[Ar1 h4];cases a;cases b;grind
theorem Auu{l m}(h:slV eH 3 l=slV eH 3 m):l=m:=by unfold slV at h;injection h with h;exact Ar1 h
theorem Ar2{f a a' s v v' r}(h:a'=a->v=v'):Dk ((f,a,s,v,s)::(f,a',s,v',s)::r) (.fn f) a' s=some (v',s):=by
 by_cases e:a'=a
 ·unfold Dk;grind
 ·unfold Dk;rw[if_neg (fun hh=>e hh.2.1)];unfold Dk;grind
def Oy(d:Db):AV:=.tup [slV eH 3 ((Fa d).getD []),.bool (Fa d).isSome]
theorem Qt{d}(hne:d.frames.length≠0)(h:Ow d d.frames 0 ([],[])=none):Fa d=none:=by unfold Fa;grind
theorem Apl{α f}:∀{l:List α} {p:α×List α},p∈Ht l->l.all f=(f p.1&&p.2.all f)
 |[],p,h=>by simp[Ht]at h
 |x::m,p,h=>by
  simp only[Ht,an_,bt_]at h
  rcases h with rfl|⟨q,hq,rfl⟩
  ·rfl
  ·simp only[cs_,Apl hq]
   grind
theorem Z3{l h}(hm:h∈flo l):h∈l/\h.floating=true:=by
 have:=cp_.1 hm
 exact⟨this.1,by have h2:=this.2;simpa[Vd]using h2⟩
theorem f179(h J):Cv 179 [.agg (eH h)] J (.bool h.floating):=by
 refine Aj Tryz.func179 rfl rfl fun hw hu0=>?_
 refine G12 ?_;refine B4 hw rfl ?_;exact rfl
theorem f146(d J)(hB:DbB d)(hfl:∀f∈d.frames,∀h∈f.all,h.floating=true->∃a b,h.text=[a,b])(jy:d.frames.length≠0->∀s,Ow d d.frames 0 ([],[])=some s->∀v∈d.vars,(s.1.get v).isSome=true):Cv 146 [dbV d] J (Oy d):=by
 refine Aj Tryz.func146 rfl rfl fun hw hu0=>?_
 refine G6 ?_;refine Aue ?_;refine G8 ?_;refine Ab rfl ?_ ?_<;>intro h1
 ·refine G ?_;refine X0 ?_;refine G7 ?_;refine⟨rfl,rfl,?_⟩;have hfz:d.frames.length=0:=gr
  have e:Oy d=.tup [slV eH 3 [],.bool (decide (Int.ofNat d.vars.length=0))]:=by
   unfold Oy Fa;rw[if_pos hfz]
   by_cases hv:d.vars.length=0
   ·grind
   ·rw[if_neg hv,decide_eq_false gr];rfl
  refine G ?_
  exact⟨_,rfl,Oy d,J,a_ hw nl (fun _ _=>rfl),nl,by rw[e];exact .tup (.cons Ex (.cons (.same rfl) .nil)),rfl,rfl⟩
 ·refine G3 ?_;refine O1 (Cd (n:=nx J) Qo rfl) ?_;refine G4 ?_;refine O1 (Cd (n:=nx J+1) Ae7 (nx1 rfl)) ?_;refine G10 ?_;have hbn:=hB.n;have hbv:=hB.v;have hne:d.frames.length≠0:=gr
  have c8:∃s,Pd J ((J.new (.map 9 [] 0)).new (.map 9 [] 0)) s/\Ow d d.frames 0 ([],[])=Ow d (d.frames.drop 0) 0 s:=by
   refine⟨([],[]),⟨gr,gr,⟨0,by rw[ag_,if_neg gr,ag_,if_pos rfl];rfl⟩,⟨[],⟨⟨0,by rw[ag_,if_pos (by rw[Ao])];rfl⟩,fun _=>rfl,fun _ _ _ h=>(by cases h),fun _ _ h=>(by cases h),fun _ _ _ h=>(by cases h)⟩⟩,fun _=>rfl⟩,rfl⟩
  refine G ?_;refine Bz d.frames.length (fun i0=>[(1,.pv [Af d.consts,Af d.vars,slV eF 8 d.frames]),(4,.mp (nx J)),(5,.mp (nx J+1)),(34,slV eF 8 d.frames),(35,iV (.ofNat d.frames.length)),(36,iV (.ofNat i0))]) (fun i0 J0=>∃s,Pd J J0 s/\Ow d d.frames 0 ([],[])=Ow d (d.frames.drop i0) i0 s) SL c8 ?_
  rintro i0 J0 hi0 ⟨s0,hO0,hf0⟩;refine G5 ?_;refine Ab rfl ?_ ?_<;>intro h2
  ·have bc:i0<d.frames.length:=gr;obtain⟨a0,ha0⟩:=Ar bc;have hd0:=A4 ha0;have hFa:=hB.f a0 (ab_ ha0);have bs:=hFa.a
   have hdl:a0.dummies.length<1000000:=by have:=hFa.a;simp[Fr.all]at this;omega
   have hhl:=hFa.h;have hs1:=H0 (p:=Vd) (l:=a0.hyps);have hs2:=H0 (p:=Vd) (l:=a0.dummies);have hs1':(flo a0.hyps).length<=a0.hyps.length:=hs1;have hs2':(flo a0.dummies).length<=a0.dummies.length:=hs2;refine G8 ?_;refine Rn ziC ldC rfl rfl (fun _=>rfl) rfl (fun _=>rfl) rfl rfl rfl rfl rfl ?_
   refine G2 ?_;refine XI (l:=[(178,[slV eH 3 a0.hyps],J0,slV eH 3 (flo a0.hyps),J0),(178,[slV eH 3 a0.dummies],J0,slV eH 3 (flo a0.dummies),J0)]) ⟨f178 a0.hyps J0 hFa.h,f178 a0.dummies J0 hdl,trivial⟩ ?_;refine G5 ?_
   refine DT (Bq rfl rfl (Ar2 (fun e=>by have:=Auu (List.cons.inj e).1;rw[this]))) ?_
   refine G3 ?_
   refine⟨rfl,by simp,?_⟩
   refine G7 ?_;refine O1 (D3 okC rfl rfl Om) ?_;refine G5 ?_;refine TOr 6 ?_ (fun hg=>?_) ?_
   rotate_left
   ·iterate 4 refine Gn hg ?_
    refine On hg (Uu elC Qq rfl rfl H0) (Bh rfl rfl rfl (by rw[hg];rfl) rfl rfl rfl rfl (f45 (fun h=>h.floating) (a0.hyps.drop (flo a0.hyps).length) 179 [] J0 gr (fun a _=>f179 a J0)) ?_)
    exact Ez
   refine G ?_;refine Ab rfl ?_ ?_<;>intro h3
   ·refine G5 ?_
    have hO:Fa d=none:=Qt hne (by rw[hf0,hd0,Ow,if_pos (show Arw d a0=true from h3)])
    refine G ?_
    exact⟨_,rfl,.tup [slV eH 3 [],.bool false],J,am_ hw ⟨by have:=hO0.n;omega,hO0.g⟩,nl,.tup (.cons Ex (.cons (.same rfl) .nil)),by unfold Oy;rw[hO];rfl,rfl⟩
   ·have h3':Arw d a0=false:=h3;refine G5 ?_;refine O1 (G0 (z:=[nS,nS]) Kr Av7 rfl rfl) ?_;refine G3 ?_;refine Bz 2 (fun i2=>[(1,.pv [Af d.consts,Af d.vars,slV eF 8 d.frames]),(4,.mp (nx J)),(5,.mp (nx J+1)),(6,iV (.ofNat i0)),(34,slV eF 8 d.frames),(35,iV (.ofNat d.frames.length)),(36,iV (.ofNat i0)),(66,.agg [slV eH 3 (flo a0.hyps),slV eH 3 (flo a0.dummies)]),(67,iV (.ofNat i2))]) (fun i2 J2=>∃s,Pd J J2 s/\Pb i0 [flo a0.hyps,flo a0.dummies] s0=Pb i0 ([flo a0.hyps,flo a0.dummies].drop i2) s) SL ⟨s0,hO0,rfl⟩ ?_
    rintro i2 J2 hi2 ⟨s2,hO2,hf2⟩;refine G5 ?_;refine Ab rfl ?_ ?_<;>intro h4
    ·have bv:i2<2:=gr
     have p7:∀a2,[flo a0.hyps,flo a0.dummies][i2]? =some a2->Cz 1 false (([slV eH 3 (flo a0.hyps),slV eH 3 (flo a0.dummies)]:List AV).drop (i2*1))=some (slV eH 3 a2):=fun a2 ha=>by
      match i2,bv,ha with
      |0,_,ha=>cases ha;rfl
      |1,_,ha=>cases ha;rfl
     obtain⟨a2,ha2⟩:=Ar (show i2<[flo a0.hyps,flo a0.dummies].length from bv)
     have hd2:=A4 ha2
     have m0:∀h∈a2,∃a b,h.text=[a,b]:=fun h hh=>by
      have hm:=ab_ ha2;simp only[an_,cl_,or_false]at hm
      rcases hm with rfl|rfl
      ·exact hfl a0 (ab_ ha0) h (by simp[Fr.all,(Z3 hh).1]) (Z3 hh).2
      ·exact hfl a0 (ab_ ha0) h (by simp[Fr.all,(Z3 hh).1]) (Z3 hh).2
     have hl2:a2.length<1000000:=by
      have hm:=ab_ ha2
      grind
     refine G5 ?_;refine O1 (Ao4 (v:=slV eH 3 a2) Av7 rfl rfl bv (p7 a2 ha2)) ?_;refine G9 ?_;refine Bz a2.length (fun i4=>[(1,.pv [Af d.consts,Af d.vars,slV eF 8 d.frames]),(4,.mp (nx J)),(5,.mp (nx J+1)),(6,iV (.ofNat i0)),(11,slV eH 3 a2),(34,slV eF 8 d.frames),(35,iV (.ofNat d.frames.length)),(36,iV (.ofNat i0)),(66,.agg [slV eH 3 (flo a0.hyps),slV eH 3 (flo a0.dummies)]),(67,iV (.ofNat i2)),(70,slV eH 3 a2),(71,iV (.ofNat a2.length)),(72,iV (.ofNat i4))]) (fun i4 J4=>∃s,Pd J J4 s/\Yw i0 a2 a2 0 s2=Yw i0 a2 (a2.drop i4) i4 s) SL ⟨s2,hO2,rfl⟩ ?_
     rintro i4 J4 hi4 ⟨s4,hO4,hf4⟩;refine G5 ?_;refine Ab rfl ?_ ?_<;>intro h5
     ·have dy:i4<a2.length:=gr;obtain⟨a4,ha4⟩:=Ar dy;have hd4:=A4 ha4;obtain⟨t0,t1,htx⟩:=m0 a4 (ab_ ha4);have htv:txv a4=t1:=Z2 htx;refine Bo fun hw4=>?_
      refine G8 ?_;refine Rn ziC ldC rfl rfl (fun _=>rfl) rfl (fun _=>rfl) rfl rfl rfl rfl rfl ?_
      refine G5 ?_
      refine O1 (A1 elC (fun _=>rfl) rfl rfl (by grind:a4.text[1]? =some t1) (i:=1)) ?_
      refine G3 ?_;refine Ak6 (fun L U=>L=[(1,.pv [Af d.consts,Af d.vars,slV eF 8 d.frames]),(4,.mp (nx J)),(5,.mp (nx J+1)),(6,iV (.ofNat i0)),(11,slV eH 3 a2),(12,iV (.ofNat i4)),(13,.pv (eH a4)),(14,sV t1),(34,slV eF 8 d.frames),(35,iV (.ofNat d.frames.length)),(36,iV (.ofNat i0)),(66,.agg [slV eH 3 (flo a0.hyps),slV eH 3 (flo a0.dummies)]),(67,iV (.ofNat i2)),(70,slV eH 3 a2),(71,iV (.ofNat a2.length)),(72,iV (.ofNat i4))]/\Pd J U (Pi i0 a4 s4)) ?_ ?_
      ·refine G5 ?_;refine Ab rfl ?_ ?_<;>intro h6
       ·have jz:i0=0:=gr;have hn4:=hO4.n;obtain⟨refs4,hA4⟩:=id hO4.a;obtain⟨v1,hv1⟩:=id hO4.o;obtain⟨v2,hv2⟩:=id hA4.m;have hm1:(J4.new (.map 9 [] 0)).get (nx J)=some (.map 9 (Cn hV s4.1) v1):=gr;have hm2:(((J4.new (.map 9 [] 0)).set (nx J) (.map 9 (Td hV (.agg [.str [],.bool false,nS]) s4.1 t1) (v1+1))).new (.stamp (nx J) (v1+1) (kS t1))).get (nx (J4.new (.map 9 [] 0)))=some (.stamp (nx J) (v1+1) (kS t1)):=gr
        have hm3:(((J4.new (.map 9 [] 0)).set (nx J) (.map 9 (Td hV (.agg [.str [],.bool false,nS]) s4.1 t1) (v1+1))).new (.stamp (nx J) (v1+1) (kS t1))).get (nx J)=some (.map 9 (Td hV (.agg [.str [],.bool false,nS]) s4.1 t1) (v1+1)):=by rw[ag_,if_neg gr,aa_,if_pos rfl]
        have hm4:((((J4.new (.map 9 [] 0)).set (nx J) (.map 9 (Td hV (.agg [.str [],.bool false,nS]) s4.1 t1) (v1+1))).new (.stamp (nx J) (v1+1) (kS t1))).set (nx J) (.map 9 (Cn hV (s4.1.put t1 a4)) (v1+1+1))).get (nx J+1)=some (.map 9 (Cn (fun q=>AV.mp q) refs4) v2):=by rw[aa_,if_neg Om,ag_,if_neg gr,aa_,if_neg Om,ag_,if_neg gr];exact hv2
        have jl:Pd J (((((J4.new (.map 9 [] 0)).set (nx J) (.map 9 (Td hV (.agg [.str [],.bool false,nS]) s4.1 t1) (v1+1))).new (.stamp (nx J) (v1+1) (kS t1))).set (nx J) (.map 9 (Cn hV (s4.1.put t1 a4)) (v1+1+1))).set (nx J+1) (.map 9 (Cn (fun q=>AV.mp q) (refs4.put t1 (nx J4))) (v2+1))) (Pi i0 a4 s4):=by
         rw[jz];refine hO4.first (ver:=v1+1+1) (ver2:=v2+1) hA4 hw4 gr gr gr ⟨0,?_⟩ (fun b h8 h9 h10=>?_)
         ·rw[aa_,if_neg Om,aa_,if_neg Om,ag_,if_neg gr,aa_,if_neg Om,ag_,if_pos rfl];rfl
         ·rw[aa_,if_neg Om,aa_,if_neg Om,ag_,if_neg gr,aa_,if_neg Om,ag_,if_neg Om]
        skip
        refine G6 ?_;refine Ca (f180 a4 J4 gr) ?_;refine O1 (Gx Cr) (O1 (Ait (enc:=hV) (m:=s4.1) (s:=t1) st9 Qo rfl (hm1:(J4.new (.map 9 [] 0)).get (nx J)=some (.map 9 (Cn hV s4.1) v1)) rfl) ?_);refine G ?_;refine O1 (Ad1 (enc:=hV) (m:=s4.1) (s:=t1) (v:=a4) Qo rfl rfl rfl (fun te k1 k2=>H6 k1 k2 rfl) (hm2:(((J4.new (.map 9 [] 0)).set (nx J) (.map 9 (Td hV (.agg [.str [],.bool false,nS]) s4.1 t1) (v1+1))).new (.stamp (nx J) (v1+1) (kS t1))).get (nx (J4.new (.map 9 [] 0)))=_) (hm3:(((J4.new (.map 9 [] 0)).set (nx J) (.map 9 (Td hV (.agg [.str [],.bool false,nS]) s4.1 t1) (v1+1))).new (.stamp (nx J) (v1+1) (kS t1))).get (nx J)=_)) ?_
        refine O1 (Gh (v:=nx J4) (enc:=fun q=>AV.mp q) st9 Ae7 rfl (hm4:((((J4.new (.map 9 [] 0)).set (nx J) (.map 9 (Td hV (.agg [.str [],.bool false,nS]) s4.1 t1) (v1+1))).new (.stamp (nx J) (v1+1) (kS t1))).set (nx J) (.map 9 (Cn hV (s4.1.put t1 a4)) (v1+1+1))).get (nx J+1)=some (.map 9 (Cn (fun q=>AV.mp q) refs4) v2)) rfl rfl (fun te k1 k2=>by first|exact I0 k1 k2|exact I1 k1 k2|exact I2 k1 k2|exact Jn k1 k2|exact H6 k1 k2 rfl)) ?_
        refine G ?_;exact⟨[(1,.pv [Af d.consts,Af d.vars,slV eF 8 d.frames]),(4,.mp (nx J)),(5,.mp (nx J+1)),(6,iV (.ofNat i0)),(11,slV eH 3 a2),(12,iV (.ofNat i4)),(13,.pv (eH a4)),(14,sV t1),(34,slV eF 8 d.frames),(35,iV (.ofNat d.frames.length)),(36,iV (.ofNat i0)),(66,.agg [slV eH 3 (flo a0.hyps),slV eH 3 (flo a0.dummies)]),(67,iV (.ofNat i2)),(70,slV eH 3 a2),(71,iV (.ofNat a2.length)),(72,iV (.ofNat i4))],SL,rfl,jl⟩
       ·refine G ?_
        exact⟨[(1,.pv [Af d.consts,Af d.vars,slV eF 8 d.frames]),(4,.mp (nx J)),(5,.mp (nx J+1)),(6,iV (.ofNat i0)),(11,slV eH 3 a2),(12,iV (.ofNat i4)),(13,.pv (eH a4)),(14,sV t1),(34,slV eF 8 d.frames),(35,iV (.ofNat d.frames.length)),(36,iV (.ofNat i0)),(66,.agg [slV eH 3 (flo a0.hyps),slV eH 3 (flo a0.dummies)]),(67,iV (.ofNat i2)),(70,slV eH 3 a2),(71,iV (.ofNat a2.length)),(72,iV (.ofNat i4))],SL,rfl,by have h9:i0≠0:=gr;unfold Pi;grind⟩
      ·rintro L U ⟨rfl,hO5⟩;obtain⟨refs,hA5⟩:=id hO5.a;have hn5:=hO5.n
       rcases hq:refs.get t1 with _|q
       ·refine G5 ?_;refine O1 (Arz st9 Ae7 rfl hA5.m rfl hq) (O1 (Ara Cr rfl) ?_);refine G ?_;refine Qh 6 true false rfl rfl rfl rfl rfl (Eh rfl) (fun hg=>?_) (fun hg=>?_) ?_
        ·cases hg
        ·iterate 6 refine Gn hg ?_
         refine G ?_;exact⟨rfl,sb⟩
        refine G ?_;refine Ab rfl (fun h7=>?_) gr
        refine G5 ?_
        have hH:Ai3 i0 (a2.take i4) a4 s4=none:=by
         have hAn:=hA5.s t1;rw[hq]at hAn;unfold Ai3;rw[htv];cases hx:(Pi i0 a4 s4).2.get t1 with
         |none=>rfl
         |some a=>rw[hx]at hAn;cases hAn
        have e1:Yw i0 a2 a2 0 s2=none:=by rw[hf4,hd4,Yw,hH]
        have e2:Pb i0 [flo a0.hyps,flo a0.dummies] s0=none:=by rw[hf2,hd2,Pb,e1]
        have e3:Ow d d.frames 0 ([],[])=none:=by rw[hf0,hd0,Ow,if_neg (fun hh=>Bool.noConfusion (h3'.symm.trans hh)),e2]
        have hO:Fa d=none:=Qt hne e3;refine G ?_
        exact⟨_,rfl,.tup [slV eH 3 [],.bool false],J,am_ hw ⟨by omega,hO5.g⟩,nl,.tup (.cons Ex (.cons (.same rfl) .nil)),by unfold Oy;rw[hO];rfl,rfl⟩
       have hqn:=hA5.n t1 q hq;have hAq:=hA5.s t1;rw[hq]at hAq;obtain⟨aS,haS⟩:=bg_.1 hAq.symm;have hk5:=hO5.k t1;rw[haS]at hk5;obtain⟨h1H,h1e⟩:=bg_.1 hk5;refine G5 ?_;refine O1 (Nr (v:=q) (enc:=fun q=>AV.mp q) st9 Ae7 rfl hA5.m rfl hq) ?_
       refine O1 (Aq9 Cr rfl) ?_;refine G ?_;refine Qh 6 _ ?_ rfl rfl rfl rfl rfl (Eh rfl) (fun hg=>?_) (fun hg=>?_) ?_
       rotate_left
       ·iterate 2 refine Gn hg ?_
        refine On hg (Nr (v:=h1H) (enc:=hV) st9 Qo rfl hO5.o rfl h1e) ?_;refine Gn hg ?_
        refine Bh rfl rfl rfl (by rw[hg];rfl) rfl rfl rfl rfl (f181 h1H a4 U gr) ?_
        refine Gn hg ?_;refine G ?_;refine⟨rfl,?_,?_⟩
        ·exact sb
        ·exact rfl
       ·cases hg
       refine G ?_;refine Ab rfl ?_ ?_<;>intro h7
       ·refine G5 ?_
        have hH:Ai3 i0 (a2.take i4) a4 s4=none:=by
         unfold Ai3;rw[htv,haS];simp only[h1e]
         rw[if_neg (by show ¬Am5 h1H a4=true;simpa using h7)]
        have e1:Yw i0 a2 a2 0 s2=none:=by rw[hf4,hd4,Yw,hH]
        have e2:Pb i0 [flo a0.hyps,flo a0.dummies] s0=none:=by rw[hf2,hd2,Pb,e1]
        have e3:Ow d d.frames 0 ([],[])=none:=by rw[hf0,hd0,Ow,if_neg (fun hh=>Bool.noConfusion (h3'.symm.trans hh)),e2]
        have hO:Fa d=none:=Qt hne e3;refine G ?_
        exact⟨_,rfl,.tup [slV eH 3 [],.bool false],J,am_ hw ⟨by omega,hO5.g⟩,nl,.tup (.cons Ex (.cons (.same rfl) .nil)),by unfold Oy;rw[hO];rfl,rfl⟩
       ·have hsm:Am5 h1H a4=true:=gr;refine G5 ?_;refine O1 (Ar0 rfl rfl Om) ?_;refine G4 ?_;refine Bz (a2.take i4).length (fun i6=>[(1,.pv [Af d.consts,Af d.vars,slV eF 8 d.frames]),(4,.mp (nx J)),(5,.mp (nx J+1)),(6,iV (.ofNat i0)),(11,slV eH 3 a2),(14,sV t1),(34,slV eF 8 d.frames),(35,iV (.ofNat d.frames.length)),(36,iV (.ofNat i0)),(66,.agg [slV eH 3 (flo a0.hyps),slV eH 3 (flo a0.dummies)]),(67,iV (.ofNat i2)),(70,slV eH 3 a2),(71,iV (.ofNat a2.length)),(72,iV (.ofNat i4)),(106,slV eH 3 (a2.take i4)),(107,iV (.ofNat (a2.take i4).length)),(108,iV (.ofNat i6))]) (fun i6 J6=>Fi J6 q (Apf aS ((a2.take i4).take i6))/\nx J6=nx U/\∀b,b≠q->J6.get b=U.get b) SL ⟨hA5.a t1 q aS hq haS,rfl,fun _ _=>rfl⟩ ?_
        rintro i6 J6 hi6 ⟨hs6,hn6,hg6⟩;refine G5 ?_;refine Ab rfl ?_ ?_<;>intro h8
        ·have m6:i6<(a2.take i4).length:=gr;obtain⟨a6,ha6⟩:=Ar m6;have hd6:=A4 ha6;have ha6m:a6∈a2:=cm_ (ab_ ha6);obtain⟨u0,u1,hux⟩:=m0 a6 ha6m;obtain⟨v6,hv6⟩:=id hs6;have hlt6':i6<a2.length:=gr;refine G9 ?_;refine XS (l:=[]) trivial ?_;refine G2 ?_;refine DF (Nr (v:=q) (enc:=fun q=>AV.mp q) st9 Ae7 rfl (hA5.m.of_get (hg6 _ Om)) rfl hq) ?_
         refine G2 ?_
         refine DF (A1 elC (fun _=>rfl) rfl rfl (by grind:a6.text[1]? =some u1) (i:=1)) ?_
         refine G ?_
         refine DT (Gh (v:=true) st9 Cr rfl hv6 rfl rfl (fun te k1 k2=>by first|exact I0 k1 k2|exact I1 k1 k2|exact I2 k1 k2|exact Jn k1 k2|exact H6 k1 k2 rfl)) ?_
         refine G5 ?_
         refine⟨m6,SL,by rw[Fw ha6,Apg,Z2 hux];exact dz_,gr,gr⟩
        ·have p8:(a2.take i4).length<=i6:=gr;rw[at_ p8]at hs6;refine G5 ?_
         refine⟨dy,SL,((Pi i0 a4 s4).1,(Pi i0 a4 s4).2.put t1 (Apf aS (a2.take i4))),hO5.turn hA5 hq gr hs6 hg6,by rw[hf4,hd4,Yw,Ai3,htv,haS];simp only[h1e];rw[if_pos (show Am9 (some h1H) a4=true from hsm)]⟩
     ·have jn:a2.length<=i4:=gr
      have hL4:Yw i0 a2 a2 0 s2=some s4:=by rw[hf4,ah_ jn];rfl
      refine G5 ?_
      refine⟨bv,SL,s4,hO4,by rw[hf2,hd2,Pb,hL4]⟩
    ·have ba:2<=i2:=gr
     have hLs:Pb i0 [flo a0.hyps,flo a0.dummies] s0=some s2:=by rw[hf2,ah_ (show[flo a0.hyps,flo a0.dummies].length<=i2 from ba)];rfl
     refine G5 ?_
     refine⟨bc,SL,s2,hO2,by rw[hf0,hd0,Ow,if_neg (fun hh=>Bool.noConfusion (h3'.symm.trans hh)),hLs]⟩
  ·have bj:d.frames.length<=i0:=gr
   have hF:Ow d d.frames 0 ([],[])=some s0:=by rw[hf0,ah_ bj];rfl
   have hcv:=jy hne s0 hF;obtain⟨refs,hA0⟩:=id hO0.a;have hn0:=hO0.n;refine Bo fun hw0=>?_
   refine G7 ?_;refine O1 (Cd (n:=nx J0) Cr rfl) ?_;refine G3 ?_;refine Aud ?_;refine G2 ?_;refine Ci (fun q:AV×SM Bool×List Hp=>[(1,.pv [Af d.consts,Af d.vars,slV eF 8 d.frames]),(4,.mp (nx J)),(5,.mp (nx J+1)),(17,q.1),(18,.mp (nx J0))])
    (fun q J8=>Own J8 (nx J0+1) eH 3 q.2.2 q.1/\Fi J8 (nx J0) q.2.1/\nx J0+1<=nx J8/\(∀b,b<nx J0->J8.get b=J0.get b)/\q.2.2.length<=d.vars.length/\W7 d.vars s0 d.vars.length [] []=W7 d.vars s0 (d.vars.length-q.2.2.length) q.2.1 q.2.2)
    (fun q=>d.vars.length-q.2.2.length) (nS,[],[]) SL ⟨.nil,⟨0,by rw[ag_,if_pos rfl];rfl⟩,gr,gr,aq_ _,rfl⟩ ?_
   rintro⟨vo,done,out⟩ J8 ⟨di,hd8,hn8,hg8,hl8,hf8⟩;simp only at di hd8 hl8 hf8;refine G4 ?_;refine O1 (Bf slC rfl di.lenA.1 di.lenA.2) ?_;refine G5 ?_;refine Ab rfl ?_ ?_<;>intro h3
   ·have hlt8:out.length<d.vars.length:=gr;refine G11 ?_;refine Bz d.vars.length (fun i10=>[(1,.pv [Af d.consts,Af d.vars,slV eF 8 d.frames]),(4,.mp (nx J)),(5,.mp (nx J+1)),(17,vo),(18,.mp (nx J0)),(131,Af d.vars),(132,iV (.ofNat d.vars.length)),(133,iV (.ofNat i10))])
     (fun i10 J10=>Own J10 (nx J0+1) eH 3 out vo/\Fi J10 (nx J0) done/\nx J0+1<=nx J10/\(∀b,b<nx J0->J10.get b=J0.get b)/\d.vars.find? (rdy s0.2 done)=(d.vars.drop i10).find? (rdy s0.2 done)) SL ⟨di,hd8,hn8,hg8,rfl⟩ ?_
    rintro i10 J10 hi10 ⟨jr,m7,hn10,bt,hf10⟩;refine Bo fun hw10=>?_
    refine G5 ?_;refine Ab rfl ?_ ?_<;>intro h4
    ·have i9:i10<d.vars.length:=gr;obtain⟨v10,gq⟩:=Ar i9;have hd10':=A4 gq;obtain⟨h1H,h1e⟩:=bg_.1 (hcv v10 (ab_ gq));have hk0:=hO0.k v10;rw[h1e]at hk0;obtain⟨aS,haS⟩:=bg_.1 hk0.symm;have m8:=hA0.s v10;rw[haS]at m8;obtain⟨q,hq⟩:=bg_.1 m8;have hqs:=hA0.a v10 q aS hq haS;have p9:q<nx J0:=hqs.lt hw0;obtain⟨vq,hvq⟩:=hqs;have gn:J10.get q=some (.map 9 (Cn bV aS) vq):=(bt q p9).trans hvq
     iterate 13 refine G ?_
     refine O1 (De st9 Cr rfl m7 rfl) ?_;refine G8 ?_;refine O1 (Nr (v:=q) (enc:=fun q=>AV.mp q) st9 Ae7 rfl (hA0.m.of_get (bt _ Om)) rfl hq) ?_
     refine O1 (Air Cr rfl gn) ?_;refine G2 ?_;refine Ci (fun q12:Bool×SM Bool=>[(1,.pv [Af d.consts,Af d.vars,slV eF 8 d.frames]),(4,.mp (nx J)),(5,.mp (nx J+1)),(17,vo),(18,.mp (nx J0)),(20,sV v10),(21,.bool q12.1),(131,Af d.vars),(132,iV (.ofNat d.vars.length)),(133,iV (.ofNat i10)),(144,.it (nx J10))])
      (fun q12 J12=>(∃cur,J12.get (nx J10)=some (.iter (some q) vq (Cn bV q12.2) cur))/\nx J12=nx J10+1/\(∀b,b<nx J10->J12.get b=J10.get b)/\rdy s0.2 done v10=(q12.1&&q12.2.all fun p=>done.has p.1))
      (fun q12=>q12.2.length) (!done.has v10,aS) SL
      ⟨⟨none,gr⟩,Ao _ _,gr,by unfold rdy;rw[haS];rfl⟩ ?_
     rintro⟨ready,left⟩ J12 ⟨⟨cur,hit⟩,hn12,ii,qb⟩;simp only at hit qb;have m9:Fi J12 (nx J0) done:=m7.of_get (ii _ Om);have js:Own J12 (nx J0+1) eH 3 out vo:=jr.mono Om fun a tl _ _ h9 _=>ii a h9
     refine G ?_
     refine Ard rfl rfl rfl hit (by show(match J12.get q with|some (.map _ _ v)=>Nat.beq v vq|_=>false)=true;rw[ii q Om,gn];exact aw_ _) (fun h0=>?_) (fun p hp=>?_)
     ·have h0':left=[]:=by cases left with
       |nil=>rfl
       |cons x l=>cases h0
      subst h0';have hr:rdy s0.2 done v10=ready:=gr;have io:Fi (J12.set (nx J10) (.iter (some q) vq [] none)) (nx J0) done:=m9.set Om;have gu:Own (J12.set (nx J10) (.iter (some q) vq [] none)) (nx J0+1) eH 3 out vo:=js.mono gr gr;refine G3 ?_;refine Ab rfl gr (fun h5=>?_)
      refine G5 ?_;refine Ab rfl ?_ ?_<;>intro h6
      ·have hr6:ready=true:=h6;have hfd:d.vars.find? (rdy s0.2 done)=some v10:=gr;obtain⟨vd,hvd⟩:=id io;have jt:Own ((J12.set (nx J10) (.iter (some q) vq [] none)).set (nx J0) (.map 9 (Cn bV (done.put v10 true)) (vd+1))) (nx J0+1) eH 3 out vo:=gu.mono gr gr;have nb:nx J0+1<=nx ((J12.set (nx J10) (.iter (some q) vq [] none)).set (nx J0) (.map 9 (Cn bV (done.put v10 true)) (vd+1))):=gr
       have bn:(out.length+[h1H].length)*(48+1)<=sizeLim:=by simp[sizeLim];omega
       obtain⟨v1,U1,hap,ho1,hb1,_⟩:=jt.app (by':=48) Qq nb [h1H] bn
       have bi:∀b,b<nx J0->((J12.set (nx J10) (.iter (some q) vq [] none)).set (nx J0) (.map 9 (Cn bV (done.put v10 true)) (vd+1))).get b=J0.get b:=gr;refine G4 ?_;refine O1 (Gh (v:=true) st9 Cr rfl hvd rfl rfl (fun te k1 k2=>I0 k1 k2)) ?_
       refine G6 ?_;refine O1 (Nr (v:=h1H) (enc:=hV) st9 Qo rfl (hO0.o.of_get (bi _ Om)) rfl h1e) ?_;refine Cx (Ai elC byW rfl rfl rfl) (Dv (len:=1)) rfl rfl (O1 (Av elC rfl slC rfl rfl rfl (new:=eH h1H) rfl hap) ?_);refine G3 ?_;refine⟨(v1,done.put v10 true,out++[h1H]),gr,SL,ho1,⟨vd+1,?_⟩,ai_ nb hb1.1,fun b hb=>(hb1.2 b Om).trans (bi b hb),gr,?_⟩
       ·rw[hb1.2 (nx J0) Om,aa_,if_pos rfl]
       ·rw[hf8]
        show _=W7 d.vars s0 (d.vars.length-(out++[h1H]).length) (done.put v10 true) (out++[h1H])
        rw[show d.vars.length-out.length=(d.vars.length-(out++[h1H]).length)+1 by rw[bx_];simp;omega,W7,hfd]
        grind
      ·have hr6:ready=false:=h6;refine G5 ?_;refine⟨i9,SL,gu,io,gr,gr,?_⟩
       grind
     ·obtain⟨pq,hpq,rfl⟩:=Tc hp;obtain⟨_,_,hpl⟩:=Rp hpq;have io:Fi (J12.set (nx J10) (.iter (some q) vq (Cn bV pq.2) (some (kS pq.1.1,bV pq.1.2)))) (nx J0) done:=m9.set Om;refine G3 ?_;refine Ab rfl (fun h5=>?_) gr
      refine G4 ?_
      refine O1 (Ais rfl (by rw[aa_,if_pos rfl]) (by rw[aa_,if_neg Om,ii q Om];exact gn)) ?_
      refine G6 ?_;refine Hq 3 _ ?_ rfl rfl rfl rfl rfl (Eh rfl) (fun hg=>?_) (fun hg=>?_) ?_
      rotate_left
      ·refine Bi rfl rfl rfl rfl gr noR rfl rfl (Ag rfl) ?_;refine Bi rfl rfl rfl rfl gr noR rfl rfl (Ag rfl) ?_;refine Bi rfl rfl rfl rfl gr noR rfl rfl (De (s:=pq.1.1) st9 Cr rfl io rfl) ?_;refine G ?_;refine⟨rfl,?_,?_⟩
       ·exact sb
       ·exact rfl
      ·refine Co rfl rfl rfl rfl gr rfl ?_;refine Co rfl rfl rfl rfl gr rfl ?_;refine Co rfl rfl rfl rfl gr rfl ?_;refine G ?_;exact⟨rfl,sb⟩
      refine G2 ?_
      refine⟨(ready&&done.has pq.1.1,pq.2),gr,SL,⟨_,by rw[aa_,if_pos rfl]⟩,gr,gr,?_⟩
      grind
    ·have hge10:d.vars.length<=i10:=gr;have hfd:d.vars.find? (rdy s0.2 done)=none:=gr
     have hO:Fa d=none:=by
      unfold Fa;rw[if_neg hne,hF]
      show W7 d.vars s0 d.vars.length [] []=none
      rw[hf8,show d.vars.length-out.length=(d.vars.length-out.length-1)+1 by omega,W7,hfd]
     refine G7 ?_
     exact⟨_,rfl,.tup [slV eH 3 [],.bool false],J,am_ hw ⟨by omega,fun b hb=>(bt b Om).trans (hO0.g b hb)⟩,nl,.tup (.cons Ex (.cons (.same rfl) .nil)),by unfold Oy;rw[hO];rfl,rfl⟩
   ·have hge8:d.vars.length<=out.length:=gr
    have hO:Fa d=some out:=by
     unfold Fa;rw[if_neg hne,hF]
     show W7 d.vars s0 d.vars.length [] []=some out
     rw[hf8,show d.vars.length-out.length=0 by omega];rfl
    refine G8 ?_
    exact⟨_,rfl,.tup [slV eH 3 out,.bool true],J,am_ hw ⟨by omega,fun b hb=>(hg8 b Om).trans (hO0.g b hb)⟩,nl,.tup (.cons (di.fz Qq (fun a ha=>hw.none Om) (A2 Mr _)) (.cons (.same rfl) .nil)),by unfold Oy;rw[hO];rfl,rfl⟩
theorem Qu{α:Type}[BEq α][LawfulBEq α]:∀{L V:List α},L.Nodup->(∀x∈L,x∈V)->V.length<=L.length->∀x∈V,x∈L
 |[],V,_,_,h,x,hx=>gr
 |a::L,V,hn,hs,h,x,hx=>by
  have ha:a∈V:=hs a (ap_ ..);obtain⟨h1,h2⟩:=ed_.1 hn;have hl:(V.erase a).length<=L.length:=gr;have ih:=Qu (V:=V.erase a) h2 (fun y hy=>(List.mem_erase_of_ne gr).2 (hs y (aj_ _ hy))) hl
  grind
theorem Axg{k lab ty h du}(h0:Vg k lab ty h du=0)(hf:h.floating=true):k.vars.has (txv h)=true/\ty.get (txv h)=none:=by
 unfold Vg at h0
 split at h0
 ·cases h0
 ·split at h0
  ·cases h0
  ·split at h0
   ·cases h0
   ·rename_i h3
    split at h0
    ·cases h0
    ·split at h0
     ·cases h0
     ·rename_i h5
      simp only[bk_,bi_,not_or,Bool.not_eq_false]at h3
      exact⟨h3.2,by simpa[txv]using h5⟩
abbrev flt(l:List Hp):List Str:=(l.filter (·.floating)).map txv
theorem Ai6{k nh}:∀{l:List Hp} {i:Nat} {lab:SM Bool} {ty:SM Str},(Jd k nh l i lab ty).1=0->
  (∀h∈l,h.floating=true->(∃a b,h.text=[a,b])/\k.vars.has (txv h)=true/\ty.get (txv h)=none)/\(flt l).Nodup
 |[],_,_,_,_=>⟨fun _ h=>(by cases h),dk_⟩
 |h::r,i,lab,ty,h0=>by
  unfold Jd at h0
  split at h0
  ·grind
  ·rename_i hc
   have hz:Vg k lab ty h (decide (Int.ofNat nh<=Int.ofNat i))=0:=gr;obtain⟨ih1,ih2⟩:=Ai6 h0;cases hf:h.floating with
   |false=>
    rw[hf]at ih1;refine⟨fun x hx hxf=>?_,?_⟩
    ·grind
    ·grind
   |true=>
    rw[hf]at ih1;obtain⟨g1,g2⟩:=Axg hz hf;have g3:=Ab7 hz hf
    have key:∀x∈r,x.floating=true->txv x≠txv h/\ty.get (txv x)=none:=fun x hx hxf=>by
     have:=(ih1 x hx hxf).2.2;rw[if_pos rfl,ch_]at this
     split at this
     ·cases this
     ·rename_i e;exact⟨e,this⟩
    refine⟨fun x hx hxf=>?_,?_⟩
    ·grind
    ·grind
theorem Ai7{pw k f before}(h:E9 pw k f before=0):(Jd (k.fr f.label) f.hyps.length f.all 0 [] []).1=0:=by
 unfold E9 at h
 grind
theorem To{pw}:∀{fs:List Fr} {k:Kn} {be:List Hp},I3 pw fs k be=0->∀f∈fs,∃k' be',k'.vars=k.vars/\E9 pw k' f be'=0
 |[],_,_,_,f,hf=>by cases hf
 |g::r,k,be,h,f,hf=>by
  unfold I3 at h
  split at h
  ·grind
  ·rename_i hc
   rcases an_.1 hf with rfl|hf
   ·grind
   ·obtain⟨k',be',h1,h2⟩:=To h f hf;exact⟨k',be',h1,h2⟩
theorem W8:∀(l:List Str) (k:Kn),(Qp l k).2.vars=k.vars
 |[],_=>rfl
 |c::r,k=>by unfold Qp;cases L8 c<;>cases k.consts.has c<;>simp[W8 r]
theorem Afc:∀(l:List Str) (k:Kn) (v:Str),(Sf l k).2.vars.has v=true->v∈l∨k.vars.has v=true
 |[],_,v,h=>.inr h
 |c::r,k,v,h=>by
  unfold Sf at h;cases hs:L8 c with
  |false=>rw[hs]at h;exact .inr h
  |true=>
   rw[hs]at h;cases hk:k.isSym c with
   |true=>rw[hk]at h;exact .inr h
   |false=>
    rw[hk]at h
    rcases Afc r _ v h with h|h
    ·grind
    ·have h:(k.vars.put c true).has v=true:=h;rw[fo_]at h
     grind
theorem Apm{d v}(h:(K8 d kn0).2.vars.has v=true):v∈d.vars:=by
 unfold K8 at h
 split at h
 ·rcases Afc _ _ _ h with h|h
  ·exact h
  ·rw[W8]at h;cases h
 ·rw[W8]at h;cases h
theorem Ab9{pw d}(h:Fy pw d=0):I3 pw d.frames (K8 d kn0).2 []=0:=by
 unfold Fy at h
 grind
theorem Vh{pw d}(h:Fy pw d=0){f}(hf:f∈d.frames):(∀h∈f.all,h.floating=true->(∃a b,h.text=[a,b])/\txv h∈d.vars)/\(flt f.all).Nodup:=by
 obtain⟨k',be',h1,h2⟩:=To (Ab9 h) f hf;obtain⟨g1,g2⟩:=Ai6 (Ai7 h2);refine⟨fun x hx hxf=>?_,g2⟩
 obtain⟨a1,a2,_⟩:=g1 x hx hxf
 exact⟨a1,Apm (by rw[←h1];exact a2)⟩
theorem Vi(l):flo l=l.filter (·.floating):=by
 unfold flo Eo Vd
 grind
theorem Auv(f:Fr):flt f.all=(flo f.hyps++flo f.dummies).map txv:=by
 rw[Vi,Vi];simp[flt,Fr.all]
def Qv(s:Ord):Prop:=∀v h,s.1.get v=some h->txv h=v/\∃a b,h.text=[a,b]
theorem Auw{i pre h s s'}(e:Ai3 i pre h s=some s')(h2:∃a b,h.text=[a,b])(hs:Qv s):
  Qv s'/\(∀v,(s.1.get v).isSome=true->(s'.1.get v).isSome=true)/\(i=0->(s'.1.get (txv h)).isSome=true):=by
 have h0:Qv (Pi i h s)/\(∀v,(s.1.get v).isSome=true->((Pi i h s).1.get v).isSome=true)/\(i=0->((Pi i h s).1.get (txv h)).isSome=true):=by
  unfold Pi
  split
  ·refine⟨fun v x hx=>?_,fun v hv=>?_,fun _=>?_⟩
   ·simp only[ch_]at hx
    split at hx
    ·grind
    ·exact hs v x hx
   ·simp only[ch_];split<;>first|rfl|exact hv
   ·simp[ch_]
  grind
 unfold Ai3 at e
 split at e
 ·cases e
 ·split at e
  ·cases e;exact h0
  ·cases e
theorem Ane{i all}:∀{l:List Hp} {n:Nat} {s s':Ord},Yw i all l n s=some s'->(∀h∈l,∃a b,h.text=[a,b])->Qv s->
  Qv s'/\(∀v,(s.1.get v).isSome=true->(s'.1.get v).isSome=true)/\(i=0->∀h∈l,(s'.1.get (txv h)).isSome=true)
 |[],_,s,s',e,_,hs=>by cases e;grind
 |h::r,n,s,s',e,h2,hs=>by
  unfold Yw at e
  split at e
  ·cases e
  ·rename_i s1 e1
   obtain⟨a1,a2,a3⟩:=Auw e1 (h2 h (ap_ ..)) hs;obtain⟨b1,b2,b3⟩:=Ane e (fun x hx=>h2 x (aj_ _ hx)) a1
   grind
theorem Ai8{i}:∀{ls:List (List Hp)} {s s':Ord},Pb i ls s=some s'->(∀l∈ls,∀h∈l,∃a b,h.text=[a,b])->Qv s->
  Qv s'/\(∀v,(s.1.get v).isSome=true->(s'.1.get v).isSome=true)/\(i=0->∀l∈ls,∀h∈l,(s'.1.get (txv h)).isSome=true)
 |[],s,s',e,_,hs=>by cases e;grind
 |l::r,s,s',e,h2,hs=>by
  unfold Pb at e
  split at e
  ·cases e
  ·rename_i s1 e1
   obtain⟨a1,a2,a3⟩:=Ane e1 (h2 l (ap_ ..)) hs;obtain⟨b1,b2,b3⟩:=Ai8 e (fun x hx=>h2 x (aj_ _ hx)) a1
   grind
theorem Anf{d}:∀{fs:List Fr} {i:Nat} {s s':Ord},Ow d fs i s=some s'->(∀f∈fs,∀h∈f.all,h.floating=true->∃a b,h.text=[a,b])->Qv s->
  Qv s'/\(∀v,(s.1.get v).isSome=true->(s'.1.get v).isSome=true)/\(i=0->∀f r,fs=f::r->Arw d f=false/\∀h,h∈flo f.hyps++flo f.dummies->(s'.1.get (txv h)).isSome=true)
 |[],_,s,s',e,_,hs=>by cases e;grind
 |f::r,i,s,s',e,h2,hs=>by
  unfold Ow at e
  split at e
  ·cases e
  ·rename_i hb
   split at e
   ·cases e
   ·rename_i s1 e1
    have hm:∀l∈[flo f.hyps,flo f.dummies],∀h∈l,∃a b,h.text=[a,b]:=fun l hl h hh=>by
     simp only[an_,cl_,or_false]at hl
     rcases hl with rfl|rfl<;>rw[Vi]at hh<;>(have:=cp_.1 hh;exact h2 f (ap_ ..) h (by simp[Fr.all,this.1]) gr)
    obtain⟨a1,a2,a3⟩:=Ai8 e1 hm hs;obtain⟨b1,b2,_⟩:=Anf e (fun x hx=>h2 x (aj_ _ hx)) a1
    grind
theorem Afd{pw d}(hc:Fy pw d=0)(hn:d.frames≠[]){s}(hs:Ow d d.frames 0 ([],[])=some s):Qv s/\∀v∈d.vars,(s.1.get v).isSome=true:=by
 obtain⟨a1,_,a3⟩:=Anf hs (fun f hf h hh hff=>((Vh hc hf).1 h hh hff).1) (fun v h hv=>by cases hv)
 refine⟨a1,fun v hv=>?_⟩
 cases hfs:d.frames with
 |nil=>exact absurd hfs hn
 |cons f r=>
  obtain⟨b1,b2⟩:=a3 rfl f r hfs;have hf:f∈d.frames:=gr;obtain⟨c1,c2⟩:=Vh hc hf;rw[Auv]at c2
  have bl:d.vars.length<=((flo f.hyps++flo f.dummies).map txv).length:=by
   unfold Arw at b1
   grind
  have cc:∀x∈(flo f.hyps++flo f.dummies).map txv,x∈d.vars:=fun x hx=>by
   obtain⟨h,hh,rfl⟩:=bt_.1 hx
   have hm:h∈f.all/\h.floating=true:=by
    rw[Vi,Vi]at hh
    rcases bb_.1 hh with hh|hh<;>(have:=cp_.1 hh;exact⟨by simp[Fr.all,this.1],gr⟩)
   grind
  obtain⟨h,hh,rfl⟩:=bt_.1 (Qu c2 cc bl v hv);exact b2 h hh
theorem Ang{vars s}(hs:Qv s):∀{n:Nat} {done:SM Bool} {out l:List Hp},W7 vars s n done out=some l->(out.map txv).Nodup->(∀x∈out.map txv,x∈vars/\done.has x=true)->(∀h∈out,∃a b,h.text=[a,b])->
  l.length=out.length+n/\(l.map txv).Nodup/\(∀x∈l.map txv,x∈vars)/\∀h∈l,∃a b,h.text=[a,b]
 |0,done,out,l,e,h1,h2,h3=>by cases e;grind
 |n+1,done,out,l,e,h1,h2,h3=>by
  unfold W7 at e
  split at e
  ·cases e
  ·rename_i v hv
   split at e
   ·cases e
   ·rename_i h hh
    obtain⟨g1,g2⟩:=hs v h hh;have hm:v∈vars:=List.mem_of_find?_eq_some hv;have hr:=List.find?_some hv
    have hnd:done.has v=false:=by
     unfold rdy at hr
     grind
    obtain⟨k1,k2,k3,k4⟩:=Ang hs e gr
     (fun x hx=>by
      rw[co_,bb_]at hx;rw[fo_]
      grind)
     gr
    grind
theorem Ai9{pw d}(hc:Fy pw d=0){l}(h:Fa d=some l):(∀h∈l,∃a b,h.text=[a,b])/\∀v∈d.vars,∃h∈l,txv h=v:=by
 unfold Fa at h
 split at h
 ·grind
 ·rename_i hn
  split at h
  ·cases h
  ·rename_i s hs
   obtain⟨a1,a2⟩:=Afd hc (fun e=>hn (by rw[e];rfl)) hs
   obtain⟨k1,k2,k3,k4⟩:=Ang a1 h dk_ gr gr;refine⟨k4,fun v hv=>?_⟩
   obtain⟨x,hx,e⟩:=bt_.1 (Qu k2 k3 gr v hv)
   grind
theorem f218':∀s J,Cv 218 [sV s] J (.bool (!Fb s)):=f218
theorem Aja{d}(h:Fy Fb d=0):(∀f∈d.frames,∀h∈f.all,h.floating=true->∃a b,h.text=[a,b])/\(d.frames.length≠0->∀s,Ow d d.frames 0 ([],[])=some s->∀v∈d.vars,(s.1.get v).isSome=true):=
 ⟨fun f hf x hx hxf=>((Vh h hf).1 x hx hxf).1,fun hn s hs v hv=>(Afd h (fun e=>hn (by rw[e];rfl)) hs).2 v hv⟩
def Ea(d:Db):Int:=if Fy Fb d=0 then(if(Fa d).isSome=true then 0 else 13)else Fy Fb d
def Bt(d:Db):List Hp:=if Fy Fb d=0 then(Fa d).getD []else[]
def Afe(s:Str):Bool:= !decide (s=[])&&decide (Int.ofNat s.length<=60)
def Ajb(ss:List Str)(p:Pt):Bool:=if p.sort=[]then(Afe p.symbol&&decide (p.arg=0))else(decide (p.symbol=[])&&decide (p.sort∈ss))
theorem f149(s J):Cv 149 [sV s] J (.bool (Afe s)):=by
 refine Aj Tryz.func149 rfl rfl fun hw hu0=>?_
 refine G7 ?_;refine O1 (Ko (q:=[]) okC rfl rfl) ?_;refine G ?_;refine TAn 3 ?_ (fun hg=>?_) ?_
 rotate_left
 ·iterate 2 refine Gn hg ?_
  refine On hg (Hn (q:=60) okC rfl rfl) ?_;exact Ez
 refine G3 ?_;refine B4 hw rfl ?_;exact rfl
theorem f114(d J)(hB:DbB d):Cv 114 [dbV d] J (.tup [slV eH 3 (Bt d),iV (Ea d)]):=by
 refine Aj Tryz.func114 rfl rfl fun hw hu0=>?_
 refine G10 ?_;refine Ca (f145 Fb f218' d J hB) ?_;refine G7 ?_;refine Ab rfl ?_ ?_<;>intro h1
 ·refine G6 ?_
  have hE:Ea d=Fy Fb d:=if_neg (by simpa using h1)
  have hL:Bt d=[]:=if_neg (by simpa using h1)
  refine G ?_
  exact⟨_,rfl,.tup [slV eH 3 (Bt d),iV (Ea d)],J,a_ hw nl (fun _ _=>rfl),nl,by rw[hE,hL];exact .tup (.cons Ex (.cons (.same rfl) .nil)),rfl,rfl⟩
 ·have hc:Fy Fb d=0:=by simpa using h1
  refine G4 ?_;refine Ca (f146 d J hB (Aja hc).1 (Aja hc).2) ?_;refine G12 ?_;refine Ab rfl ?_ ?_<;>intro h2
  ·refine G5 ?_
   have hE:Ea d=13:=by unfold Ea;rw[if_pos hc,if_neg (by simpa using h2)]
   have hL:Bt d=[]:=by unfold Bt;rw[if_pos hc];have h3:(Fa d).isSome=false:=(by simpa using h2);cases ho:Fa d with|none=>rfl|some x=>rw[ho]at h3;cases h3
   refine G ?_
   exact⟨_,rfl,.tup [slV eH 3 (Bt d),iV (Ea d)],J,a_ hw nl (fun _ _=>rfl),nl,by rw[hE,hL];exact .tup (.cons Ex (.cons (.same rfl) .nil)),rfl,rfl⟩
  ·refine G7 ?_
   have hE:Ea d=0:=by unfold Ea;rw[if_pos hc,if_pos (by simpa using h2)]
   have hL:Bt d=(Fa d).getD []:=by unfold Bt;rw[if_pos hc]
   refine G ?_
   exact⟨_,rfl,.tup [slV eH 3 (Bt d),iV (Ea d)],J,a_ hw nl (fun _ _=>rfl),nl,by rw[hE,hL];exact .tup (.cons (.same (Arr _)) (.cons (.same rfl) .nil)),rfl,rfl⟩
theorem Aux(s)(l:List Str):(l.any fun x=>decide (s=x))=decide (s∈l):=by
 rw[fq_];simp[e_]
theorem f184(p g J)(hb:g.sorts.length<1000000):Cv 184 [.agg (ePt p),grV g] J (.bool (Ajb g.sorts p)):=by
 refine Aj Tryz.func184 rfl rfl fun hw hu0=>?_
 iterate 13 refine G ?_
 refine Ab rfl ?_ ?_<;>intro h1
 ·refine G4 ?_;refine Ca (f149 p.symbol _) ?_;refine G ?_;refine TAn 3 ?_ (fun hg=>?_) ?_
  rotate_left
  ·iterate 3 refine Gn hg ?_
   exact Ez
  refine G3 ?_;refine B4 hw rfl ?_
  exact congrArg AV.bool (by have h:p.sort=[]:=(by simpa using h1);exact(if_pos h).symm)
 ·refine G7 ?_;refine TAn 5 ?_ (fun hg=>?_) ?_
  rotate_left
  ·iterate 4 refine Gn hg ?_
   refine Bh rfl rfl rfl (by rw[hg];rfl) rfl rfl rfl rfl (f15 g.sorts p.sort J Om) ?_
   exact Ez
  refine G3 ?_;refine B4 hw rfl ?_
  exact congrArg AV.bool (by have h:¬p.sort=[]:=(by simpa using h1);unfold Ajb;rw[if_neg h,←Aux])
theorem f183(p)(g:Gr)(J)(hb:g.sorts.length<1000000):Cv 183 [.agg (ePt p),.pv [Af g.sorts,slV eR 4 g.rules]] J (.bool (!Ajb g.sorts p)):=by
 refine Aj Tryz.func183 rfl rfl fun hw hu0=>?_
 refine G9 ?_;refine Ca (f184 p g J hb) ?_;refine G4 ?_;refine B4 hw rfl ?_;exact rfl
theorem f115(h J):Cv 115 [.agg (eH h)] J (.bool (!h.floating)):=by
 refine Aj Tryz.func115 rfl rfl fun hw hu0=>?_
 iterate 13 refine G ?_
 refine B4 hw rfl ?_;exact rfl
def Ajc(p:Pt):Bool:= !decide (p.sort=[])
def Ij(l:List Pt):List Pt:=l.filter Ajc
theorem Aca{l:List Pt}{i p}(h:l[i]? =some p):Ij (l.take (i+1))=Ij (l.take i)++(if Ajc p=true then[p]else[]):=by
 unfold Ij;rw[Fw h,fy_];cases hb:Ajc p<;>simp[hb]
theorem f229x{Ls:List RF}{L:RF}(hL:L∈Ls)(r:Rl)(J:Sto)(S:List Pt->Sto->Prop)(hb:r.parts.length<1000000)(h0:S [] J.bump)
  (hy:∀(i:Nat) (p:Pt) (J':Sto),r.parts[i]? =some p->Ajc p=true->nx J<=nx J'->S (Ij (r.parts.take i)) J'->YX Ew Ls L [.agg (ePt p)] J' (fun x J''=>x=.normal/\S (Ij (r.parts.take i)++[p]) J'')):
  Hl Ew Ls 229 [.yl L.aY,.pv (eR r)] J fun _ J'=>S (Ij r.parts) J':=by
 refine Mo Tryz.func229 (Ke _ _ Tryz.func229) rfl rfl fun hw hu0=>?_
 iterate  8 refine G ?_
 refine Hz (fun i:Nat=>[(0,.yl L.aY),(6,slV ePt 3 r.parts),(7,iV (.ofNat r.parts.length)),(8,iV (.ofNat i))]) (fun i J0=>i<=r.parts.length/\S (Ij (r.parts.take i)) J0/\nx J<=nx J0) (fun i=>r.parts.length-i) 0 SL ⟨aq_ _,h0,gr⟩ ?_
 rintro i J0 ⟨hi0,hS0,hn0⟩
 iterate  5 refine G ?_
 refine A0 rfl ?_ ?_<;>intro h1
 ·have bc:i<r.parts.length:=gr;obtain⟨p,hp⟩:=Ar bc;refine Jw ?_;refine Cf ?_;refine Qn ?_;refine Cf ?_;refine Dy fun df=>B7 ?_
  refine O1 (A1 elC (fun _=>rfl) rfl rfl hp) ?_
  refine O1 (Ac ldC rfl rfl rfl) (Mp ziC ldC rfl (fun _=>rfl) rfl rfl rfl ?_)
  refine Dd ?_;refine Cf ?_;refine Er ?_;cases hb:Ajc p with
  |true=>
   have hb':(!decide (p.sort=[]))=true:=hb;refine Gm 6 fun df=>?_
   iterate  2 refine G ?_
   refine O1 (Ko (q:=[]) okC rfl rfl) ?_;refine G ?_;refine Bi rfl rfl rfl rfl gr noR rfl rfl (Ag rfl) ?_;refine Bi rfl rfl rfl rfl gr noR rfl rfl (Ac ldC rfl rfl rfl) ?_;refine G ?_
   refine Lg hL (fun tm ht=>by rw[Hf ht rfl rfl rfl rfl];rw[hb'];rfl) rfl rfl rfl rfl (hy i p J0 hp hb hn0 hS0) fun x J1 hx hn1=>?_
   obtain⟨rfl,hS1⟩:=hx;refine TOp 2 ?_;refine Bi rfl rfl rfl rfl gr noR rfl rfl (Dc rfl) ?_;refine O1 (A3 rfl hb' rfl) ?_
   iterate  2 refine G ?_
   refine A0 rfl (fun h2=>by cases h2) (fun h2=>?_)
   refine Jw ?_;refine Dy fun df=>B7 ?_
   refine O1 (D3 (q:=1) okC rfl rfl Om) ?_;refine OM rfl (Dd ?_)
   exact⟨i+1,by omega,SL,bc,by rw[Aca hp,if_pos hb];exact hS1,ai_ hn0 hn1⟩
  |false=>
   have hb':(!decide (p.sort=[]))=false:=hb;refine Gm 9 fun df=>?_
   iterate  2 refine G ?_
   refine O1 (Ko (q:=[]) okC rfl rfl) ?_;refine G ?_;refine Co rfl rfl rfl rfl gr rfl ?_;refine Co rfl rfl rfl rfl gr rfl ?_;refine Co rfl rfl rfl rfl gr rfl ?_;refine Co rfl rfl rfl rfl gr rfl ?_;refine O1 (Au rfl hb' rfl) ?_
   iterate  2 refine G ?_
   refine A0 rfl gr (fun h2=>?_)
   iterate  5 refine G ?_
   exact⟨i+1,by omega,SL,bc,by rw[Aca hp,if_neg gr,bh_];exact hS0,hn0⟩
 ·have bj:r.parts.length<=i:=gr;rw[at_ bj]at hS0;refine Gi fun hw9=>?_
  refine G ?_;exact⟨[],rfl,.tup [],_,a_ hw9 nl (fun _ _=>rfl),hn0,.same rfl,hS0⟩
section
open Go Go.Proofs Go.Sort
abbrev eI(i:Int):List AV:=[iV i]
def Ei(l:List Int):List Int:=l.mergeSort fun x y=>decide (x<=y)
theorem Ar3{C N w c}:∀{vs:List AV} {o j:Nat} {x:AV},RC C N w c vs o->vs[j]? =some x->∃v,w.cell? ⟨c,o+j,none⟩=some v/\v.oneCell=true/\R C N w x v
 |[],_,_,_,_,h=>by simp at h
 |y::r,o,0,x,hr,h=>by
  unfold RC at hr
  simp at h;subst h
  simpa using hr.1
 |y::r,o,j+1,x,hr,h=>by
  unfold RC at hr
  have:=Ar3 hr.2 (show r[j]? =some x by simpa using h)
  rwa[show o+1+j=o+(j+1) by omega]at this
theorem Awb{C N w c}:∀{vs:List AV} {o:Nat},(∀j x,vs[j]? =some x->∃v,w.cell? ⟨c,o+j,none⟩=some v/\v.oneCell=true/\R C N w x v)->RC C N w c vs o
 |[],_,_=>by unfold RC;trivial
 |y::r,o,h=>by
  unfold RC
  refine⟨by simpa using h 0 y rfl,Awb fun j x hx=>?_⟩
  have:=h (j+1) x (by simpa using hx)
  rwa[show o+(j+1)=o+1+j by omega]at this
theorem Ar4:∀l:List Int,l.flatMap eI=l.map iV
 |[]=>rfl
 |x::l=>by simp[Ar4 l]
theorem Awc(l:List Int)(tl j)(h:j<l.length):(l.flatMap eI++tl)[j]? =some (iV l[j]):=by
 rw[Ar4,cg_ (by simpa using h)];simp[h]
theorem Ar5(l:List Int):(l.flatMap eI).length=l.length:=by induction l with
 |nil=>rfl
 |cons x l ih=>simp[ih]
theorem Rw(l):(Ei l).length=l.length:=List.length_mergeSort l
theorem f186n(J):Cv 186 [nS] J An:=by
 refine Ab6 ⟨_,Tryz.func186,rfl,rfl⟩ fun C w vs ha=>?_
 obtain⟨v,rfl,hv⟩:=Aq0 ha;unfold R at hv;obtain⟨rfl,_⟩:=hv;exact⟨_,Tryz.slices_Sort_int_none none 0 w,P8⟩
theorem f186(l a tl J)(hg:J.get a=some (.cells (l.flatMap eI++tl)))(hne:l≠[])(hl:l.length<1000000):
  Al Ew 186 [.sr a 0 1 l.length none] J fun v J'=>v=An/\J'=J.set a (.cells ((Ei l).flatMap eI++tl)):=by
 intro C w vs hs hgl ha;refine⟨⟨_,Tryz.func186,rfl,rfl⟩,?_⟩;obtain⟨v,rfl,hv⟩:=Aq0 ha;unfold R at hv;obtain⟨ad,k,rfl,hN,hlk,_,bk⟩:=hv;obtain⟨c,o,cs,T,hl1,hh,hrc⟩:=hs.obj a _ hg;have ec:0<l.length:=List.length_pos_iff.2 hne;have had:=(bk c o hl1).1 Om;subst had;rw[fd_]
 have hH:Holds (Value.int .i64) w c o l.toArray:=fun j hj=>by
  have hj:j<l.length:=by simpa using hj
  obtain⟨v,h1,_,h3⟩:=Ar3 hrc (Awc l tl j hj);unfold iV R at h3;subst h3
  refine⟨by rw[h1];simp[hj],?_⟩
  unfold World.frozen?;rw[hh];simp
 refine(Tryz.slices_Sort_int c o k l w hH (hs.lt a c o hl1) Om).mono fun e w' he=>?_
 obtain⟨rfl,n,os,rfl⟩:=he;have hd:(Ei l).length=l.length:=Rw l;obtain⟨s1,e1⟩:=hs.same (w':=Go.Sort.ahead w n) nl (fun b _=>rfl) ⟨rfl,rfl⟩
 have hH1:Holds (Value.int .i64) (Go.Sort.ahead w n) c o l.toArray:=hH
 have hwr:Wr (Go.Sort.ahead w n) (putRow (Value.int .i64) (Go.Sort.ahead w n) c o (Ei l).toArray) c (.cells (putCells (Value.int .i64) o (Ei l).toArray cs) T (0,0)):=by
  refine⟨size_putRow ..,?_,fun b hb=>?_,rfl,rfl⟩
  ·show((Go.Sort.ahead w n).heap.modify c (onCells _))[c]? =_
   rw[dq_,if_pos rfl]
   show(w.heap[c]?).map _=_
   rw[hh];rfl
  ·show((Go.Sort.ahead w n).heap.modify c (onCells _))[b]? =_
   rw[dq_,if_neg (gx_ hb)]
 obtain⟨s2,e2⟩:=s1.upd (O₀:=.cells (l.flatMap eI++tl)) hl1 hwr (by
   unfold csize;rw[hwr.here]
   show _=(match w.heap[c]? with|some (.cells cs _ _)=>cs.size|_=>0)
   rw[hh];simp[putCells]) hg (.cells ((Ei l).flatMap eI++tl)) rfl (fun _ _ _ h=>by cases h) (fun e=>by
   refine⟨c,o,_,T,hl1,hwr.here,Awb fun j x hx=>?_⟩
   rw[Aq]
   by_cases hj:j<(Ei l).length
   ·rw[Awc _ tl j hj]at hx;cases hx
    refine⟨_,cell?_putRow (Value.int .i64) (Go.Sort.ahead w n) c o l.toArray (Ei l).toArray hH1 (by simpa using hd) j (by simpa using hj),rfl,?_⟩
    unfold iV R;simp[hj]
   ·have hx':(l.flatMap eI++tl)[j]? =some x:=by
     rw[do_ (by rw[Ar5];omega),Ar5]at hx⊢
     rw[←hd];exact hx
    obtain⟨v,h1,h2,h3⟩:=Ar3 hrc hx';refine⟨v,?_,h2,R.ext (e1.trans e) _ _ h3⟩
    rw[cell?_putRow_other _ _ _ _ _ _ (.inr (.inr (by show o+(Ei l).toArray.size<=o+j;simp;omega)))]
    exact h1)
 obtain⟨s3,e3⟩:=s2.same (w':=Go.Sort.grow (putRow (Value.int .i64) (Go.Sort.ahead w n) c o (Ei l).toArray) os) (by simp[Go.Sort.grow]) (fun b hb=>by
   show(_++os)[b]? =_
   rw[ek_ hb]) ⟨rfl,rfl⟩
 refine⟨An,_,C,⟨rfl,rfl⟩,s3,?_,P8⟩;rw[Aq]at e3⊢;exact(e1.trans e2).trans e3
end
def Aha:List Int->Nat->Bool
 |[],_=>false
 |a::r,i=> !decide (a=Int.ofNat i)||Aha r (i+1)
def D1(r:Rl):List Int:=(Ij r.parts).map (·.arg)
def Hr(g:Gr)(r:Rl):Bool:=
 if((!Afe r.label|| !(g.sorts.any fun x=>decide (r.sort=x)))||r.parts.any (fun p=> !Ajb g.sorts p))=true then false
 else if Aha (Ei (D1 r)) 0=true then false
 else !r.var||(decide (Int.ofNat r.parts.length=1)&&decide (Int.ofNat (D1 r).length=0))
theorem Acb{N}(p):AV.unds N (ePt p)=true:=rfl
theorem Vj{N}(r):AV.unds N (eR r)=true:=by
 show(true&&(true&&(AV.und N (slV ePt 3 r.parts)&&(true&&true))))=true
 rw[Fv Acb r.parts];rfl
theorem f185(r J):Cv 185 [.agg (eR r)] J (.fn (.func 229) [] [.pv (eR r)]):=by
 refine Aj Tryz.func185 rfl rfl fun hw hu0=>?_
 refine G11 ?_
 exact⟨_,rfl,_,_,a_ hw nl (fun _ _=>rfl),nl,.same (by show(true&&((AV.unds (nx J) (eR r))&&true))=true;rw[Vj];rfl),rfl,rfl⟩
theorem f147(r J):Cv 147 [.agg (eR r)] J (.bool (decide ((200:Int)<Int.ofNat r.parts.length))):=by
 refine Aj Tryz.func147 rfl rfl fun hw hu0=>?_
 iterate 14 refine G ?_
 refine B4 hw rfl ?_;exact rfl
structure Ar6 (J:Sto)(l:List Pt)(J':Sto):Prop where
 mk'::
 ex:∃v,J'.get (nx J+1)=some (.cells [v])/\Own J' (nx J+4) eI 1 (l.map (·.arg)) v/\(l=[]->v=nS)/\J'.get (nx J+3)=some (.loop .ready)/\(∀b,b<nx J->J'.get b=J.get b)/\nx J+4<=nx J'
theorem Ar6.rd{J J' l}(h:Ar6 J l J'):J'.get (nx J+3)=some (.loop .ready):=by obtain⟨_,_,_,_,h,_⟩:=h.ex;exact h
theorem Acc{J N sz α enc}{l:List α}{v}(h:Own J N enc sz l v):v.cellsN 1=some [v]:=by
 rcases h with⟨_,rfl|rfl⟩|⟨a,tl,_,_,rfl,_⟩<;>rfl
theorem f150(r:Rl)(g:Gr)(J:Sto)(hb:r.parts.length<1000000)(hgs:g.sorts.length<1000000):Cv 150 [.agg (eR r),grV g] J (.bool (Hr g r)):=by
 refine gm_ ?_;refine Mo Tryz.func150 (Ke _ _ Tryz.func150) rfl rfl fun hw hu0=>?_
 refine A2m fun df=>?_
 iterate  5 refine G ?_
 refine A2m fun df=>?_
 iterate  4 refine G ?_
 refine Ca (f149 r.label _) ?_
 iterate  2 refine G ?_
 refine TOr 6 ?_ (fun hg=>?_) ?_
 rotate_left
 ·iterate  4 refine Gn hg ?_
  refine Bh rfl rfl rfl (by rw[hg];rfl) rfl rfl rfl rfl (f15 g.sorts r.sort _ Om) ?_
  refine Gn hg ?_;exact Ez
 refine G ?_;refine TOr 4 ?_ (fun hg=>?_) ?_
 rotate_left
 ·iterate  3 refine Gn hg ?_
  refine Bh rfl rfl rfl (by rw[hg];rfl) rfl rfl rfl rfl (f182 (fun p=> !Ajb g.sorts p) r.parts 183 [.pv [Af g.sorts,slV eR 4 g.rules]] _ Om (fun p _=>f183 p g _ hgs)) ?_
  exact Ez
 refine G ?_;refine Ab rfl ?_ ?_<;>intro h1
 ·iterate  4 refine G ?_
  have hV:Hr g r=false:=if_pos h1;refine G ?_;exact⟨_,rfl,.bool false,J,a_ hw gr (fun a _=>Fh J a),nl,.same rfl,congrArg AV.bool hV.symm,rfl⟩
 ·refine G ?_;refine A2m fun df=>?_
  refine G ?_;refine O1 (Bu ziC) ?_
  iterate  5 refine G ?_
  refine Ca (f185 r _) ?_;refine G ?_

  have hA:nx J.bump=nx J+1:=Bm J;have h1n:nx (J.bump.new (.cells [nS]))=nx J+2:=gr;have hsn:nx ((J.bump.new (.cells [nS])).bump.new (.loop .ready))=nx J+4:=gr;refine G ?_;refine L6 rfl fun tm ht=>?_
  rw[h1n];refine et_ (f229x (L:=⟨nx J+2+1,tm,Tryz.f150.ntmps,_,_,_⟩) (ap_ ..) r _ (fun l J'=>Ar6 J l J') hb ?_ ?_) fun _ J' hS=>⟨.normal,hS.rd,?_⟩
  ·refine⟨⟨nS,?_,.nil,fun _=>rfl,?_,fun b hb'=>?_,gr⟩⟩
   ·rw[Fh,ag_,Bm,if_neg gr,Fh,ag_,if_pos hA.symm]
   ·grind
   ·rw[Fh,ag_,Bm,if_neg gr,Fh,ag_,if_neg gr,Fh]
  ·intro i p J' hp hpb hn' hS;obtain⟨v,dm,bf,fj,hrd,nc,hnn⟩:=hS.ex;rw[hsn]at hn';have hnb:nx (J'.set (nx J+3) (.loop .busy))=nx J':=Aq _ _ _;refine Tk ht rfl Kr Kr Kr hrd gr ?_
   iterate  3 refine G ?_
   refine⟨hrd,?_⟩;refine Qn ?_;refine Dy fun df=>B7 ?_
   have cn:Own (J'.set (nx J+3) (.loop .busy)) (nx J+4) eI 1 ((Ij (r.parts.take i)).map (·.arg)) v:=bf.mono gr gr
   have bl:((Ij (r.parts.take i)).map (·.arg)).length<=i:=by
    rw[cx_];exact ai_ (ee_ _ _) gr
   have hil:i<r.parts.length:=(ae_.1 hp).1
   have bn:(((Ij (r.parts.take i)).map (·.arg)).length+[p.arg].length)*(8+1)<=sizeLim:=by simp only[fh_,sizeLim];omega
   obtain⟨v1,U1,hap,ho1,hb1,hk1⟩:=cn.app (by':=8) (enc:=eI) (sz:=1) (fun _=>rfl) gr [p.arg] bn
   have gh:(J'.set (nx J+3) (.loop .busy)).get (nx J+1)=some (.cells [v]):=gr;have ju:U1.get (nx J+1)=some (.cells [v]):=(hb1.2 _ Om).trans gh
   refine O1 (Ac (u:=.pr (nx J+1) 0) (cs:=[v]) ldC (by rw[←hA];rfl) (by simp only[Em,Sto.cells,gh];rfl) rfl) ?_
   iterate  2 refine G ?_
   refine Cx (Ai elC byW rfl rfl rfl) (Dv (len:=1)) rfl rfl (O1 (Av elC rfl slC rfl rfl rfl (new:=eI p.arg) rfl hap) (O1 (By (ad:=nx J+1) (off:=0) (vs:=[v]) (vs':=[v1]) (cs:=[v1]) ldC (by rw[←hA];rfl) rfl (Acc ho1) (by simp only[Sto.cells,ju]) rfl) ?_))
   refine G ?_;have hn1:nx J+4<=nx U1:=ai_ gr hb1.1
   refine⟨by show(U1.set (nx J+1) (.cells [v1])).get (nx J+3)=_;rw[aa_,if_neg gr,hb1.2 _ gr,aa_,if_pos rfl],rfl,⟨v1,?_,?_,fun h=>(by simp at h),by rw[aa_,if_pos rfl];rfl,fun b hb'=>?_,gr⟩⟩
   ·grind
   ·rw[co_]
    exact ho1.mono gr fun a tl _ h8 h9 _=>by rw[aa_,if_neg gr,aa_,if_neg Om]
   ·rw[aa_,if_neg gr,aa_,if_neg Om,hb1.2 b Om,aa_,if_neg Om]
    grind
  ·have hS':Ar6 J (Ij r.parts) J':=hS;obtain⟨v,dm,bf,fj,hrd,nc,hnn⟩:=hS'.ex;have hnk:nx (J'.kill (nx J+2+1))=nx J':=B3 _ _;have hgk:∀b,b≠nx J+3->(J'.kill (nx J+2+1)).get b=J'.get b:=gr
   have bl:(D1 r).length<1000000:=by
    unfold D1 Ij
    grind
   have ga:Own (J'.kill (nx J+2+1)) (nx J+4) eI 1 (D1 r) v:=bf.mono gr fun a tl _ h8 h9 _=>hgk a Om
   obtain⟨σs,dp,hcs,d6,ng,hns⟩:∃σs,(Al Ew 186 [v] (J'.kill (nx J+2+1)) fun u U=>u=An/\U=σs)/\σs.get (nx J+1)=some (.cells [v])/\Own σs (nx J+4) eI 1 (Ei (D1 r)) v/\(∀b,b<nx J->σs.get b=J.get b)/\nx J+4<=nx σs:=by
    by_cases hne:D1 r=[]
    ·have hv:v=nS:=fj (by unfold D1 at hne;exact List.map_eq_nil_iff.1 hne)
     subst hv;refine⟨_,f186n _,(hgk _ Om).trans dm,?_,fun b hb'=>(hgk b Om).trans (nc b hb'),gr⟩
     rw[hne]at ga⊢
     rw[show Ei []=[] by simp[Ei]]
     exact ga
    ·rcases ga with⟨h0,_⟩|⟨a,tl,ha1,ha2,rfl,ha3⟩
     ·grind
     ·refine⟨_,f186 (D1 r) a tl _ ha3 hne bl,?_,.inr ⟨a,tl,ha1,gr,by rw[Rw],gr⟩,fun b hb'=>?_,gr⟩
      ·grind
      grind
   have hsl:(Ei (D1 r)).length=(D1 r).length:=Rw _
   have cb:nx J<=nx σs/\∀b,b<nx J->σs.get b=J.get b:=⟨by omega,ng⟩
   have hld:∀U:Sto,U.get (nx J+1)=some (.cells [v])->Em U (.pr (nx J+1) 0)=some [v]:=fun U h=>by simp only[Em,Sto.cells,h];rfl
   refine Dy fun df=>?_
   have hno:∀b:Bool,Hr g r=b->T Ew Tryz.f150.ntmps df (nx J+1) .ret (Aox (Agw Ew Tryz.f150 (nx J) fun v J'=>v=.bool (Hr g r)/\J'=J)) [(4,.bool b)] σs:=fun b hb'=>by
    refine G ?_;exact⟨_,rfl,.bool b,J,a_ hw cb.1 cb.2,nl,.same rfl,congrArg AV.bool hb'.symm,rfl⟩
   iterate  2 refine G ?_
   refine O1 (Ac (u:=.pr (nx J+1) 0) (cs:=[v]) ldC (by rw[←hA];rfl) (hld _ ((hgk _ Om).trans dm)) rfl) ?_
   refine Ca dp ?_
   iterate  4 refine G ?_
   refine O1 (Ac (u:=.pr (nx J+1) 0) (cs:=[v]) ldC (by rw[←hA];rfl) (hld _ hcs) rfl) ?_
   refine O1 (Bf slC rfl d6.lenA.1 d6.lenA.2) ?_
   iterate  3 refine G ?_
   refine Bz (Ei (D1 r)).length (fun i2=>[(2,.pv (eR r)),(5,.pr (nx J+1) 0),(37,v),(38,iV (.ofNat (Ei (D1 r)).length)),(39,iV (.ofNat i2))]) (fun i2 J2=>J2=σs/\Aha (Ei (D1 r)) 0=Aha ((Ei (D1 r)).drop i2) i2) ⟨rfl,by rw[←hA];rfl,rfl,rfl,rfl,trivial⟩ ⟨rfl,rfl⟩ ?_
   rintro i2 J2 hi2 ⟨rfl,hf2⟩
   iterate  5 refine G ?_
   refine Ab rfl ?_ ?_<;>intro h2
   ·have bv:i2<(Ei (D1 r)).length:=gr;obtain⟨u2,ha2⟩:=Ar bv;have hd2:=A4 ha2
    have hov:∃a tl,v=.sr a 0 1 (Ei (D1 r)).length none/\J2.get a=some (.cells ((Ei (D1 r)).flatMap eI++tl)):=by
     rcases d6 with⟨h0,_⟩|⟨a,tl,_,_,k3,k4⟩
     ·grind
     grind
    obtain⟨a,tl,hv,hga⟩:=hov
    iterate  6 refine G ?_
    refine O1 (Br (a:=a) (m:=(Ei (D1 r)).length) (cap:=none) elC (congrArg some hv) rfl bv) (O1 (Dg (l:=Ei (D1 r)) (enc:=eI) (u:=u2) (v:=iV u2) (fun _=>rfl) ldC rfl hga ha2 (fun _=>rfl)) ?_)
    iterate  9 refine G ?_
    refine Ab rfl ?_ ?_<;>intro h3
    ·iterate  4 refine G ?_
     have hV:Hr g r=false:=(if_neg gr).trans (if_pos (by rw[hf2,hd2,Aha,show(!decide (u2=Int.ofNat i2))=true from h3];rfl))
     refine G ?_;exact⟨_,rfl,.bool false,J,a_ hw cb.1 cb.2,nl,.same rfl,congrArg AV.bool hV.symm,rfl⟩
    ·iterate  5 refine G ?_
     refine⟨bv,SL,rfl,by rw[hf2,hd2,Aha,show(!decide (u2=Int.ofNat i2))=false from h3];rfl⟩
   ·have ba:(Ei (D1 r)).length<=i2:=gr
    have hbad:Aha (Ei (D1 r)) 0=false:=by rw[hf2,ah_ ba];rfl
    have hV:Hr g r=(!r.var||(decide (Int.ofNat r.parts.length=1)&&decide (Int.ofNat (D1 r).length=0))):=(if_neg gr).trans (if_neg gr)
    have hV':Hr g r=(!r.var||(decide (Int.ofNat r.parts.length=1)&&decide (Int.ofNat (Ei (D1 r)).length=0))):=by rw[hV,hsl]
    iterate  7 refine G ?_
    rcases av_ (!r.var)with hg|hg
    ·iterate  9 refine Gn hg ?_
     refine O1 (A3 rfl hg rfl) ?_
     iterate  2 refine G ?_
     exact(hno true gr).sub ⟨rfl,trivial⟩
    ·iterate  5 refine Gn hg ?_
     rcases(av_ (decide (Int.ofNat r.parts.length=1))).symm with h1l|h1l
     ·refine Co rfl rfl rfl rfl gr rfl ?_;refine Co rfl rfl rfl rfl gr rfl ?_;refine Co rfl rfl rfl rfl gr rfl ?_;refine On hg (Au rfl h1l rfl) (O1 (Au rfl hg rfl) ?_)
      iterate  2 refine G ?_
      exact(hno false gr).sub ⟨rfl,trivial⟩
     ·refine Bi rfl rfl rfl rfl gr noR rfl rfl (Ac (u:=.pr (nx J+1) 0) (cs:=[v]) ldC rfl (hld _ hcs) rfl) ?_;refine Bi rfl rfl rfl rfl gr noR rfl rfl (Bf slC rfl d6.lenA.1 d6.lenA.2) ?_;refine Bi rfl rfl rfl rfl gr noR rfl rfl (H4 (q:=0) okC rfl rfl) ?_;refine On hg (A3 rfl h1l rfl) (O1 (Au rfl hg rfl) ?_)
      iterate  2 refine G ?_
      exact(hno (decide (Int.ofNat (Ei (D1 r)).length=0)) gr).sub ⟨rfl,trivial⟩
def Acd:List Str->SM Bool->Bool
 |[],_=>false
 |s::r,m=>(!Afe s||m.has s)||Acd r (m.put s true)
def Pe(g:Gr):List Rl->SM Bool->Bool
 |[],_=>false
 |r::l,m=>(!Hr g r||m.has r.label)||Pe g l (m.put r.label true)
def Eb(g:Gr):Int:=
 if((decide ((32:Int)<Int.ofNat g.sorts.length)||decide ((600:Int)<Int.ofNat g.rules.length))||g.rules.any (fun r=>decide ((200:Int)<Int.ofNat r.parts.length)))=true then 4
 else if Acd g.sorts []=true then 151 else if Pe g g.rules []=true then 151 else 0
structure GrB (g:Gr):Prop where
 s:g.sorts.length<1000000
 r:g.rules.length<1000000
 p:∀r∈g.rules,r.parts.length<1000000
theorem f117(g J)(hB:GrB g):Cv 117 [grV g] J (iV (Eb g)):=by
 refine Aj Tryz.func117 rfl rfl fun hw hu0=>?_
 have hbs:=hB.s;have hbr:=hB.r
 iterate 17 refine G ?_
 refine TOr 4 ?_ (fun hg=>?_) ?_
 rotate_left
 ·iterate 4 refine Gn hg ?_
  exact Ez
 refine G ?_;refine TOr 4 ?_ (fun hg=>?_) ?_
 rotate_left
 ·iterate 3 refine Gn hg ?_
  refine Bh rfl rfl rfl (by rw[hg];rfl) rfl rfl rfl rfl (f148 (fun r=>decide ((200:Int)<Int.ofNat r.parts.length)) g.rules 147 [] J gr (fun r _=>f147 r J)) ?_
  exact Ez
 refine G ?_;refine Ab rfl ?_ ?_<;>intro h1
 ·refine G4 ?_;have hE:Eb g=4:=(if_pos h1);refine G ?_;exact⟨_,rfl,_,J,am_ hw fn_,nl,.same rfl,congrArg iV hE.symm,rfl⟩
 ·refine G3 ?_;refine O1 (Gx Vb) ?_;refine G11 ?_
  refine Bz g.sorts.length (fun i0=>[(1,.pv [Af g.sorts,slV eR 4 g.rules]),(4,.mp (nx J)),(27,Af g.sorts),(28,iV (.ofNat g.sorts.length)),(29,iV (.ofNat i0))]) (fun i0 J0=>∃m,Fi J0 (nx J) m/\nx J<=nx J0/\(∀b,b<nx J->J0.get b=J.get b)/\Acd g.sorts []=Acd (g.sorts.drop i0) m) SL ⟨[],⟨0,by rw[ag_,if_pos rfl];rfl⟩,gr,gr,rfl⟩ ?_
  rintro i0 J0 hi0 ⟨m,hm0,hn0,hg0,hf0⟩;refine G5 ?_;refine Ab rfl ?_ ?_<;>intro h2
  ·have bc:i0<g.sorts.length:=gr;obtain⟨a0,ha0⟩:=Ar bc;have hd0:=A4 ha0;obtain⟨vm,hvm⟩:=id hm0
   iterate 13 refine G ?_
   refine Ca (f149 a0 _) ?_;refine G2 ?_;refine TOr 3 ?_ (fun hg=>?_) ?_
   rotate_left
   ·iterate 2 refine Gn hg ?_
    refine On hg (De st9 Vb rfl hm0 rfl) ?_;exact Ez
   refine G ?_;refine Ab rfl ?_ ?_<;>intro h3
   ·refine G4 ?_
    have hE:Eb g=151:=((if_neg (fun hh=>Bool.noConfusion (h1.symm.trans hh))).trans (if_pos (by rw[hf0,hd0,Acd,show(!Afe a0||m.has a0)=true from h3];rfl)))
    refine G ?_;exact⟨_,rfl,_,J,am_ hw ⟨hn0,hg0⟩,nl,.same rfl,congrArg iV hE.symm,rfl⟩
   ·refine G4 ?_
    refine O1 (Gh (v:=true) st9 Vb rfl hvm rfl rfl (fun te k1 k2=>by first|exact I0 k1 k2|exact I1 k1 k2|exact I2 k1 k2|exact Jn k1 k2|exact H6 k1 k2 rfl)) ?_
    refine G5 ?_
    refine⟨bc,SL,m.put a0 true,dz_,gr,gr,by rw[hf0,hd0,Acd,show(!Afe a0||m.has a0)=false from h3];rfl⟩
  ·have bj:g.sorts.length<=i0:=gr
   have hs1:Acd g.sorts []=false:=by rw[hf0,ah_ bj];rfl
   obtain⟨vm,hvm⟩:=id hm0;refine G4 ?_;refine O1 (Aoz Vb rfl hvm) ?_;refine G10 ?_
   refine Bz g.rules.length (fun i2=>[(1,.pv [Af g.sorts,slV eR 4 g.rules]),(4,.mp (nx J)),(46,slV eR 4 g.rules),(47,iV (.ofNat g.rules.length)),(48,iV (.ofNat i2))]) (fun i2 J2=>∃m,Fi J2 (nx J) m/\nx J<=nx J2/\(∀b,b<nx J->J2.get b=J.get b)/\Pe g g.rules []=Pe g (g.rules.drop i2) m) SL ⟨[],⟨vm+1,by rw[aa_,if_pos rfl];rfl⟩,gr,gr,rfl⟩ ?_
   rintro i2 J2 hi2 ⟨m2,hm2,hn2,hg2,hf2⟩;refine G5 ?_;refine Ab rfl ?_ ?_<;>intro h3
   ·have bv:i2<g.rules.length:=gr;obtain⟨a2,ha2⟩:=Ar bv;have hd2:=A4 ha2;obtain⟨vm2,qc⟩:=id hm2
    iterate 14 refine G ?_
    refine Ca (f150 a2 g _ (hB.p a2 (ab_ ha2)) hB.s) ?_;refine G2 ?_;refine TOr 4 ?_ (fun hg=>?_) ?_
    rotate_left
    ·iterate 3 refine Gn hg ?_
     refine On hg (De st9 Vb rfl hm2 rfl) ?_;exact Ez
    refine G ?_;refine Ab rfl ?_ ?_<;>intro h4
    ·refine G4 ?_
     have hE:Eb g=151:=((if_neg (fun hh=>Bool.noConfusion (h1.symm.trans hh))).trans ((if_neg gr).trans (if_pos (by rw[hf2,hd2,Pe,show(!Hr g a2||m2.has a2.label)=true from h4];rfl))))
     refine G ?_;exact⟨_,rfl,_,J,am_ hw ⟨hn2,hg2⟩,nl,.same rfl,congrArg iV hE.symm,rfl⟩
    ·refine G5 ?_
     refine O1 (Gh (v:=true) st9 Vb rfl qc rfl rfl (fun te k1 k2=>by first|exact I0 k1 k2|exact I1 k1 k2|exact I2 k1 k2|exact Jn k1 k2|exact H6 k1 k2 rfl)) ?_
     refine G5 ?_
     refine⟨bv,SL,m2.put a2.label true,dz_,gr,gr,by rw[hf2,hd2,Pe,show(!Hr g a2||m2.has a2.label)=false from h4];rfl⟩
   ·have ba:g.rules.length<=i2:=gr
    have hs2:Pe g g.rules []=false:=by rw[hf2,ah_ ba];rfl
    refine G5 ?_;have hE:Eb g=0:=((if_neg (fun hh=>Bool.noConfusion (h1.symm.trans hh))).trans ((if_neg gr).trans (if_neg gr)))
    refine G ?_;exact⟨_,rfl,_,J,am_ hw ⟨hn2,hg2⟩,nl,.same rfl,congrArg iV hE.symm,rfl⟩
section
open Go
structure Aya where
 label:Str
 vals:List Int
structure Ayb where
 var:Str
 val:Int
def F4(l:List Rl)(s:Str):Option Rl:=l.find? fun r=>decide (r.label=s)
def A0m(l:List Rl)(s:Str):Bool:=match F4 l s with|some r=>r.var|none=>false
def Qw(r:Rl):Nat:=(r.parts.filter fun p=> !decide (p.sort=[])).length
def Ays(l:List (Option Str))(ps:List Pt):Bool:=ps.all fun p=>decide (p.sort=[])||decide (l[p.arg.toNat]? =some (some p.sort))
mutual
def Ayf (g:List Rl):Ax->Option Str
 |.node s ks=>match F4 g s with
  |some r=>if(Ays (Aza g ks) r.parts&&decide (Qw r=ks.length))=true then some r.sort else none
  |none=>none
def Aza (g:List Rl):List Ax->List (Option Str)
 |[]=>[]
 |t::r=>Ayf g t::Aza g r
end
theorem Azh(g:List Rl):∀l:List Ax,Aza g l=l.map (Ayf g)
 |[]=>rfl
 |t::r=>by rw[Aza,Azh g r];rfl
mutual
def Ayh (g:List Rl):Ax->List Str->List Str
 |.node s ks,acc=>Ayv g ks (if(A0m g s&& !acc.any fun x=>decide (s=x))=true then acc++[s]else acc)
def Ayv (g:List Rl):List Ax->List Str->List Str
 |[],acc=>acc
 |t::r,acc=>Ayv g r (Ayh g t acc)
end
mutual
def ocT (s:Str):Ax->Bool
 |.node l ks=>decide (l=s)||ocL s ks
def ocL (s:Str):List Ax->Bool
 |[]=>false
 |t::r=>ocT s t||ocL s r
end
mutual
def okT (g:List Rl):Ax->Bool
 |.node s ks=>(match F4 g s with|some r=>decide (Qw r=ks.length)|none=>false)&&okL g ks
def okL (g:List Rl):List Ax->Bool
 |[]=>true
 |t::r=>okT g t&&okL g r
end
theorem A1y{g:List Rl}:∀{l:List Ax},okL g l=true↔∀t∈l,okT g t=true
 |[]=>by unfold okL;simp
 |t::r=>by unfold okL;simp only[ad_,A1y (l:=r),an_,forall_eq_or_imp]
structure RlsOk (g:List Rl):Prop where
 va:∀r∈g,r.var=true->Qw r=0
 cov:∀r∈g,∀j,j<Qw r->∃p∈r.parts,p.sort≠[]/\p.arg=Int.ofNat j
theorem Ay5{g:List Rl}{s:Str}{r:Rl}(h:F4 g s=some r):r∈g:=List.mem_of_find?_eq_some h
theorem A3d{g:List Rl}(hg:RlsOk g)(t:Ax):(Ayf g t).isSome=true->okT g t=true:=by
 refine Ax.ind' (P:=fun t=>(Ayf g t).isSome=true->okT g t=true) ?_ t
 intro s ks ih h;unfold Ayf at h;unfold okT
 split at h
 ·rename_i r hr
  split at h
  ·rename_i hp
   simp only[ad_,decide_eq_true_eq]at hp⊢;refine⟨hp.2,A1y.2 fun k hk=>ih k hk ?_⟩
   obtain⟨j,hj⟩:=List.getElem?_of_mem hk;have hlt:=(ae_.1 hj).1;obtain⟨p,h1,h2,h3⟩:=hg.cov r (Ay5 hr) j Om;have hps:=b_.1 hp.1 p h1;simp only[bk_,decide_eq_true_eq]at hps
   rcases hps with hps|hps
   ·exact absurd hps h2
   ·rw[h3,Azh,br_]at hps;have:(Int.ofNat j).toNat=j:=rfl;rw[this,hj]at hps;simp only[ds_,af_]at hps;rw[hps];rfl
  ·cases h
 ·cases h
theorem A08{g:List Rl}{s:Str}{ks:List Ax}(h:okT g (.node s ks)=true):∀k∈ks,okT g k=true:=by
 unfold okT at h;simp only[ad_]at h;exact A1y.1 h.2
def atF(n:Int)(l:List Int):Int:=l.foldl (fun a v=>a*n+v) 0
mutual
def evT (tm:SM (List Int)) (n:Int) (by':Str->Int):Ax->Int
 |.node s ks=>match tm.get s with
  |some tab=>(tab[(atF n (evL tm n by' ks)).toNat]?).getD 0
  |none=>by' s
def evL (tm:SM (List Int)) (n:Int) (by':Str->Int):List Ax->List Int
 |[]=>[]
 |t::r=>evT tm n by' t::evL tm n by' r
end
theorem Ay1{tm:SM (List Int)}{n:Int}{f:Str->Int}:∀l:List Ax,evL tm n f l=l.map (evT tm n f)
 |[]=>rfl
 |t::r=>by rw[evL,Ay1 r];rfl
theorem A3e(n:Int)(l:List Int)(v:Int):atF n (l++[v])=atF n l*n+v:=by unfold atF;rw[List.foldl_append];rfl
theorem A1n{n:Int}(hn:1<=n)(l:List Int):(∀v∈l,0<=v/\v<n)->0<=atF n l/\atF n l<n ^ l.length:=by
 suffices h:∀m:List Int,(∀v∈m.reverse,0<=v/\v<n)->0<=atF n m.reverse/\atF n m.reverse<n ^ m.length by
  intro hl
  have:=h l.reverse (by rw[List.reverse_reverse];exact hl)
  rwa[List.reverse_reverse,List.length_reverse]at this
 intro m
 induction m with
 |nil=>intro _;simp[atF]
 |cons v m ih=>
  intro hm;rw[d_]at hm⊢;rw[A3e,as_,Int.pow_succ]
  obtain⟨h1,h2⟩:=ih fun y hy=>hm y (by simp[List.mem_reverse.1 hy])
  obtain⟨h3,h4⟩:=hm v (by simp)
  have h5:0<=atF n m.reverse*n:=Int.mul_nonneg h1 Om;have h6:(atF n m.reverse+1)*n<=n ^ m.length*n:=Int.mul_le_mul_of_nonneg_right Om Om;rw[Int.add_mul,Int.one_mul]at h6
  exact⟨by omega,by omega⟩
structure A0w (g:List Rl)(tm:SM (List Int))(n:Int):Prop where
 n1:1<=n
 key:∀s tab,tm.get s=some tab->∃r,F4 g s=some r/\r.var=false/\Int.ofNat tab.length=n ^ Qw r
 val:∀s tab,tm.get s=some tab->∀v∈tab,0<=v/\v<n
 len:∀s tab,tm.get s=some tab->tab.length<=10000
mutual
theorem Azb {g:List Rl} {tm:SM (List Int)} {n:Int} {f:Str->Int} (ht:A0w g tm n) (hf:∀s,0<=f s/\f s<n):∀t:Ax,okT g t=true->0<=evT tm n f t/\evT tm n f t<n
 |.node s ks,ho=>by
  unfold evT;cases hs:tm.get s with
  |none=>exact hf s
  |some tab=>
   simp only;cases hv:tab[(atF n (evL tm n f ks)).toNat]? with
   |none=>have:=ht.n1;simp;omega
   |some v=>exact ht.val s tab hs v (ab_ hv)
end
theorem ev_at{g:List Rl}{tm:SM (List Int)}{n:Int}{f:Str->Int}(ht:A0w g tm n)(hf:∀s,0<=f s/\f s<n){s:Str}{ks:List Ax}{tab:List Int}(ho:okT g (.node s ks)=true)(hs:tm.get s=some tab):0<=atF n (evL tm n f ks)/\(atF n (evL tm n f ks)).toNat<tab.length:=by
 obtain⟨r,h1,h2,h3⟩:=ht.key s tab hs
 have bl:Qw r=ks.length:=by
  unfold okT at ho;rw[h1]at ho;simp only[ad_,decide_eq_true_eq]at ho;exact ho.1
 obtain⟨k1,k2⟩:=A1n ht.n1 (evL tm n f ks) fun v hv=>by
  rw[Ay1]at hv;obtain⟨k,hk,rfl⟩:=bt_.1 hv;exact Azb ht hf k (A08 ho k hk)
 rw[Ay1,cx_,←bl,←h3,←Ay1]at k2
 exact⟨k1,by simp only[bu_]at k2;omega⟩
def Ayw(l:List Ayb)(s:Str):Option Int:=(l.find? fun x=>decide (x.var=s)).map (·.val)
def Az8(n:Int)(l:List Ayb):List Str->Int
 |[]=>0
 |s::r=>match Ayw l s with
  |none=>5
  |some v=>if(decide (v<0)||decide (n<=v))=true then 3 else Az8 n l r
def byF(vs:List Str)(l:List Ayb)(s:Str):Int:=if s∈vs then(Ayw l s).getD 0 else 0
theorem A1a{n:Int}{l:List Ayb}:∀{vs:List Str},Az8 n l vs=0↔∀s∈vs,∃v,Ayw l s=some v/\0<=v/\v<n
 |[]=>by simp[Az8]
 |s::r=>by
  unfold Az8;cases h:Ayw l s with
  |none=>simp[h]
  |some v=>
   simp only[an_,forall_eq_or_imp,h,af_,exists_eq_left']
   by_cases hb:(decide (v<0)||decide (n<=v))=true
   ·rw[if_pos hb];simp only[bk_,decide_eq_true_eq]at hb
    constructor
    ·intro hh;cases hh
    ·rintro⟨h1,_⟩;omega
   ·rw[if_neg hb,A1a (vs:=r)];simp only[bk_,decide_eq_true_eq,not_or]at hb
    constructor
    ·intro hh;exact⟨by omega,hh⟩
    ·exact fun hh=>hh.2
theorem A3t{n:Int}{l:List Ayb}{vs:List Str}(hn:1<=n)(h:Az8 n l vs=0)(s:Str):0<=byF vs l s/\byF vs l s<n:=by
 unfold byF
 split
 ·rename_i hs
  obtain⟨v,h1,h2,h3⟩:=A1a.1 h s hs;rw[h1];exact⟨h2,h3⟩
 ·omega
def valE(g:List Rl)(n:Int)(l:List Ayb)(t:Ax):Int:=Az8 n l (Ayh g t [])
def evE(g:List Rl)(tm:SM (List Int))(n:Int)(l:List Ayb)(t:Ax):Int:=evT tm n (byF (Ayh g t []) l) t
end
theorem Aff:∀{l:List Int} {i:Nat},Aha l i=false->∀j,j<l.length->l[j]? =some (Int.ofNat (i+j))
 |[],_,_,j,hj=>by simp at hj
 |a::r,i,h,j,hj=>by
  unfold Aha at h;simp only[bv_,df_,decide_eq_true_eq]at h;cases j with
  |zero=>simp[h.1]
  |succ j=>
   have:=Aff h.2 j (by simpa using hj)
   simp only[cq_,this]
   congr 2;omega
theorem Afg(r):(D1 r).length=Qw r:=by unfold D1 Ij Qw Ajc;simp
theorem Tp{g r}(h:Hr g r=true):(r.var=true->Qw r=0)/\(∀j,j<Qw r->∃p∈r.parts,p.sort≠[]/\p.arg=Int.ofNat j)/\(∀p∈r.parts,p.sort≠[]->∃j:Nat,p.arg=Int.ofNat j/\j<Qw r):=by
 unfold Hr at h
 split at h
 ·cases h
 ·split at h
  ·cases h
  ·rename_i hb
   rw[Bool.not_eq_true]at hb;have hs:=Aff hb
   have bl:(Ei (D1 r)).length=Qw r:=by rw[Rw,Afg]
   have fg:∀x,x∈Ei (D1 r)↔x∈D1 r:=fun x=>(List.mergeSort_perm _ _).mem_iff
   refine⟨fun hv=>?_,fun j hj=>?_,fun p hp hps=>?_⟩
   ·rw[hv]at h;simp only[Bool.not_true,Bool.false_or,ad_,decide_eq_true_eq]at h;rw[←Afg];simpa using h.2
   ·have h1:=hs j (by rw[bl];exact hj)
    have h2:=(fg _).1 (ab_ h1);unfold D1 at h2;obtain⟨p,hp,he⟩:=bt_.1 h2;unfold Ij at hp;rw[cp_]at hp
    exact⟨p,hp.1,by simpa[Ajc]using hp.2,by rw[he,bn_]⟩
   ·have h2:p.arg∈D1 r:=by
     unfold D1 Ij
     exact eq_ (cp_.2 ⟨hp,by simpa[Ajc]using hps⟩)
    obtain⟨j,hj⟩:=List.getElem?_of_mem ((fg _).2 h2);have hlt:=(ae_.1 hj).1;have h1:=hs j hlt;rw[hj]at h1
    exact⟨j,by simpa using h1,by rw[←bl];exact hlt⟩
theorem Ace{g}:∀{l:List Rl} {m:SM Bool},Pe g l m=false->(∀r∈l,Hr g r=true)/\(l.map (·.label)).Nodup/\∀r∈l,m.has r.label=false
 |[],m,_=>⟨by simp,by simp,by simp⟩
 |r::l,m,h=>by
  unfold Pe at h;simp only[bv_,df_]at h;obtain⟨⟨h1,h2⟩,h3⟩:=h;obtain⟨k1,k2,k3⟩:=Ace h3
  have k4:∀x∈l,x.label≠r.label/\m.has x.label=false:=fun x hx=>by
   have:=k3 x hx;rw[fo_]at this;simp only[bv_,decide_eq_false_iff_not]at this;exact this
  refine⟨by simp only[an_,forall_eq_or_imp];exact⟨h1,k1⟩,?_,by simp only[an_,forall_eq_or_imp];exact⟨h2,fun x hx=>(k4 x hx).2⟩⟩
  simp only[cn_,ed_];refine⟨fun hh=>?_,k2⟩
  obtain⟨x,hx,he⟩:=bt_.1 hh;exact(k4 x hx).1 he
structure GOk (g:Gr):Prop where
 rs:RlsOk g.rules
 nd:(g.rules.map (·.label)).Nodup
 arg:∀r∈g.rules,∀p∈r.parts,p.sort≠[]->∃j:Nat,p.arg=Int.ofNat j/\j<Qw r
 len:g.rules.length<=600
 prt:∀r∈g.rules,r.parts.length<=200
theorem Afh{g}(h:Eb g=0):GOk g:=by
 unfold Eb at h
 split at h
 ·cases h
 ·rename_i h0
  split at h
  ·cases h
  ·split at h
   ·cases h
   ·rename_i hb
    rw[Bool.not_eq_true]at hb;obtain⟨k1,k2,_⟩:=Ace hb;simp only[bk_,decide_eq_true_eq,e_,not_or,not_exists,not_and,bu_]at h0
    exact⟨⟨fun r hr=>(Tp (k1 r hr)).1,fun r hr=>(Tp (k1 r hr)).2.1⟩,k2,fun r hr=>(Tp (k1 r hr)).2.2,by have:=h0.1.2;omega,fun r hr=>by have:=h0.2 r hr;omega⟩
theorem L9{l s}:(A5 (fun r=>decide (r.label=s)) l 0= -1/\F4 l s=none)∨∃n r,A5 (fun r=>decide (r.label=s)) l 0=Int.ofNat n/\l[n]? =some r/\F4 l s=some r:=by
 have key:∀(l:List Rl) (i:Nat),(A5 (fun r=>decide (r.label=s)) l i= -1/\F4 l s=none)∨∃n r,A5 (fun r=>decide (r.label=s)) l i=Int.ofNat (i+n)/\l[n]? =some r/\F4 l s=some r:=by
  intro l
  induction l with
  |nil=>intro i;exact .inl ⟨rfl,rfl⟩
  |cons r l ih=>
   intro i;unfold A5 F4;rw[List.find?_cons]
   by_cases h:r.label=s
   ·rw[decide_eq_true h];exact .inr ⟨0,r,rfl,rfl,rfl⟩
   ·rw[decide_eq_false h]
    rcases ih (i+1)with⟨h1,h2⟩|⟨n,x,h1,h2,h3⟩
    ·exact .inl ⟨h1,h2⟩
    ·exact .inr ⟨n+1,x,by rw[cond_false,h1];congr 1;omega,h2,h3⟩
 rcases key l 0 with h|⟨n,r,h1,h2,h3⟩
 ·exact .inl h
 ·exact .inr ⟨n,r,by rw[h1,bn_],h2,h3⟩
def Ayl:List Rl->Nat->SM Nat->SM Nat
 |[],_,m=>m
 |r::l,i,m=>Ayl l (i+1) (m.put r.label i)
theorem A1b{s:Str}:∀{l:List Rl} {i:Nat} {m:SM Nat},(l.map (·.label)).Nodup->(∀r∈l,m.get r.label=none)->
  (F4 l s=none->(Ayl l i m).get s=m.get s)/\∀r,F4 l s=some r->∃j,(Ayl l i m).get s=some (i+j)/\l[j]? =some r
 |[],i,m,_,_=>⟨fun _=>rfl,fun r h=>by cases h⟩
 |x::l,i,m,hn,hm=>by
  simp only[cn_,ed_]at hn
  have hm':∀r∈l,(m.put x.label i).get r.label=none:=fun r hr=>by
   rw[ch_,if_neg (fun he=>hn.1 (by rw[←he];exact eq_ hr))]
   exact hm r (by simp[hr])
  obtain⟨k1,k2⟩:=A1b (s:=s) (i:=i+1) (m:=m.put x.label i) hn.2 hm';unfold F4;rw[List.find?_cons];unfold Ayl
  by_cases h:x.label=s
  ·rw[decide_eq_true h]
   have hno:F4 l s=none:=by
    unfold F4;rw[List.find?_eq_none];intro r hr hh
    exact hn.1 (by rw[h,←of_decide_eq_true hh];exact eq_ hr)
   refine⟨fun hh=>(by cases hh),fun r hr=>⟨0,?_,(by cases hr;rfl)⟩⟩
   rw[k1 hno,ch_,if_pos h.symm];rfl
  ·rw[decide_eq_false h];refine⟨fun hh=>?_,fun r hr=>?_⟩
   ·rw[k1 hh,ch_,if_neg (fun he=>h he.symm)]
   ·obtain⟨j,h1,h2⟩:=k2 r hr
    exact⟨j+1,by rw[h1];congr 1;omega,h2⟩
theorem Bj{ρ J Rr t n z}(hi:zI Ew.P t=some z)(hn:nx J=n):As Ew Rr (.alloc t) ρ J (.pr n 0) (J.new (.cells z)):=by subst hn;exact Bu hi
def iN(n:Nat):AV:=iV (.ofNat n)
theorem Axh{te n i}(_:te.size=n)(h:te.isAgg=false):Je te (iN i)=true:=by unfold iN iV Je;rw[h];rfl
def I4:List Hp->Nat->SM Nat->SM Nat
 |[],_,m=>m
 |h::r,i,m=>I4 r (i+1) (m.put (txv h) i)
theorem Ajd:∀{l:List Hp} {n:Nat} {m:SM Nat},(∀s i,m.get s=some i->i<n)->∀s i,(I4 l n m).get s=some i->i<n+l.length
 |[],n,m,h,s,i,hs=>by simpa using h s i hs
 |x::r,n,m,h,s,i,hs=>by
  have:=Ajd (l:=r) (n:=n+1) (m:=m.put (txv x) n) (fun s i hh=>by
   rw[ch_]at hh
   grind) s i hs
  grind
def Ar7(hyps:List Hp)(i:Nat):Str:=match hyps[i]? with|some h=>h.text.headD []|none=>[]
def axP(args:SM Nat)(hyps:List Hp):List Str->SM Bool->List Pt->Option (List Pt)
 |[],_,ps=>some ps
 |s::r,met,ps=>match args.get s with
  |none=>axP args hyps r met (ps++[⟨s,[],0⟩])
  |some i=>if met.has s=true then none else axP args hyps r (met.put s true) (ps++[⟨[],Ar7 hyps i,Int.ofNat i⟩])
def Hs(f:Fr):Option Rl:=match axP (I4 f.hyps 0 []) f.hyps (f.text.drop 1) [] []with
 |none=>none
 |some ps=>some ⟨f.label,f.text.headD [],ps,false⟩
def axV:Option Rl->AV
 |none=>.tup [.agg (eR ⟨[],[],[],false⟩),.bool false]
 |some r=>.tup [.agg (eR r),.bool true]
def zR:List AV:=[.str [],.str [],nS,.bool false]
theorem f116(f J t0)(hB:FrB f)(htx:∃tl,f.text=t0::tl)(hh:∀h∈f.hyps,∃a b,h.text=[a,b]):Cv 116 [.agg (eF f)] J (axV (Hs f)):=by
 refine Aj Tryz.func116 rfl rfl fun hw hu0=>?_
 obtain⟨tl,htx⟩:=htx;have hbh:=hB.h;have hbt:=hB.t;have hbt1:(f.text.drop 1).length<1000000:=gr;refine G3 ?_;refine O1 (Bu ziC) ?_;refine G4 ?_;refine O1 (Cd (n:=nx J+1) Arn (nx1 rfl)) ?_;refine G10 ?_;have c8:nx ((J.new (.cells zR)).new (.map 9 [] 0))=nx J+2/\((J.new (.cells zR)).new (.map 9 [] 0)).get (nx J)=some (.cells zR)/\(∀b,b<nx J->((J.new (.cells zR)).new (.map 9 [] 0)).get b=J.get b)/\∃m,B8 iN ((J.new (.cells zR)).new (.map 9 [] 0)) (nx J+1) m/\I4 f.hyps 0 []=I4 (f.hyps.drop 0) 0 m:=
  ⟨gr,gr,gr,[],⟨0,by rw[ag_,if_pos (by rw[Ao])];rfl⟩,rfl⟩
 refine G ?_;refine Bz f.hyps.length (fun i0=>[(1,.pv (eF f)),(2,.pr (nx J) 0),(4,.mp (nx J+1)),(15,slV eH 3 f.hyps),(16,iV (.ofNat f.hyps.length)),(17,iV (.ofNat i0))]) (fun i0 J0=>nx J0=nx J+2/\J0.get (nx J)=some (.cells zR)/\(∀b,b<nx J->J0.get b=J.get b)/\∃m,B8 iN J0 (nx J+1) m/\I4 f.hyps 0 []=I4 (f.hyps.drop i0) i0 m) SL c8 ?_
 rintro i0 J0 hi0 ⟨hn0,h20,hg0,m,hm0,hf0⟩;refine G5 ?_;refine Ab rfl ?_ ?_<;>intro h1
 ·have bc:i0<f.hyps.length:=gr;obtain⟨a0,ha0⟩:=Ar bc;have hd0:=A4 ha0;obtain⟨u0,u1,hux⟩:=hh a0 (ab_ ha0);obtain⟨vm,hvm⟩:=id hm0;refine G8 ?_;refine Rn ziC ldC rfl rfl (fun _=>rfl) rfl (fun _=>rfl) rfl rfl rfl rfl rfl ?_
  refine G5 ?_
  refine O1 (A1 elC (fun _=>rfl) rfl rfl (by grind:a0.text[1]? =some u1) (i:=1)) ?_
  refine G2 ?_;refine O1 (Gh (v:=i0) (enc:=iN) st9 Arn rfl hvm rfl rfl (fun te k1 k2=>Axh k1 k2)) ?_
  refine G5 ?_
  refine⟨bc,SL,gr,gr,gr,m.put u1 i0,dz_,by rw[hf0,hd0,I4,Z2 hux]⟩
 ·have bj:f.hyps.length<=i0:=gr
  have bp:I4 f.hyps 0 []=m:=by rw[hf0,ah_ bj];rfl
  subst bp;refine G3 ?_;refine O1 (Cd (n:=nx J+2) Vb hn0) ?_;refine G3 ?_;refine Bo fun hw5=>?_
  refine XX 1 (l:=[]) trivial ?_;refine G4 ?_
  refine DF (A1 elC (fun _=>rfl) rfl rfl (by grind:f.text[0]? =some t0) (i:=0)) ?_
  refine G2 ?_
  refine DT (Bj (n:=nx J+3) ziC (nx1 hn0)) (DT (By (ad:=nx J+3) (off:=0) (vs:=zR) (vs':=[sV f.label,sV t0,nS,.bool false]) (cs:=[sV f.label,sV t0,nS,.bool false]) ldC rfl rfl rfl (by simp only[Sto.cells];rw[ag_,if_pos gr];rfl) rfl) ?_)
  refine G ?_
  refine⟨(by intro e he;simp at he;rcases he with rfl|rfl<;>first|exact .refl|exact K4 hw5),?_⟩
  refine G5 ?_;refine O1 (Uu (enc:=e1) elC (fun _=>rfl) rfl rfl gr) ?_
  refine G3 ?_
  have er:∃met ps vp,(((J0.new (.map 9 [] 0)).new (.cells zR)).set (nx J+3) (.cells [sV f.label,sV t0,nS,.bool false])).get (nx J+3)=some (.cells [sV f.label,sV t0,vp,.bool false])/\Own (((J0.new (.map 9 [] 0)).new (.cells zR)).set (nx J+3) (.cells [sV f.label,sV t0,nS,.bool false])) (nx J+4) ePt 3 ps vp/\Fi (((J0.new (.map 9 [] 0)).new (.cells zR)).set (nx J+3) (.cells [sV f.label,sV t0,nS,.bool false])) (nx J+2) met/\B8 iN (((J0.new (.map 9 [] 0)).new (.cells zR)).set (nx J+3) (.cells [sV f.label,sV t0,nS,.bool false])) (nx J+1) (I4 f.hyps 0 [])/\(((J0.new (.map 9 [] 0)).new (.cells zR)).set (nx J+3) (.cells [sV f.label,sV t0,nS,.bool false])).get (nx J)=some (.cells zR)/\(∀b,b<nx J->(((J0.new (.map 9 [] 0)).new (.cells zR)).set (nx J+3) (.cells [sV f.label,sV t0,nS,.bool false])).get b=J.get b)/\nx J+4<=nx (((J0.new (.map 9 [] 0)).new (.cells zR)).set (nx J+3) (.cells [sV f.label,sV t0,nS,.bool false]))/\ps.length<=0/\axP (I4 f.hyps 0 []) f.hyps (f.text.drop 1) [] []=axP (I4 f.hyps 0 []) f.hyps ((f.text.drop 1).drop 0) met ps:=by
   have hlo:∀b,b<nx J+2->(((J0.new (.map 9 [] 0)).new (.cells zR)).set (nx J+3) (.cells [sV f.label,sV t0,nS,.bool false])).get b=J0.get b:=gr;refine⟨[],[],nS,gr,.nil,⟨0,?_⟩,hm0.of_get (hlo _ Om),(hlo _ Om).trans h20,fun b hb=>(hlo b Om).trans (hg0 b hb),gr,nl,rfl⟩
   rw[aa_,if_neg Om,ag_,if_neg gr,ag_,if_pos hn0.symm];rfl
  refine G ?_;refine Bz (f.text.drop 1).length (fun i2=>[(1,.pv (eF f)),(2,.pr (nx J) 0),(4,.mp (nx J+1)),(7,.mp (nx J+2)),(8,.pr (nx J+3) 0),(39,slV e1 1 (f.text.drop 1)),(40,iV (.ofNat (f.text.drop 1).length)),(41,iV (.ofNat i2))]) (fun i2 J2=>∃met ps vp,J2.get (nx J+3)=some (.cells [sV f.label,sV t0,vp,.bool false])/\Own J2 (nx J+4) ePt 3 ps vp/\Fi J2 (nx J+2) met/\B8 iN J2 (nx J+1) (I4 f.hyps 0 [])/\J2.get (nx J)=some (.cells zR)/\(∀b,b<nx J->J2.get b=J.get b)/\nx J+4<=nx J2/\ps.length<=i2/\axP (I4 f.hyps 0 []) f.hyps (f.text.drop 1) [] []=axP (I4 f.hyps 0 []) f.hyps ((f.text.drop 1).drop i2) met ps) SL er ?_
  rintro i2 J2 hi2 ⟨met,ps,vp,h8,bf,hs2,hm2,h22,hg2,hn2,hpl,hf2⟩;refine G5 ?_;refine Ab rfl ?_ ?_<;>intro h2
  ·have bv:i2<(f.text.drop 1).length:=gr;obtain⟨a2,ha2⟩:=Ar bv;have hd2:=A4 ha2;obtain⟨vm,hvm⟩:=id hs2
   iterate 13 refine G ?_
   refine O1 (Ag1 (enc:=iN) st9 Arn rfl hm2 rfl) ?_
   iterate 14 refine G ?_
   refine Ab rfl ?_ ?_<;>intro h3
   ·have hna:(I4 f.hyps 0 []).get a2=none:=by simpa using h3
    have bn:(ps.length+[(⟨a2,[],0⟩:Pt)].length)*(40+1)<=sizeLim:=by have h11:=bv;rw[dp_]at h11;simp[sizeLim];omega
    obtain⟨v1,U1,hap,ho1,hb1,_⟩:=ex_ (by':=40) (enc:=ePt) (sz:=3) (fun _=>rfl) hn2 bf [(⟨a2,[],0⟩:Pt)] bn
    have h8t:U1.get (nx J+3)=some (.cells [sV f.label,sV t0,vp,.bool false]):=(hb1.2 _ Om).trans h8;refine G3 ?_
    refine O1 (Ac (u:=.pr (nx J+3) 2) (cs:=[vp,.bool false]) ldC rfl (by simp only[Em,Sto.cells,h8];rfl) rfl) ?_
    refine G2 ?_;refine Cx (Ai elC byW rfl rfl rfl) (Dv (len:=1)) rfl rfl (O1 (Av elC rfl slC rfl rfl rfl (new:=ePt (⟨a2,[],0⟩:Pt)) rfl hap) ?_);refine G ?_
    refine O1 (By (ad:=nx J+3) (off:=2) (vs:=[sV f.label,sV t0,vp,.bool false]) (vs':=[sV f.label,sV t0,v1,.bool false]) (cs:=[v1]) ldC rfl rfl (Acc ho1) (by simp only[Sto.cells,h8t]) rfl) ?_
    refine G6 ?_
    refine⟨bv,SL,met,ps++[(⟨a2,[],0⟩:Pt)],v1,gr,ho1.mono gr gr,(hs2.of_get (hb1.2 _ Om)).set Om,(hm2.of_get (hb1.2 _ Om)).set Om,by rw[aa_,if_neg Om,hb1.2 _ Om];exact h22,fun b hb=>by rw[aa_,if_neg Om,hb1.2 b Om];exact hg2 b hb,by rw[Aq];exact ai_ hn2 hb1.1,gr,by rw[hf2,hd2,axP,hna]⟩
   ·obtain⟨iA,hna⟩:∃iA,(I4 f.hyps 0 []).get a2=some iA:=bg_.1 gr
    have hlA:iA<f.hyps.length:=by have:=Ajd (l:=f.hyps) (n:=0) (m:=[]) (fun _ _ h=>by cases h) a2 iA hna;omega
    obtain⟨hI,hIA⟩:=Ar hlA;obtain⟨u0,u1,hux⟩:=hh hI (ab_ hIA)
    rw[show((SM.get (I4 f.hyps 0 []) a2).map iN).getD (.int .i64 0)=iN iA by rw[hna];rfl]
    refine G4 ?_;refine O1 (De st9 Vb rfl hs2 rfl) ?_;refine G2 ?_;refine Ab rfl ?_ ?_<;>intro h4
    ·refine G3 ?_
     refine O1 (By (ad:=nx J) (off:=0) (vs:=zR) (vs':=zR) (cs:=zR) ldC rfl rfl rfl (by simp only[Sto.cells,h22]) rfl) ?_
     refine G2 ?_
     have hF:Hs f=none:=by unfold Hs;rw[hf2,hd2,axP,hna];grind
     refine G ?_
     exact⟨[.agg zR,.bool false],Am (ldC (t:=202)) rfl (by simp only[Sto.cells];rw[aa_,if_pos rfl]) rfl (Ba rfl rfl),axV none,J,am_ hw ⟨gr,gr⟩,nl,.tup (.cons (.agg (.cons (.same rfl) (.cons (.same rfl) (.cons Ex (.cons (.same rfl) .nil))))) (.cons (.same rfl) .nil)),by rw[hF],rfl⟩
    ·have nj:Own (J2.set (nx J+2) (.map 9 (Cn bV (met.put a2 true)) (vm+1))) (nx J+4) ePt 3 ps vp:=bf.mono gr gr;have h8':(J2.set (nx J+2) (.map 9 (Cn bV (met.put a2 true)) (vm+1))).get (nx J+3)=some (.cells [sV f.label,sV t0,vp,.bool false]):=gr
     have bn:(ps.length+[(⟨[],u0,Int.ofNat iA⟩:Pt)].length)*(40+1)<=sizeLim:=by have h11:=bv;rw[dp_]at h11;simp[sizeLim];omega
     obtain⟨v1,U1,hap,ho1,hb1,_⟩:=ex_ (by':=40) (enc:=ePt) (sz:=3) (fun _=>rfl) gr nj [(⟨[],u0,Int.ofNat iA⟩:Pt)] bn
     have h8t:U1.get (nx J+3)=some (.cells [sV f.label,sV t0,vp,.bool false]):=(hb1.2 _ Om).trans h8';refine G5 ?_
     refine O1 (Gh (v:=true) st9 Vb rfl hvm rfl rfl (fun te k1 k2=>by first|exact I0 k1 k2|exact I1 k1 k2|exact I2 k1 k2|exact Jn k1 k2|exact H6 k1 k2 rfl)) ?_
     refine G ?_;refine XS (l:=[]) trivial ?_;refine G ?_
     refine DF (Ac (u:=.pr (nx J+3) 2) (cs:=[vp,.bool false]) ldC rfl (by simp only[Em,Sto.cells,h8'];rfl) rfl) ?_
     refine G6 ?_
     refine DF (A1 elC (fun _=>rfl) rfl rfl (by grind:hI.text[0]? =some u0) (i:=0)) ?_
     refine G3 ?_;refine DF (Ai elC byW rfl rfl rfl) (DT (Av elC rfl slC rfl rfl rfl (new:=ePt (⟨[],u0,Int.ofNat iA⟩:Pt)) rfl hap) ?_);refine G ?_
     refine DT (By (ad:=nx J+3) (off:=2) (vs:=[sV f.label,sV t0,vp,.bool false]) (vs':=[sV f.label,sV t0,v1,.bool false]) (cs:=[v1]) ldC rfl rfl (Acc ho1) (by simp only[Sto.cells,h8t]) rfl) ?_
     refine G5 ?_
     refine⟨bv,SL,met.put a2 true,ps++[(⟨[],u0,Int.ofNat iA⟩:Pt)],v1,gr,ho1.mono gr gr,B8.set (B8.of_get dz_ (hb1.2 _ Om)) Om,B8.set (B8.of_get (hm2.set Om) (hb1.2 _ Om)) Om,by rw[aa_,if_neg Om,hb1.2 _ Om,aa_,if_neg Om];exact h22,fun b hb=>by rw[aa_,if_neg Om,hb1.2 b Om,aa_,if_neg Om];exact hg2 b hb,by rw[Aq];exact ai_ gr hb1.1,gr,by rw[hf2,hd2,axP,hna];simp only[];rw[if_neg gr,Ar7,hIA];grind⟩
  ·have ba:(f.text.drop 1).length<=i2:=gr
   have hax:axP (I4 f.hyps 0 []) f.hyps (f.text.drop 1) [] []=some ps:=by rw[hf2,ah_ ba];rfl
   refine G3 ?_
   refine O1 (Ac (u:=.pr (nx J+3) 0) (cs:=[sV f.label,sV t0,vp,.bool false]) ldC rfl (by simp only[Em,Sto.cells,h8];rfl) rfl) ?_
   refine O1 (By (ad:=nx J) (off:=0) (vs:=zR) (vs':=[sV f.label,sV t0,vp,.bool false]) (cs:=[sV f.label,sV t0,vp,.bool false]) ldC rfl rfl rfl (by simp only[Sto.cells,h22]) rfl) ?_
   refine G2 ?_
   have hF:Hs f=some ⟨f.label,t0,ps,false⟩:=by unfold Hs;grind
   refine G ?_
   exact⟨[.agg [sV f.label,sV t0,vp,.bool false],.bool true],Am (ldC (t:=202)) rfl (by simp only[Sto.cells];rw[aa_,if_pos rfl]) rfl (Ba rfl rfl),axV (some ⟨f.label,t0,ps,false⟩),J,am_ hw ⟨gr,gr⟩,nl,.tup (.cons (.agg (.cons (.same rfl) (.cons (.same rfl) (.cons (bf.mono gr gr|>.fz (fun _=>rfl) (fun a ha=>hw.none Om) (A2 Acb _)) (.cons (.same rfl) .nil))))) (.cons (.same rfl) .nil)),by rw[hF],rfl⟩
end Go.AM
