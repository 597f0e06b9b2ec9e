/- A part of the proof; shortened by program. -/
import Derived.Shelf.Strings.FuncGrows
import Derived.Laws.Runes
import Derived.Deep.QuietTactic
import Derived.BigQuiet
import Derived.Test.YtmkaboegdoadhaaGreatDoorP16
set_option maxRecDepth 100000
set_option maxHeartbeats 4000000
set_option linter.all false
namespace Go.AM
open Go Go.Proofs
def bS(h:Hp):aH:=h.text.tail.headD []
def sD(s:SM Bool)(l:List Hp):SM Bool:=l.foldl (λm b=>m.put (bS b) true) s
abbrev fR:=SM Hp×SM (SM Bool)
def Pi(i:Nat)(h:Hp)(s:fR):fR:=if i=0 then(s.1.put (bS h) h,s.2.put (bS h) [])else s
def jV(i:Nat)(p:List Hp)(h:Hp)(s:fR):Option fR:=
 match(Pi i h s).2.get (bS h)with
 |none=>none
 |some a=>if kw ((Pi i h s).1.get (bS h)) h=true then some ((Pi i h s).1,(Pi i h s).2.put (bS h) (sD a p))else none
def Yw(i:Nat)(u:List Hp):List Hp->Nat->fR->Option fR
 |[],_,s=>some s
 |h::r,n,s=>match jV i (u.take n) h s with
  |none=>none
  |some a=>Yw i u r (n+1) a
def Pb(i:Nat):List (List Hp)->fR->Option fR
 |[],s=>some s
 |l::r,s=>match Yw i l l 0 s with
  |none=>none
  |some a=>Pb i r a
def bX(l:List Hp):List Hp:=Eo Vd l
def vL(d:Db)(f:Fr):Bool:= !decide (Int.ofNat ((bX f.hyps).length+(bX f.dummies).length)=Int.ofNat d.vars.length)||(f.hyps.drop (bX f.hyps).length).any (λh=>h.floating)
def Ow(d:Db):List Fr->Nat->fR->Option fR
 |[],_,s=>some s
 |f::r,i,s=>if vL d f=true then none else match Pb i [bX f.hyps,bX f.dummies] s with
  |none=>none
  |some a=>Ow d r (i+1) a
def mY(a:SM (SM Bool))(done:SM Bool)(v:aH):Bool:= !done.has v&&((a.get v).getD []).all (λp=>done.has p.1)
def W7(R:List aH)(s:fR):Nat->SM Bool->List Hp->Option (List Hp)
 |0,_,a=>some a
 |n+1,done,a=>match R.find? (mY s.2 done)with
  |none=>none
  |some v=>match s.1.get v with
   |none=>none
   |some h=>W7 R s n (done.put v true) (a++[h])
def Fa(d:Db):Option (List Hp):=
 if d.frames.length=0 then(if d.vars.length=0 then some []else none)
 else match Ow d d.frames 0 ([],[])with
  |none=>none
  |some s=>W7 d.vars s d.vars.length [] []
structure nC (J:F)(N r:Nat)(A:SM (SM Bool))(refs:SM Nat):Prop where
 m:B8 (λq=>I.mp q) J r refs
 s:∀v,(refs.get v).isSome=(A.get v).isSome
 a:∀v q s,refs.get v=some q->A.get v=some s->Fi J q s
 n:∀v q,refs.get v=some q->N<=q
 i:∀v v' q,refs.get v=some q->refs.get v'=some q->v=v'
theorem nC.new{J f N r q d g x v}(h:nC J N r g x)(i:bY J)(m:r<N)(R:N<=O J)(o:q=O J)(K:f.get r=some (.map 9 (Cn (λq=>I.mp q) (x.put v q)) d))(j:Fi f q [])
  (H:∀b,N<=b->b<O J->f.get b=J.get b):nC f N r (g.put v []) (x.put v q):=by
 refine⟨⟨d,K⟩,λu=>?_,λu p s a c=>?_,λu p a=>?_,λu l p a c=>?_⟩
 ·rw[dP,dP];split<;>first|rfl|exact h.s u
 ·rw[dP]at a c
  split at a
  ·grind
  ·rename_i e;rw[if_neg e]at c
   exact(h.a u p s a c).of_get (H p (h.n u p a) ((h.a u p s a c).lt i))
 ·rw[dP]at a
  split at a
  ·grind
  ·exact h.n u p a
 ·have n:∀w p,x.get w=some p->p<O J:=λw p k=>by
   have:=h.s w;rw[k]at this;obtain⟨s,j⟩:=gV.1 this.symm;exact(h.a w p s k j).lt i
  rw[dP]at a c
  split at a<;>split at c
  ·grind
  ·grind
  ·grind
  ·exact h.i u l p a c
theorem nC.upd{J a N r q f x v s}(h:nC J N r f x)(o:x.get v=some q)(w:a.get r=J.get r)(j:Fi a q s)
  (H:∀b,N<=b->b≠q->a.get b=J.get b):nC a N r (f.put v s) x:=by
 refine⟨h.m.of_get w,λu=>?_,λu p t c d=>?_,h.n,h.i⟩
 ·rw[dP]
  split
  ·grind
  ·exact h.s u
 ·rw[dP]at d
  split at d
  ·grind
  ·rename_i e
   refine(h.a u p t c d).of_get (H p (h.n u p c) λg=>e ?_)
   subst g;exact h.i u v p c o
end Go.AM
namespace Go.AM
open Go Go.Proofs
structure Pd (J U:F)(s:fR):Prop where
 n:O J+2<=O U
 g:∀b,b<O J->U.get b=J.get b
 o:B8 hV U (O J) s.1
 a:∃refs,nC U (O J+2) (O J+1) s.2 refs
 k:∀v,(s.1.get v).isSome=(s.2.get v).isSome
theorem Ze{s l b}:sD s (l++[b])=(sD s l).put (bS b) true:=by unfold sD;grind
theorem Z2{h a b}(e:h.text=[a,b]):bS h=b:=by unfold bS;rw[e];rfl
theorem Axc{i h s}(X:∀v,(s.1.get v).isSome=(s.2.get v).isSome):∀v,((Pi i h s).1.get v).isSome=((Pi i h s).2.get v).isSome:=λv=>by
 unfold Pi
 split
 ·simp only[dP];split<;>first|rfl|exact X v
 ·exact X v
theorem Pd.first{J U a s h ver ver2 x}(c:Pd J U s)(e:nC U (O J+2) (O J+1) s.2 x)(i:bY U)(S:O U<=O a)(k:a.get (O J)=some (.map 9 (Cn hV (s.1.put (bS h) h)) ver))
  (w:a.get (O J+1)=some (.map 9 (Cn (λq=>I.mp q) (x.put (bS h) (O U))) ver2))(j:Fi a (O U) [])(H:∀b,b<O U->b≠O J->b≠O J+1->a.get b=U.get b):Pd J a (Pi 0 h s):=by
 have f:=c.n
 refine⟨by omega,λb g=>(H b z z z).trans (c.g b g),⟨ver,k⟩,⟨_,e.new i z f rfl w j λb l d=>H b d z z⟩,Axc c.k⟩
theorem Pd.turn{J U c s a v q x}(d:Pd J U s)(f:nC U (O J+2) (O J+1) s.2 x)(o:x.get v=some q)(S:O U<=O c)(j:Fi c q a)(H:∀b,b≠q->c.get b=U.get b):Pd J c (s.1,s.2.put v a):=by
 have k:=d.n;have i:=f.n v q o
 refine⟨by omega,λb h=>(H b z).trans (d.g b h),d.o.of_get (H _ z),⟨x,f.upd o (H _ z) j λb _ g=>H b g⟩,λu=>?_⟩
 show(s.1.get u).isSome=_
 rw[dP,d.k u]
 split
 ·rename_i e;subst e
  have:=f.s u;grind
 ·rfl
section
open Go Go.Proofs Go.RowKit
def Gb:ByteArray:=⟨#[45,95,46,63]⟩
theorem Xh(p)(h:p<Gb.size):(Utf8.decode Gb p).2=1/\((Utf8.decode Gb p).1:Int)≠65533:=by
 have a:p<4:=h
 match p,a with
 |0,_=>decide
 |1,_=>decide
 |2,_=>decide
 |3,_=>decide
set_option maxRecDepth 1000000 in
theorem Arx (w : World) : Calls Tryz.prog 299 #[.string Gb,.int .i32 65533] w λe w' => e = .returned (.int .i64 (-1)) /\ Go.RowKit.Below w.heap.size w w' := by
 go_enter Tryz.func299,Tryz.ntmps299
 go_wp2
 go_loopg [] 4 (λgf wx => ∃ pos : Nat,wx.heap[w.heap.size]? = some (.stringIter Gb pos) /\ Go.RowKit.Below w.heap.size w wx /\ Gb.size <= pos + gf)
 case atStart => exact ⟨0,World.iter_heap w Gb 0,(Go.RowKit.Below.refl _ w).alloc Y _,Y⟩
 case round =>
  obtain ⟨pos,hit,hbw,hfu⟩ := hrel
  by_cases hps : pos < Gb.size
  ·obtain ⟨g',rfl⟩ : ∃ g',gk = g' + 1 := ⟨gk - 1,by omega⟩
   have hnx : ∀ ty,(Instr.next (.pointer (some ⟨w.heap.size,0,none⟩)) true ty).run Tryz.prog wr = _ := λty => Lib.run_next_any_at wr w.heap.size Gb pos ty hit hps
   obtain ⟨hd1,hd2⟩ := Xh pos hps;obtain ⟨R,hR⟩ : ∃ R,(Utf8.decode Gb pos).1 = R := ⟨_,rfl⟩;rw [hR] at hd2;rw [hR,hd1] at hnx;have pe := Lib.iterAt_heap wr w.heap.size Gb pos (pos + 1) hit;have pi := Lib.below_iterAt hbw (k := w.heap.size) Y Gb (pos + 1);obtain ⟨W,hWd⟩ : ∃ W,wr.iterAt w.heap.size Gb (pos + 1) = W := ⟨_,rfl⟩;rw [hWd] at hnx pe pi
   go_wp2
   go_roundg g'
   case measure => omega
   grind
  ·have hnx : ∀ ty,(Instr.next (.pointer (some ⟨w.heap.size,0,none⟩)) true ty).run Tryz.prog wr = _ := λty => Lib.run_next_end_at wr w.heap.size Gb pos ty hit hps
   go_wp2
   go_ret
   exact ⟨rfl,hbw⟩
set_option maxRecDepth 1000000 in
theorem Ary (x : Int) (h0 : 128 <= x) (h1 : Lib.validRune x = false) (h2 : x ≠ 65533) (w : World) : Calls Tryz.prog 299 #[.string Gb,.int .i32 x] w λe w' => e = .returned (.int .i64 (-1)) /\ w' = w := by
 have hd0 : decide ((0 : Int) <= x) = true := by simp; omega
 have hd1 : decide (x < (128 : Int)) = false := by simp; omega
 have e295 : ∀ args w,(callFunc 302 args).run Tryz.prog w = .ok (.enter 302 args) w := enters_of Tryz.func302 Kr rfl
 go_enter Tryz.func299,Tryz.ntmps299
 go_wp2_with (go_at_fn 302; refine (Tryz.utf8_ValidRune _ _).mono ?_; rintro e w' ⟨rfl,hw⟩; rw [hw,h1])
 go_ret
 exact ⟨rfl,rfl⟩
theorem Aph(x)(h:128<=x):(∃a b:UInt8,Utf8.encode x=⟨#[a,b]⟩/\128<=b.toNat)\/(∃a b d:UInt8,Utf8.encode x=⟨#[a,b,d]⟩/\128<=d.toNat)\/∃a b d e:UInt8,Utf8.encode x=⟨#[a,b,d,e]⟩/\128<=e.toNat:=by
 have i:∀n:Nat,128<=(UInt8.ofNat (0x80+n%64)).toNat:=λn=>by
  rw[UInt8.toNat_ofNat'];omega
 unfold Utf8.encode;obtain⟨c,g⟩:=zE ((if Utf8.valid x=true then x.toNat else Utf8.runeError))
 have f:128<=c:=by
  rw[<-g];split
  ·omega
  ·decide
 simp only[g];rw[if_neg z]
 split
 ·grind
 ·split
  ·grind
  grind
theorem JG(s c w):Calls Tryz.prog 301 #[.string s,.int .u8 c] w λe a=>e=.returned (.int .i64 (Lib.indexByte s.data.toList c.toNat.toUInt8))/\a=w:=Any.strings_IndexByte { Tryz.lays151 with } s c w
theorem And{b}(Q:128<=b.toNat):∀{l:List UInt8},(∀c∈l,c.toNat<128)->Lib.indexByte l b= -1
 |[],_=>rfl
 |c::l,h=>by
  have a:(c==b)=false:=Z;have d:=And Q (l:=l) λx e=>h x (ch _ e)
  simp[Lib.indexByte,a,d]
set_option maxRecDepth 1000000 in
theorem YR (x : Int) (a b : UInt8) (he : Utf8.encode x = ⟨#[a,b]⟩) (hb : 128 <= b.toNat) (h0 : 128 <= x) (h1 : Lib.validRune x = true) (h2 : x ≠ 65533) (w : World) : Calls Tryz.prog 299 #[.string Gb,.int .i32 x] w λe w' => e = .returned (.int .i64 (-1)) /\ Go.RowKit.Below w.heap.size w w' := by
 have hd0 : decide ((0 : Int) <= x) = true := by simp; omega
 have hd1 : decide (x < (128 : Int)) = false := by simp; omega
 have hd2 : decide ((95 : Int) = b.toNat) = false := by simp; omega
 have e295 : ∀ args w,(callFunc 302 args).run Tryz.prog w = .ok (.enter 302 args) w := enters_of Tryz.func302 Kr rfl;have e294 : ∀ args w,(callFunc 301 args).run Tryz.prog w = .ok (.enter 301 args) w := enters_of Tryz.func301 Kr rfl;have mixed : Tryz.prog.follows .mixedOrders = true := Kr;have hsz : Gb.size = 4 := rfl
 have hne : (((Gb[1]'(by decide)).toNat : Int) != (((⟨#[a,b]⟩ : ByteArray)[1]'(by show 1 < 2; omega)).toNat : Int)) = true := by
  show (((95 : Nat) : Int) != ((b.toNat : Nat) : Int)) = true
  simp; omega
 have hix : Lib.indexByte (Gb.extract 2 4).data.toList ((((⟨#[a,b]⟩ : ByteArray)[1]'Z).toNat : Int)).toNat.toUInt8 = -1 := by
  show Lib.indexByte [46,63] (b.toNat : Int).toNat.toUInt8 = -1
  rw [xB,show b.toNat.toUInt8 = b from UInt8.ofNat_toNat]
  exact And hb (by decide)
 have hI : ∀ w,Calls Tryz.prog 301 #[.string (Gb.extract 2 4),.int .u8 (((⟨#[a,b]⟩ : ByteArray)[1]'Z).toNat : Int)] w λe w' => e = .returned (.int .i64 (-1)) /\ w' = w := λw => by
  have := JG (Gb.extract 2 4) (((⟨#[a,b]⟩ : ByteArray)[1]'Z).toNat : Int) w
  grind
 clear hix
 have hwr : IntKind.i64.wrap 2 = 2 := by decide
 have kc : ∀ (w : World),(convert 21 9 (.int .i32 x)).run Tryz.prog w = .ok (.string ⟨#[a,b]⟩) w := λw => by rw [<- he]; exact run_convert_int_string (P := Tryz.prog) w 21 9 .i32 x (by rw [Tryz.underlying21]; rfl) Tryz.underlying9
 go_enter Tryz.func299,Tryz.ntmps299
 go_wp2_with (first | (go_at_fn 302; refine (Tryz.utf8_ValidRune _ _).mono ?_; rintro e w' ⟨rfl,hw⟩; rw [hw,h1]) | (go_at_fn 301; refine (Any.strings_IndexByte { Tryz.lays151 with } _ _ _).mono ?_; rintro e w' ⟨rfl,hw⟩; rw [hw]))
 refine wp_scope_straight ?_
 go_wp2
 go_loopg [9] 1 (λgf s9 wx => s9 = .int .i64 1 /\ wx = w)
 case atStart => exact ⟨rfl,rfl⟩
 case round =>
  obtain ⟨rfl,rfl⟩ := hrel
  go_wp2
  refine wp_scope_straight ?_
  go_wp2
  go_quiet (fail)
  go_wp2
  go_quiet ((refine (hI _).mono λe w'' h => ⟨h.1,_,h.2⟩))
  go_wp2
  simp only [Exit.noGoto,Exit.inBlock,Exit.then]
  go_ret
  exact ⟨rfl,below_drewNg _ _⟩
set_option maxRecDepth 1000000 in
theorem Apj (x : Int) (a b d : UInt8) (he : Utf8.encode x = ⟨#[a,b,d]⟩) (hb : 128 <= d.toNat) (h0 : 128 <= x) (h1 : Lib.validRune x = true) (h2 : x ≠ 65533) (w : World) : Calls Tryz.prog 299 #[.string Gb,.int .i32 x] w λe w' => e = .returned (.int .i64 (-1)) /\ Go.RowKit.Below w.heap.size w w' := by
 have hd0 : decide ((0 : Int) <= x) = true := by simp; omega
 have hd1 : decide (x < (128 : Int)) = false := by simp; omega
 have hd2 : decide ((46 : Int) = d.toNat) = false := by simp; omega
 have e295 : ∀ args w,(callFunc 302 args).run Tryz.prog w = .ok (.enter 302 args) w := enters_of Tryz.func302 Kr rfl;have e294 : ∀ args w,(callFunc 301 args).run Tryz.prog w = .ok (.enter 301 args) w := enters_of Tryz.func301 Kr rfl;have mixed : Tryz.prog.follows .mixedOrders = true := Kr;have hsz : Gb.size = 4 := rfl
 have hne : (((Gb[2]'(by decide)).toNat : Int) != (((⟨#[a,b,d]⟩ : ByteArray)[2]'(by show 2 < 3; omega)).toNat : Int)) = true := by
  show (((46 : Nat) : Int) != ((d.toNat : Nat) : Int)) = true
  simp; omega
 have hix : Lib.indexByte (Gb.extract 3 4).data.toList ((((⟨#[a,b,d]⟩ : ByteArray)[2]'Z).toNat : Int)).toNat.toUInt8 = -1 := by
  show Lib.indexByte [63] (d.toNat : Int).toNat.toUInt8 = -1
  rw [xB,show d.toNat.toUInt8 = d from UInt8.ofNat_toNat]
  exact And hb (by decide)
 have hI : ∀ w,Calls Tryz.prog 301 #[.string (Gb.extract 3 4),.int .u8 (((⟨#[a,b,d]⟩ : ByteArray)[2]'Z).toNat : Int)] w λe w' => e = .returned (.int .i64 (-1)) /\ w' = w := λw => by
  have := JG (Gb.extract 3 4) (((⟨#[a,b,d]⟩ : ByteArray)[2]'Z).toNat : Int) w
  grind
 clear hix
 have hwr : IntKind.i64.wrap 3 = 3 := by decide
 have kc : ∀ (w : World),(convert 21 9 (.int .i32 x)).run Tryz.prog w = .ok (.string ⟨#[a,b,d]⟩) w := λw => by rw [<- he]; exact run_convert_int_string (P := Tryz.prog) w 21 9 .i32 x (by rw [Tryz.underlying21]; rfl) Tryz.underlying9
 go_enter Tryz.func299,Tryz.ntmps299
 go_wp2_with (first | (go_at_fn 302; refine (Tryz.utf8_ValidRune _ _).mono ?_; rintro e w' ⟨rfl,hw⟩; rw [hw,h1]) | (go_at_fn 301; refine (Any.strings_IndexByte { Tryz.lays151 with } _ _ _).mono ?_; rintro e w' ⟨rfl,hw⟩; rw [hw]))
 refine wp_scope_straight ?_
 go_wp2
 go_loopg [9] 1 (λgf s9 wx => s9 = .int .i64 2 /\ wx = w)
 case atStart => exact ⟨rfl,rfl⟩
 case round =>
  obtain ⟨rfl,rfl⟩ := hrel
  go_wp2
  refine wp_scope_straight ?_
  go_wp2
  go_quiet (fail)
  go_wp2
  go_quiet ((refine (hI _).mono λe w'' h => ⟨h.1,_,h.2⟩))
  go_wp2
  simp only [Exit.noGoto,Exit.inBlock,Exit.then]
  go_ret
  exact ⟨rfl,below_drewNg _ _⟩
set_option maxRecDepth 1000000 in
theorem UR (x : Int) (a b d e : UInt8) (he : Utf8.encode x = ⟨#[a,b,d,e]⟩) (hb : 128 <= e.toNat) (h0 : 128 <= x) (h1 : Lib.validRune x = true) (h2 : x ≠ 65533) (w : World) : Calls Tryz.prog 299 #[.string Gb,.int .i32 x] w λe w' => e = .returned (.int .i64 (-1)) /\ Go.RowKit.Below w.heap.size w w' := by
 have hd0 : decide ((0 : Int) <= x) = true := by simp; omega
 have hd1 : decide (x < (128 : Int)) = false := by simp; omega
 have hd2 : decide ((63 : Int) = e.toNat) = false := by simp; omega
 have e295 : ∀ args w,(callFunc 302 args).run Tryz.prog w = .ok (.enter 302 args) w := enters_of Tryz.func302 Kr rfl;have e294 : ∀ args w,(callFunc 301 args).run Tryz.prog w = .ok (.enter 301 args) w := enters_of Tryz.func301 Kr rfl;have mixed : Tryz.prog.follows .mixedOrders = true := Kr;have hsz : Gb.size = 4 := rfl
 have hne : (((Gb[3]'(by decide)).toNat : Int) != (((⟨#[a,b,d,e]⟩ : ByteArray)[3]'(by show 3 < 4; omega)).toNat : Int)) = true := by
  show (((63 : Nat) : Int) != ((e.toNat : Nat) : Int)) = true
  simp; omega
 have hix : Lib.indexByte (Gb.extract 4 4).data.toList ((((⟨#[a,b,d,e]⟩ : ByteArray)[3]'Z).toNat : Int)).toNat.toUInt8 = -1 := by
  show Lib.indexByte ([] : List UInt8) (e.toNat : Int).toNat.toUInt8 = -1
  rw [xB,show e.toNat.toUInt8 = e from UInt8.ofNat_toNat]
  exact And hb (by decide)
 have hI : ∀ w,Calls Tryz.prog 301 #[.string (Gb.extract 4 4),.int .u8 (((⟨#[a,b,d,e]⟩ : ByteArray)[3]'Z).toNat : Int)] w λe w' => e = .returned (.int .i64 (-1)) /\ w' = w := λw => by
  have := JG (Gb.extract 4 4) (((⟨#[a,b,d,e]⟩ : ByteArray)[3]'Z).toNat : Int) w
  grind
 clear hix
 have hwr : IntKind.i64.wrap 4 = 4 := by decide
 have kc : ∀ (w : World),(convert 21 9 (.int .i32 x)).run Tryz.prog w = .ok (.string ⟨#[a,b,d,e]⟩) w := λw => by rw [<- he]; exact run_convert_int_string (P := Tryz.prog) w 21 9 .i32 x (by rw [Tryz.underlying21]; rfl) Tryz.underlying9
 go_enter Tryz.func299,Tryz.ntmps299
 go_wp2_with (first | (go_at_fn 302; refine (Tryz.utf8_ValidRune _ _).mono ?_; rintro e w' ⟨rfl,hw⟩; rw [hw,h1]) | (go_at_fn 301; refine (Any.strings_IndexByte { Tryz.lays151 with } _ _ _).mono ?_; rintro e w' ⟨rfl,hw⟩; rw [hw]))
 refine wp_scope_straight ?_
 go_wp2
 go_loopg [9] 1 (λgf s9 wx => s9 = .int .i64 3 /\ wx = w)
 case atStart => exact ⟨rfl,rfl⟩
 case round =>
  obtain ⟨rfl,rfl⟩ := hrel
  go_wp2
  refine wp_scope_straight ?_
  go_wp2
  go_quiet (fail)
  go_wp2
  go_quiet ((refine (hI _).mono λe w'' h => ⟨h.1,_,h.2⟩))
  go_wp2
  simp only [Exit.noGoto,Exit.inBlock,Exit.then]
  go_ret
  exact ⟨rfl,below_drewNg _ _⟩
theorem Aus(x)(c:128<=x)(w):Calls Tryz.prog 299 #[.string Gb,.int .i32 x] w λe k=>e=.returned (.int .i64 (-1))/\Go.RowKit.Below w.heap.size w k:=by
 by_cases f:x=65533
 ·subst f;exact Arx w
 ·cases j:Lib.validRune x with
  |false=>exact(Ary x c j f w).mono λe k h=>⟨h.1,h.2▸Go.RowKit.Below.refl _ _⟩
  |true=>
   rcases Aph x c with⟨a,b,i,g⟩|⟨a,b,d,i,g⟩|⟨a,b,d,e,i,g⟩
   ·exact YR x a b i g c j f w
   ·exact Apj x a b d i g c j f w
   ·exact UR x a b d e i g c j f w
def rS(x:Int):Bool:=decide (x=45)||decide (x=95)||decide (x=46)||decide (x=63)
theorem TK(x:Nat)(h:x<128):decide ((0:Int)<=Lib.indexByte Gb.data.toList x.toUInt8)=rS x:=by
 have:∀x:Fin 128,decide ((0:Int)<=Lib.indexByte Gb.data.toList x.val.toUInt8)=rS x.val:=by decide
 exact this ⟨x,h⟩
set_option maxRecDepth 1000000 in
theorem Zq (x : Nat) (w : World) : Calls Tryz.prog 297 #[.string Gb,.int .i32 x] w λe w' => e = .returned (.bool (rS x)) /\ Go.RowKit.Below w.heap.size w w' := by
 by_cases h : x < 128
 ·have := Tryz.strings_ContainsRune_ascii Gb (x : Int) w z z;rw [xB,TK x h] at this;exact this.mono λe w' h => ⟨h.1,h.2 ▸ Go.RowKit.Below.refl _ _⟩
 ·have e292 : ∀ args w,(callFunc 299 args).run Tryz.prog w = .ok (.enter 299 args) w := enters_of Tryz.func299 Kr rfl
  have hi : rS x = false := by simp [rS]; omega
  rw [hi]
  go_enter Tryz.func297,Tryz.ntmps297
  go_wp2_with (go_at_fn 299; refine (Aus (x : Int) z _).mono ?_; rintro e w' ⟨rfl,hw⟩)
  go_ret
  exact ⟨rfl,hw⟩
def zy(n:Int):Bool:=(((decide ((97:Int)<=n)&&decide (n<=122))||(decide ((65:Int)<=n)&&decide (n<=90)))||(decide ((48:Int)<=n)&&decide (n<=57)))||rS n
end
section
open Go Go.Proofs Go.RowKit
set_option maxRecDepth 1000000 in
theorem IK (x : Nat) (w : World) : Calls Tryz.prog 296 #[.int .i32 x] w λe w' => e = .returned (.bool (!zy x)) /\ Go.RowKit.Below w.heap.size w w' := by
  have e290 : ∀ args w,(callFunc 297 args).run Tryz.prog w = .ok (.enter 297 args) w := enters_of Tryz.func297 Kr rfl;obtain ⟨X,hX⟩ : ∃ X : Int,(x : Int) = X := ⟨_,rfl⟩;have hR := Zq x;rw [hX] at hR ⊢;unfold zy;cases h1 : decide ((97 : Int) <= X) <;> cases h2 : decide (X <= 122) <;> cases h3 : decide ((65 : Int) <= X) <;> cases h4 : decide (X <= 90) <;> cases h5 : decide ((48 : Int) <= X) <;> cases h6 : decide (X <= 57) <;>
  (go_enter Tryz.func296,Tryz.ntmps296
   go_wp2_with (go_at_fn 297; refine (hR _).mono ?_; rintro e w' ⟨rfl,hw⟩)
   go_ret
   first | exact ⟨rfl,Go.RowKit.Below.refl _ _⟩ | exact ⟨rfl,hw⟩)
theorem Ai4{f:Nat}{a J b}(p:yr M.P f)(h:∀C w (d:Array Value),RL C (O J) w a d.toList->Calls M.P f d w (λe g=>e=.returned (.bool b)/\Go.RowKit.Below w.heap.size w g)):Al M f a J λu U=>u=.bool b/\U=J:=by
 intro C w d k H i;refine⟨p,(h C w d i).mono λe g j=>?_⟩
 obtain⟨rfl,c⟩:=j;obtain⟨l,m⟩:=k.same c.size c.block ⟨c.os,c.output⟩
 exact⟨.bool b,J,C,⟨rfl,rfl⟩,l,m,by unfold R;rfl⟩
def RD(s:aH):Bool:=decide (0<=Lib.idxFunc (λx=> !zy x) true ⟨⟨s⟩⟩)
theorem Axe{C N w}{k:Nat}{x}(h:R C N w (.fn (.func k) [] []) x):x=.func (.func k) #[] #[]:=by
 unfold R at h;obtain⟨a,b,rfl,c,d⟩:=h
 have e:∀a:Array Value,RL C N w [] a.toList->a=#[]:=λa h=>by
  obtain⟨l⟩:=a;cases l with
  |nil=>rfl
  |cons x r=>unfold RL at h;exact h.elim
 rw[e a c,e b d]
theorem C4(s J):Cv 295 [sV s,.fn (.func 296) [] []] J (.bool (RD s)):=by
 refine Ai4 ⟨_,Tryz.func295,rfl,rfl⟩ λC w g d=>?_
 obtain⟨x,y,rfl,e,f⟩:=OB d;obtain⟨a,rfl,rfl⟩:=GE e;rw[Axe f];have c:∀b w,(callFunc 296 b).run Tryz.prog w=.ok (.enter 296 b) w:=enters_of Tryz.func296 Kr rfl;exact Any.strings_ContainsFunc_grows Tryz.laysGw17 296 #[] c (λx=> !zy x) a w λW x _ _=>IK x W
def Fb(s:aH):Bool:=(decide (s=[40])||decide (s=[41]))||(!decide (s=[])&& !RD s)
end
abbrev e1(s:aH):List I:=[sV s]
def Ox(s:aH):List aH:=[[120],[36,112],[120],[36,61],s,[36,46]]
def lZ(s:aH):PT:=⟨7,[120],[[120]],[s]⟩
theorem D9{N}(s):I.unds N (e1 s)=true:=rfl
theorem HW(s J):Cv 292 [sV s] J (.bool (Fb s)):=by
 refine Aj Tryz.func292 rfl rfl λb c=>?_
 refine G8 ?_;refine A (H5 (q:=[40]) aV rfl rfl) ?_;refine G ?_;refine cJ 2 ?_ (λH=>?_) ?_
 rotate_left
 ·refine Gn H ?_;refine On H (H5 (q:=[41]) aV rfl rfl) ?_;exact Ez
 refine G ?_;refine Ab rfl ?_ ?_<;>intro a
 ·refine G5 ?_;refine B4 b rfl ?_
  exact congrArg I.bool (by unfold Fb;rw[show(decide (s=[40])||decide (s=[41]))=true from a];rfl)
 ·refine G4 ?_;refine A (Ko (q:=[]) aV rfl rfl) ?_;refine G ?_;refine fZ 3 ?_ (λH=>?_) ?_
  rotate_left
  ·refine Gn H ?_
   refine Bh rfl rfl rfl (by rw[H];rfl) rfl rfl rfl rfl (C4 s _) ?_
   refine Gn H ?_;exact Ez
  refine G3 ?_;refine B4 b rfl ?_
  exact congrArg I.bool (by unfold Fb;rw[show(decide (s=[40])||decide (s=[41]))=false from a];rfl)
theorem CF(s J):Cv 278 [.agg (IZ s)] J (Af (Ox s)):=by
 refine Aj Tryz.func278 rfl rfl λK R=>?_
 refine G9 ?_
 refine A (Bp KN rfl rfl zD (n:=7) rfl) ?_
 iterate 13 refine G ?_
 refine Ab rfl ?_ ?_<;>intro L
 ·obtain⟨v1,S,h,w,o,_⟩:=iS (by':=16) (enc:=e1) zF (Nat.le_refl (O J)) (aW.nil (sz:=1)) [[120]] (by simp[az])
  have b:=o
  obtain⟨v2,T,i,x,p,_⟩:=iS (by':=16) (enc:=e1) zF b.1 w [[36,112]] (by simp[az])
  have c:=b.trans p
  obtain⟨v3,W,j,y,q,_⟩:=iS (by':=16) (enc:=e1) zF c.1 x [[120]] (by simp[az])
  have d:=c.trans q
  obtain⟨v4,X,k,B,r,_⟩:=iS (by':=16) (enc:=e1) zF d.1 y [[36,61]] (by simp[az])
  have e:=d.trans r
  obtain⟨v5,U5,l,C,u,_⟩:=iS (by':=16) (enc:=e1) zF e.1 B [s] (by simp[az])
  have f:=e.trans u
  obtain⟨v6,U6,m,E,v,_⟩:=iS (by':=16) (enc:=e1) zF f.1 C [[36,46]] (by simp[az])
  have g:=f.trans v;refine G4 ?_;refine Cx (Ai aJ bM rfl rfl rfl) (Dv (len:=1)) rfl rfl (A (Av aJ rfl bF rfl rfl rfl (new:=e1 [120]) rfl h) ?_);refine G3 ?_;refine L4 (Rr:=Dk []) (anns:=[⟨.pure,0,0⟩,⟨.pure,0,0⟩,⟨.read,0,0⟩,⟨.pure,0,0⟩,⟨.eff,0,1⟩,⟨.pure,0,1⟩,⟨.read,0,1⟩,⟨.eff,1,2⟩,⟨.pure,2,2⟩]) Di (Bw trivial) Kr ?_;refine G3 ?_;refine V (Ai aJ bM rfl rfl rfl) (DT (Av aJ rfl bF rfl rfl rfl (new:=e1 [36,112]) rfl i) ?_);refine G2 ?_;refine DT (Av aJ rfl bF rfl rfl rfl (new:=[[120]].flatMap e1) (X7 (enc:=e1) (sz:=1) zF _ _) j) ?_
  refine G2 ?_;refine⟨⟨trivial,trivial,λU _=>⟨U,Ac (aG (t:=9)) rfl rfl rfl⟩,trivial,trivial,trivial,λU _=>⟨U,Ac (aG (t:=22)) rfl rfl rfl⟩,trivial,trivial,trivial⟩,?_⟩
  refine G7 ?_;refine Ab rfl ?_ ?_<;>intro N
  ·refine L4 (Rr:=Dk []) (anns:=[⟨.pure,0,0⟩,⟨.pure,0,0⟩,⟨.eff,0,1⟩,⟨.pure,0,1⟩,⟨.read,0,1⟩,⟨.eff,1,2⟩,⟨.pure,2,2⟩]) Di (Bw trivial) Kr ?_;refine G ?_;refine V (Ai aJ bM rfl rfl rfl) (DT (Av aJ rfl bF rfl rfl rfl (new:=e1 [36,61]) rfl k) ?_);refine G2 ?_;refine DT (Av aJ rfl bF rfl rfl rfl (new:=[s].flatMap e1) (X7 (enc:=e1) (sz:=1) zF _ _) l) ?_
   refine G2 ?_;refine⟨⟨trivial,trivial,trivial,trivial,λU _=>⟨U,Ac (aG (t:=22)) rfl rfl rfl⟩,trivial,trivial,trivial⟩,?_⟩
   refine G7 ?_;refine Ab rfl ?_ ?_<;>intro P
   ·refine G2 ?_;refine Cx (Ai aJ bM rfl rfl rfl) (Dv (len:=1)) rfl rfl (A (Av aJ rfl bF rfl rfl rfl (new:=e1 [36,46]) rfl m) ?_);refine G8 ?_;exact⟨_,rfl,Af (Ox s),J,bL K g,Y,E.fz zF (λa Q=>K.none Q) (A2 D9 _),rfl,rfl⟩
   ·exact absurd P zD
  ·exact absurd N zD
 ·exact absurd L zD
def nH(s:aH):Nat->List aH
 |0=>[]
 |_+1=>Ox s
def VS(s:aH)(b:Bool):I:=if b=true then Af (Ox s)else nS
theorem BR(s J):Cv 252 [aD qP 4 [lZ s]] J (.tup [VS s (Fb s),D (if Fb s=true then 0 else 2)]):=by
 refine Aj Tryz.func252 rfl rfl λl w=>?_
 refine cG ?_;refine Ab rfl ?_ ?_<;>intro r
 ·exact absurd r zS
 ·refine G5 ?_
  refine Ca (Ip (λ_=> !Fb s) [lZ s] 276 [] J zS (λa f=>by simp at f;subst f;exact In s (Fb s) J (HW s J))) ?_
  refine G ?_;refine Ab rfl ?_ ?_<;>intro n
  ·refine G6 ?_;refine B4 l rfl ?_
   exact(by rw[show Fb s=false from by simpa using n];rfl)
  ·iterate 13 refine G ?_
   refine Ci (λq:Nat×I=>[(4,q.2),(12,aD qP 4 [lZ s]),(13,D (.ofNat [lZ s].length)),(14,D (.ofNat q.1))]) (λq d=>q.1<=[lZ s].length/\aW d (O J) e1 1 (nH s q.1) q.2/\Below (O J) J d) (λq=>[lZ s].length-q.1) (0,nS) SL ⟨bU _,.nil,.rfl'⟩ ?_
   rintro⟨e,B⟩ d h;obtain⟨k,m,g⟩:e<=[lZ s].length/\aW d (O J) e1 1 (nH s e) B/\Below (O J) J d:=h;refine G5 ?_;refine Ab rfl ?_ ?_<;>intro o
   ·have b:=of_decide_eq_true o
    have x:e=0:=by simp at b;omega
    subst x
    have p:0<1:=by omega
    have u:[lZ s][0]? =some (lZ s):=rfl
    obtain⟨C,E,i,c,j,_⟩:=iS (by':=16) (enc:=e1) zF g.1 m (Ox s) (by simp[az,nH,Ox])
    iterate 13 refine G ?_
    refine Ca (CF s _) ?_;refine A (Av aJ rfl bF rfl rfl rfl (new:=(Ox s).flatMap e1) (X7 (enc:=e1) (sz:=1) zF _ _) i) ?_
    refine G5 ?_;refine A (Bf bF rfl c.lenA.1 c.lenA.2) ?_;refine G2 ?_;refine Ab rfl ?_ ?_<;>intro t
    ·exact absurd t (by simp[nH,Ox])
    ·refine G5 ?_
     refine⟨(0+1,C),by show 1-1<1-0;omega,SL,p,c,g.trans j⟩
   ·have b:=of_decide_eq_false o
    have y:e=1:=by have:e<=1:=k;simp at b;omega
    subst y;refine G7 ?_
    have v:Fb s=true:=by simpa using n
    refine G ?_
    exact⟨_,rfl,.tup [Af (Ox s),D 0],J,bL l g,Y,.tup (.cons (m.fz zF (λa f=>l.none f) (A2 D9 _)) (.cons (.same rfl) .nil)),by rw[v];rfl,rfl⟩
theorem DO(s J):Cv 219 [sV s] J (.bool (Fb s)):=by
 refine Aj Tryz.func219 rfl rfl λb a=>?_
 refine G6 ?_;refine Cx (Ai aJ bM rfl rfl rfl) (Dv (len:=1)) rfl rfl ?_;refine G ?_;refine Cx (Ai aJ bM rfl rfl rfl) (Dv (len:=1)) rfl rfl ?_;refine G ?_;refine Cx (Ai aJ bM rfl rfl rfl) (Dv (len:=1)) rfl rfl ?_;refine Ca (BR s _) ?_
 iterate 13 refine G ?_
 refine B4 b rfl ?_
 exact(by cases Fb s<;>rfl)
theorem EJ(s J):Cv 218 [sV s] J (.bool (!Fb s)):=by
 refine Aj Tryz.func218 rfl rfl λb a=>?_
 refine G7 ?_;refine Ca (DO s _) ?_;refine G4 ?_;refine B4 b rfl ?_;exact rfl
theorem Nr{f J Rr t r T x y e U C enc m s}{v:C}(a:Fs M.P 9=true)(L:cq M.P t=some (9,U,T,e))(W:Ah M f x=some (.mp r))(K:B8 enc J r m)(B:Ah M f y=some (sV s))(H:m.get s=some v):
  As M Rr (.lookup t x y false) f J (enc v) J:=by
 have:=W4 (Rr:=Rr) a L W K B
 grind
theorem ZO{f J Rr t r T x y e U C a}{m:SM C}{s}(b:Fs M.P 9=true)(L:cq M.P t=some (9,U,T,e))(W:Ah M f x=some (.mp r))(K:B8 a J r m)(B:Ah M f y=some (sV s))(H:m.get s=none):
  As M Rr (.lookup t x y false) f J U J:=by
 have:=W4 (Rr:=Rr) b L W K B
 grind
theorem Ar0{f J Rr x hi l n}(W:Ah M f x=some (aD eH 3 l))(r:Iz M f hi=some (some (D (.ofNat n))))(S:n<=l.length):
  As M Rr (.slice 47 x none hi none) f J (aD eH 3 (l.take n)) J:=by
 have c:Do l.length none none (some (D (.ofNat n))) none=some (0,n,none):=by
  have a:Nat.ble n l.length=true:=dS S;have b:Nat.ble 0 n=true:=rfl;simp only[Do,D,My,a,b,Li,cond_true,dR,Mz]
 have:=yP (Rr:=Rr) (J:=J) (lo:=none) (hi:=hi) (mx:=none) (aJ (t:=47)) Qq W rfl r rfl c (bU _) S;rw[kn,mO]at this
 rwa[show aD eH 3 (l.take n)=.sv ((l.take n).flatMap eH) 3 n none by unfold aD;rw[gC,nO S]]
theorem Ai5:∀{l m:List aH},l.flatMap (λs=>[sV s])=m.flatMap (λs=>[sV s])->l=m
 |[],[],_=>rfl
 |[],_::_,h=>by simp at h
 |_::_,[],h=>by simp at h
 |a::l,b::m,h=>by
  simp only[ej,dL,fK,pw]at h
  have c:a=b:=by have:=h.1;unfold sV at this;injection this with this;exact Fu.1 this
  rw[c,Ai5 h.2]
theorem Ar1:∀{l m:List Hp},l.flatMap eH=m.flatMap eH->l=m
 |[],[],_=>rfl
 |[],b::_,h=>by simp[eH]at h
 |a::_,[],h=>by simp[eH]at h
 |a::l,b::m,h=>by
  simp only[ej,eH,dL,fK,pw]at h;obtain⟨c,e,d,f⟩:=h
  have g:a.label=b.label:=by unfold sV at c;injection c with c;exact Fu.1 c
  have i:a.floating=b.floating:=by injection e
  have j:a.text=b.text:=by simp only[Af,aD,I.sv.injEq]at d;exact Ai5 d.1
  rw[Ar1 f];cases a;cases b;grind
theorem Auu{l m}(h:aD eH 3 l=aD eH 3 m):l=m:=by unfold aD at h;injection h with h;exact Ar1 h
theorem vN{f a x s v U r}(h:x=a->v=U):Dk ((f,a,s,v,s)::(f,x,s,U,s)::r) (.fn f) x s=some (U,s):=by
 by_cases e:x=a
 ·unfold Dk;grind
 ·unfold Dk;rw[if_neg (λb=>e b.2.1)];unfold Dk;grind
def Oy(d:Db):I:=.tup [aD eH 3 ((Fa d).getD []),.bool (Fa d).isSome]
theorem Qt{d}(a:d.frames.length≠0)(h:Ow d d.frames 0 ([],[])=none):Fa d=none:=by unfold Fa;grind
theorem Apl{C f}:∀{l:List C} {p:C×List C},p∈Ht l->l.all f=(f p.1&&p.2.all f)
 |[],p,h=>by simp[Ht]at h
 |x::m,p,h=>by
  simp only[Ht,bN,dO]at h
  rcases h with rfl|⟨q,a,rfl⟩
  ·rfl
  ·simp only[gX,Apl a]
   grind
theorem Z3{l h}(K:h∈bX l):h∈l/\h.floating=true:=by
 have:=gS.1 K
 exact⟨this.1,by have a:=this.2;simpa[Vd]using a⟩
theorem BM(h J):Cv 179 [.agg (eH h)] J (.bool h.floating):=by
 refine Aj Tryz.func179 rfl rfl λb a=>?_
 refine cG ?_;refine B4 b rfl ?_;exact rfl
theorem EQ(d J)(hB:nE d)(gz:∀f∈d.frames,∀h∈f.all,h.floating=true->∃a b,h.text=[a,b])(jy:d.frames.length≠0->∀s,Ow d d.frames 0 ([],[])=some s->∀v∈d.vars,(s.1.get v).isSome=true):Cv 146 [fy d] J (Oy d):=by
 refine Aj Tryz.func146 rfl rfl λhw ua=>?_
 refine G6 ?_;refine ON ?_;refine G8 ?_;refine Ab rfl ?_ ?_<;>intro h1
 ·refine G ?_;refine X0 ?_;refine G7 ?_;refine⟨rfl,rfl,?_⟩;have li:d.frames.length=0:=Z
  have e:Oy d=.tup [aD eH 3 [],.bool (decide (Int.ofNat d.vars.length=0))]:=by
   unfold Oy Fa;rw[if_pos li]
   by_cases hv:d.vars.length=0
   ·grind
   ·rw[if_neg hv,decide_eq_false Z];rfl
  refine G ?_
  exact⟨_,rfl,Oy d,J,a_ hw Y zN,Y,by rw[e];exact .tup (.cons Ex (.cons (.same rfl) .nil)),rfl,rfl⟩
 ·refine G3 ?_;refine A (Cd (n:=O J) Qo rfl) ?_;refine G4 ?_;refine A (Cd (n:=O J+1) rL (fN rfl)) ?_;refine cD ?_;have sx:=hB.n;have t7:=hB.v;have ac:d.frames.length≠0:=Z
  have c8:∃s,Pd J ((J.new (.map 9 [] 0)).new (.map 9 [] 0)) s/\Ow d d.frames 0 ([],[])=Ow d (d.frames.drop 0) 0 s:=by
   refine⟨([],[]),⟨Z,Z,⟨0,by rw[a5,if_neg Z,a5,if_pos rfl];rfl⟩,⟨[],⟨⟨0,by rw[a5,if_pos (by rw[Ao])];rfl⟩,λ_=>rfl,λ_ _ _ h=>(by cases h),λ_ _ h=>(by cases h),λ_ _ _ h=>(by cases h)⟩⟩,λ_=>rfl⟩,rfl⟩
  refine G ?_;refine Bz d.frames.length (λk=>[(1,.pv [Af d.consts,Af d.vars,aD eF 8 d.frames]),(4,.mp (O J)),(5,.mp (O J+1)),(34,aD eF 8 d.frames),(35,D (.ofNat d.frames.length)),(36,D (.ofNat k))]) (λk j=>∃s,Pd J j s/\Ow d d.frames 0 ([],[])=Ow d (d.frames.drop k) k s) SL c8 ?_
  rintro k j tc ⟨Q,N,af⟩;refine G5 ?_;refine Ab rfl ?_ ?_<;>intro h2
  ·have bc:k<d.frames.length:=Z;obtain⟨c,ah⟩:=Ar bc;have aj:=A4 ah;have ag:=hB.f c (bA ah);have bs:=ag.a
   have lg:c.dummies.length<1000000:=by have:=ag.a;simp[Fr.all]at this;omega
   have t9:=ag.h;have oh:=H0 (p:=Vd) (l:=c.hyps);have oo:=H0 (p:=Vd) (l:=c.dummies);have sn:(bX c.hyps).length<=c.hyps.length:=oh;have sq:(bX c.dummies).length<=c.dummies.length:=oo;refine G8 ?_;refine Rn bG aG rfl rfl zF rfl zF rfl rfl rfl rfl rfl ?_
   refine G2 ?_;refine XI (l:=[(178,[aD eH 3 c.hyps],j,aD eH 3 (bX c.hyps),j),(178,[aD eH 3 c.dummies],j,aD eH 3 (bX c.dummies),j)]) ⟨vP c.hyps j ag.h,vP c.dummies j lg,trivial⟩ ?_;refine G5 ?_
   refine DT (Bq rfl rfl (vN (λe=>by have:=Auu (List.cons.inj e).1;rw[this]))) ?_
   refine G3 ?_
   refine⟨rfl,by simp,?_⟩
   refine G7 ?_;refine A (D3 aV rfl rfl z) ?_;refine G5 ?_;refine cJ 6 ?_ (λH=>?_) ?_
   rotate_left
   ·iterate 4 refine Gn H ?_
    refine On H (Uu aJ Qq rfl rfl H0) (Bh rfl rfl rfl (by rw[H];rfl) rfl rfl rfl rfl (rA (λh=>h.floating) (c.hyps.drop (bX c.hyps).length) 179 [] j Z (λa _=>BM a j)) ?_)
    exact Ez
   refine G ?_;refine Ab rfl ?_ ?_<;>intro h3
   ·refine G5 ?_
    have hO:Fa d=none:=Qt ac (by rw[af,aj,Ow,if_pos (show vL d c=true from h3)])
    refine G ?_
    exact⟨_,rfl,.tup [aD eH 3 [],.bool false],J,bL hw ⟨by have:=N.n;omega,N.g⟩,Y,.tup (.cons Ex (.cons (.same rfl) .nil)),by unfold Oy;rw[hO];rfl,rfl⟩
   ·have ao:vL d c=false:=h3;refine G5 ?_;refine A (G0 (z:=[nS,nS]) Kr PP rfl rfl) ?_;refine G3 ?_;refine Bz 2 (λW=>[(1,.pv [Af d.consts,Af d.vars,aD eF 8 d.frames]),(4,.mp (O J)),(5,.mp (O J+1)),(6,D (.ofNat k)),(34,aD eF 8 d.frames),(35,D (.ofNat d.frames.length)),(36,D (.ofNat k)),(66,.agg [aD eH 3 (bX c.hyps),aD eH 3 (bX c.dummies)]),(67,D (.ofNat W))]) (λW J2=>∃s,Pd J J2 s/\Pb k [bX c.hyps,bX c.dummies] Q=Pb k ([bX c.hyps,bX c.dummies].drop W) s) SL ⟨Q,N,rfl⟩ ?_
    rintro W J2 tg ⟨s2,d9,ak⟩;refine G5 ?_;refine Ab rfl ?_ ?_<;>intro h4
    ·have bv:W<2:=Z
     have p7:∀g,[bX c.hyps,bX c.dummies][W]? =some g->Cz 1 false (([aD eH 3 (bX c.hyps),aD eH 3 (bX c.dummies)]:List I).drop (W*1))=some (aD eH 3 g):=λg ha=>by
      match W,bv,ha with
      |0,_,ha=>cases ha;rfl
      |1,_,ha=>cases ha;rfl
     obtain⟨g,ai⟩:=Ar (show W<[bX c.hyps,bX c.dummies].length from bv)
     have aw:=A4 ai
     have m0:∀h∈g,∃a b,h.text=[a,b]:=λh hh=>by
      have hm:=bA ai;simp only[bN,mW,or_false]at hm
      rcases hm with rfl|rfl
      ·exact gz c (bA ah) h (by simp[Fr.all,(Z3 hh).1]) (Z3 hh).2
      ·exact gz c (bA ah) h (by simp[Fr.all,(Z3 hh).1]) (Z3 hh).2
     have tp:g.length<1000000:=by
      have hm:=bA ai
      grind
     refine G5 ?_;refine A (Ao4 (v:=aD eH 3 g) PP rfl rfl bv (p7 g ai)) ?_;refine G9 ?_;refine Bz g.length (λE=>[(1,.pv [Af d.consts,Af d.vars,aD eF 8 d.frames]),(4,.mp (O J)),(5,.mp (O J+1)),(6,D (.ofNat k)),(11,aD eH 3 g),(34,aD eF 8 d.frames),(35,D (.ofNat d.frames.length)),(36,D (.ofNat k)),(66,.agg [aD eH 3 (bX c.hyps),aD eH 3 (bX c.dummies)]),(67,D (.ofNat W)),(70,aD eH 3 g),(71,D (.ofNat g.length)),(72,D (.ofNat E))]) (λE T=>∃s,Pd J T s/\Yw k g g 0 s2=Yw k g (g.drop E) E s) SL ⟨s2,d9,rfl⟩ ?_
     rintro E T th ⟨B,ae,al⟩;refine G5 ?_;refine Ab rfl ?_ ?_<;>intro h5
     ·have dy:E<g.length:=Z;obtain⟨K,db⟩:=Ar dy;have ax:=A4 db;obtain⟨t0,r,r6⟩:=m0 K (bA db);have bz:bS K=r:=Z2 r6;refine Bo λsa=>?_
      refine G8 ?_;refine Rn bG aG rfl rfl zF rfl zF rfl rfl rfl rfl rfl ?_
      refine G5 ?_
      refine A (A1 aJ zF rfl rfl (by grind:K.text[1]? =some r) (i:=1)) ?_
      refine G3 ?_;refine XH (λL U=>L=[(1,.pv [Af d.consts,Af d.vars,aD eF 8 d.frames]),(4,.mp (O J)),(5,.mp (O J+1)),(6,D (.ofNat k)),(11,aD eH 3 g),(12,D (.ofNat E)),(13,.pv (eH K)),(14,sV r),(34,aD eF 8 d.frames),(35,D (.ofNat d.frames.length)),(36,D (.ofNat k)),(66,.agg [aD eH 3 (bX c.hyps),aD eH 3 (bX c.dummies)]),(67,D (.ofNat W)),(70,aD eH 3 g),(71,D (.ofNat g.length)),(72,D (.ofNat E))]/\Pd J U (Pi k K B)) ?_ ?_
      ·refine G5 ?_;refine Ab rfl ?_ ?_<;>intro h6
       ·have jz:k=0:=Z;have tt:=ae.n;obtain⟨a9,d4⟩:=id ae.a;obtain⟨C,ub⟩:=id ae.o;obtain⟨v2,r8⟩:=id d4.m;have lu:(T.new (.map 9 [] 0)).get (O J)=some (.map 9 (Cn hV B.1) C):=Z;have lw:(((T.new (.map 9 [] 0)).set (O J) (.map 9 (Td hV (.agg [.str [],.bool false,nS]) B.1 r) (C+1))).new (.stamp (O J) (C+1) (kS r))).get (O (T.new (.map 9 [] 0)))=some (.stamp (O J) (C+1) (kS r)):=Z
        have ly:(((T.new (.map 9 [] 0)).set (O J) (.map 9 (Td hV (.agg [.str [],.bool false,nS]) B.1 r) (C+1))).new (.stamp (O J) (C+1) (kS r))).get (O J)=some (.map 9 (Td hV (.agg [.str [],.bool false,nS]) B.1 r) (C+1)):=by rw[a5,if_neg Z,aU,if_pos rfl]
        have lz:((((T.new (.map 9 [] 0)).set (O J) (.map 9 (Td hV (.agg [.str [],.bool false,nS]) B.1 r) (C+1))).new (.stamp (O J) (C+1) (kS r))).set (O J) (.map 9 (Cn hV (B.1.put r K)) (C+1+1))).get (O J+1)=some (.map 9 (Cn (λq=>I.mp q) a9) v2):=by rw[aU,if_neg z,a5,if_neg Z,aU,if_neg z,a5,if_neg Z];exact r8
        have jl:Pd J (((((T.new (.map 9 [] 0)).set (O J) (.map 9 (Td hV (.agg [.str [],.bool false,nS]) B.1 r) (C+1))).new (.stamp (O J) (C+1) (kS r))).set (O J) (.map 9 (Cn hV (B.1.put r K)) (C+1+1))).set (O J+1) (.map 9 (Cn (λq=>I.mp q) (a9.put r (O T))) (v2+1))) (Pi k K B):=by
         rw[jz];refine ae.first (ver:=C+1+1) (ver2:=v2+1) d4 sa Z Z Z ⟨0,?_⟩ (λb h8 h9 sw=>?_)
         ·rw[aU,if_neg z,aU,if_neg z,a5,if_neg Z,aU,if_neg z,a5,if_pos rfl];rfl
         ·rw[aU,if_neg z,aU,if_neg z,a5,if_neg Z,aU,if_neg z,a5,if_neg z]
        skip
        refine G6 ?_;refine Ca (vF K T Z) ?_;refine A (Gx Cr) (A (Φ (enc:=hV) (m:=B.1) (s:=r) bI Qo rfl (lu:(T.new (.map 9 [] 0)).get (O J)=some (.map 9 (Cn hV B.1) C)) rfl) ?_);refine G ?_;refine A (WR (enc:=hV) (m:=B.1) (s:=r) (v:=K) Qo rfl rfl rfl (λte k1 k2=>H6 k1 k2 rfl) (lw:(((T.new (.map 9 [] 0)).set (O J) (.map 9 (Td hV (.agg [.str [],.bool false,nS]) B.1 r) (C+1))).new (.stamp (O J) (C+1) (kS r))).get (O (T.new (.map 9 [] 0)))=_) (ly:(((T.new (.map 9 [] 0)).set (O J) (.map 9 (Td hV (.agg [.str [],.bool false,nS]) B.1 r) (C+1))).new (.stamp (O J) (C+1) (kS r))).get (O J)=_)) ?_
        refine A (Gh (v:=O T) (enc:=λq=>I.mp q) bI rL rfl (lz:((((T.new (.map 9 [] 0)).set (O J) (.map 9 (Td hV (.agg [.str [],.bool false,nS]) B.1 r) (C+1))).new (.stamp (O J) (C+1) (kS r))).set (O J) (.map 9 (Cn hV (B.1.put r K)) (C+1+1))).get (O J+1)=some (.map 9 (Cn (λq=>I.mp q) a9) v2)) rfl rfl (λte k1 k2=>by first|exact I0 k1 k2|exact I1 k1 k2|exact I2 k1 k2|exact Jn k1 k2|exact H6 k1 k2 rfl)) ?_
        refine G ?_;exact⟨[(1,.pv [Af d.consts,Af d.vars,aD eF 8 d.frames]),(4,.mp (O J)),(5,.mp (O J+1)),(6,D (.ofNat k)),(11,aD eH 3 g),(12,D (.ofNat E)),(13,.pv (eH K)),(14,sV r),(34,aD eF 8 d.frames),(35,D (.ofNat d.frames.length)),(36,D (.ofNat k)),(66,.agg [aD eH 3 (bX c.hyps),aD eH 3 (bX c.dummies)]),(67,D (.ofNat W)),(70,aD eH 3 g),(71,D (.ofNat g.length)),(72,D (.ofNat E))],SL,rfl,jl⟩
       ·refine G ?_
        exact⟨[(1,.pv [Af d.consts,Af d.vars,aD eF 8 d.frames]),(4,.mp (O J)),(5,.mp (O J+1)),(6,D (.ofNat k)),(11,aD eH 3 g),(12,D (.ofNat E)),(13,.pv (eH K)),(14,sV r),(34,aD eF 8 d.frames),(35,D (.ofNat d.frames.length)),(36,D (.ofNat k)),(66,.agg [aD eH 3 (bX c.hyps),aD eH 3 (bX c.dummies)]),(67,D (.ofNat W)),(70,aD eH 3 g),(71,D (.ofNat g.length)),(72,D (.ofNat E))],SL,rfl,by have h9:k≠0:=Z;unfold Pi;grind⟩
      ·rintro L U ⟨rfl,X⟩;obtain⟨an,R⟩:=id X.a;have tu:=X.n
       rcases hq:an.get r with _|q
       ·refine G5 ?_;refine A (ZO bI rL rfl R.m rfl hq) (A (Ara Cr rfl) ?_);refine G ?_;refine Qh 6 true false rfl rfl rfl rfl rfl (Eh rfl) (λH=>?_) (λH=>?_) ?_
        ·cases H
        ·iterate 6 refine Gn H ?_
         refine G ?_;exact⟨rfl,sb⟩
        refine G ?_;refine Ab rfl (λh7=>?_) Z
        refine G5 ?_
        have hH:jV k (g.take E) K B=none:=by
         have aq:=R.s r;rw[hq]at aq;unfold jV;rw[bz];cases hx:(Pi k K B).2.get r with
         |none=>rfl
         |some a=>rw[hx]at aq;cases aq
        have e1:Yw k g g 0 s2=none:=by rw[al,ax,Yw,hH]
        have e2:Pb k [bX c.hyps,bX c.dummies] Q=none:=by rw[ak,aw,Pb,e1]
        have e3:Ow d d.frames 0 ([],[])=none:=by rw[af,aj,Ow,zJ ao,e2]
        have hO:Fa d=none:=Qt ac e3;refine G ?_
        exact⟨_,rfl,.tup [aD eH 3 [],.bool false],J,bL hw ⟨by omega,X.g⟩,Y,.tup (.cons Ex (.cons (.same rfl) .nil)),by unfold Oy;rw[hO];rfl,rfl⟩
       have tz:=R.n r q hq;have d5:=R.s r;rw[hq]at d5;obtain⟨aS,S⟩:=gV.1 d5.symm;have kf:=X.k r;rw[S]at kf;obtain⟨u,aa⟩:=gV.1 kf;refine G5 ?_;refine A (Nr (v:=q) (enc:=λq=>I.mp q) bI rL rfl R.m rfl hq) ?_
       refine A (TP Cr rfl) ?_;refine G ?_;refine Qh 6 _ ?_ rfl rfl rfl rfl rfl (Eh rfl) (λH=>?_) (λH=>?_) ?_
       rotate_left
       ·iterate 2 refine Gn H ?_
        refine On H (Nr (v:=u) (enc:=hV) bI Qo rfl X.o rfl aa) ?_;refine Gn H ?_
        refine Bh rfl rfl rfl (by rw[H];rfl) rfl rfl rfl rfl (vG u K U Z) ?_
        refine Gn H ?_;refine G ?_;refine⟨rfl,?_,?_⟩
        ·exact sb
        ·exact rfl
       ·cases H
       refine G ?_;refine Ab rfl ?_ ?_<;>intro h7
       ·refine G5 ?_
        have hH:jV k (g.take E) K B=none:=by
         unfold jV;rw[bz,S];simp only[aa]
         rw[if_neg (by show ¬sK u K=true;simpa using h7)]
        have e1:Yw k g g 0 s2=none:=by rw[al,ax,Yw,hH]
        have e2:Pb k [bX c.hyps,bX c.dummies] Q=none:=by rw[ak,aw,Pb,e1]
        have e3:Ow d d.frames 0 ([],[])=none:=by rw[af,aj,Ow,zJ ao,e2]
        have hO:Fa d=none:=Qt ac e3;refine G ?_
        exact⟨_,rfl,.tup [aD eH 3 [],.bool false],J,bL hw ⟨by omega,X.g⟩,Y,.tup (.cons Ex (.cons (.same rfl) .nil)),by unfold Oy;rw[hO];rfl,rfl⟩
       ·have ou:sK u K=true:=Z;refine G5 ?_;refine A (Ar0 rfl rfl z) ?_;refine G4 ?_;refine Bz (g.take E).length (λi6=>[(1,.pv [Af d.consts,Af d.vars,aD eF 8 d.frames]),(4,.mp (O J)),(5,.mp (O J+1)),(6,D (.ofNat k)),(11,aD eH 3 g),(14,sV r),(34,aD eF 8 d.frames),(35,D (.ofNat d.frames.length)),(36,D (.ofNat k)),(66,.agg [aD eH 3 (bX c.hyps),aD eH 3 (bX c.dummies)]),(67,D (.ofNat W)),(70,aD eH 3 g),(71,D (.ofNat g.length)),(72,D (.ofNat E)),(106,aD eH 3 (g.take E)),(107,D (.ofNat (g.take E).length)),(108,D (.ofNat i6))]) (λi6 J6=>Fi J6 q (sD aS ((g.take E).take i6))/\O J6=O U/\∀b,b≠q->J6.get b=U.get b) SL ⟨R.a r q aS hq S,rfl,λ_ _=>rfl⟩ ?_
        rintro i6 J6 tn ⟨bx,tv,ij⟩;refine G5 ?_;refine Ab rfl ?_ ?_<;>intro h8
        ·have m6:i6<(g.take E).length:=Z;obtain⟨a6,ar⟩:=Ar m6;have t8:=A4 ar;have dg:a6∈g:=kJ (bA ar);obtain⟨u0,u1,r7⟩:=m0 a6 dg;obtain⟨v6,r9⟩:=id bx;have lq:i6<g.length:=Z;refine G9 ?_;refine XS (l:=[]) trivial ?_;refine G2 ?_;refine V (Nr (v:=q) (enc:=λq=>I.mp q) bI rL rfl (R.m.of_get (ij _ z)) rfl hq) ?_
         refine G2 ?_
         refine V (A1 aJ zF rfl rfl (by grind:a6.text[1]? =some u1) (i:=1)) ?_
         refine G ?_
         refine DT (Gh (v:=true) bI Cr rfl r9 rfl rfl (λte k1 k2=>by first|exact I0 k1 k2|exact I1 k1 k2|exact I2 k1 k2|exact Jn k1 k2|exact H6 k1 k2 rfl)) ?_
         refine G5 ?_
         refine⟨m6,SL,by rw[Fw ar,Ze,Z2 r7];exact iH,Z,Z⟩
        ·have p8:(g.take E).length<=i6:=Z;rw[dG p8]at bx;refine G5 ?_
         refine⟨dy,SL,((Pi k K B).1,(Pi k K B).2.put r (sD aS (g.take E))),X.turn R hq Z bx ij,by rw[al,ax,Yw,jV,bz,S];simp only[aa];rw[if_pos (show kw (some u) K=true from ou)]⟩
     ·have jn:g.length<=E:=Z
      have l6:Yw k g g 0 s2=some B:=by rw[al,cv jn];rfl
      refine G5 ?_
      refine⟨bv,SL,B,ae,by rw[ak,aw,Pb,l6]⟩
    ·have ba:2<=W:=Z
     have l7:Pb k [bX c.hyps,bX c.dummies] Q=some s2:=by rw[ak,cv (show[bX c.hyps,bX c.dummies].length<=W from ba)];rfl
     refine G5 ?_
     refine⟨bc,SL,s2,d9,by rw[af,aj,Ow,zJ ao,l7]⟩
  ·have bj:d.frames.length<=k:=Z
   have hF:Ow d d.frames 0 ([],[])=some Q:=by rw[af,cv bj];rfl
   have l9:=jy ac Q hF;obtain⟨an,ap⟩:=id N.a;have tq:=N.n;refine Bo λs8=>?_
   refine G7 ?_;refine A (Cd (n:=O j) Cr rfl) ?_;refine G3 ?_;refine LV ?_;refine G2 ?_;refine Ci (λq:I×SM Bool×List Hp=>[(1,.pv [Af d.consts,Af d.vars,aD eF 8 d.frames]),(4,.mp (O J)),(5,.mp (O J+1)),(17,q.1),(18,.mp (O j))])
    (λq J8=>aW J8 (O j+1) eH 3 q.2.2 q.1/\Fi J8 (O j) q.2.1/\O j+1<=O J8/\(∀b,b<O j->J8.get b=j.get b)/\q.2.2.length<=d.vars.length/\W7 d.vars Q d.vars.length [] []=W7 d.vars Q (d.vars.length-q.2.2.length) q.2.1 q.2.2)
    (λq=>d.vars.length-q.2.2.length) (nS,[],[]) SL ⟨.nil,⟨0,by rw[a5,if_pos rfl];rfl⟩,Z,Z,bU _,rfl⟩ ?_
   rintro⟨vo,done,o⟩ J8 ⟨di,ey,mt,iw,ln,am⟩;simp only at di ey ln am;refine G4 ?_;refine A (Bf bF rfl di.lenA.1 di.lenA.2) ?_;refine G5 ?_;refine Ab rfl ?_ ?_<;>intro h3
   ·have sf:o.length<d.vars.length:=Z;refine fJ ?_;refine Bz d.vars.length (λa7=>[(1,.pv [Af d.consts,Af d.vars,aD eF 8 d.frames]),(4,.mp (O J)),(5,.mp (O J+1)),(17,vo),(18,.mp (O j)),(131,Af d.vars),(132,D (.ofNat d.vars.length)),(133,D (.ofNat a7))])
     (λa7 t=>aW t (O j+1) eH 3 o vo/\Fi t (O j) done/\O j+1<=O t/\(∀b,b<O j->t.get b=j.get b)/\d.vars.find? (mY Q.2 done)=(d.vars.drop a7).find? (mY Q.2 done)) SL ⟨di,ey,mt,iw,rfl⟩ ?_
    rintro a7 t se ⟨jr,m7,sh,bt,sc⟩;refine Bo λsu=>?_
    refine G5 ?_;refine Ab rfl ?_ ?_<;>intro h4
    ·have i9:a7<d.vars.length:=Z;obtain⟨w,gq⟩:=Ar i9;have lc:=A4 gq;obtain⟨u,aa⟩:=gV.1 (l9 w (bA gq));have jc:=N.k w;rw[aa]at jc;obtain⟨aS,S⟩:=gV.1 jc.symm;have m8:=ap.s w;rw[S]at m8;obtain⟨q,hq⟩:=gV.1 m8;have kr:=ap.a w q aS hq S;have p9:q<O j:=kr.lt s8;obtain⟨vq,s7⟩:=kr;have gn:t.get q=some (.map 9 (Cn bV aS) vq):=(bt q p9).trans s7
     iterate 13 refine G ?_
     refine A (De bI Cr rfl m7 rfl) ?_;refine G8 ?_;refine A (Nr (v:=q) (enc:=λq=>I.mp q) bI rL rfl (ap.m.of_get (bt _ z)) rfl hq) ?_
     refine A (JZ Cr rfl gn) ?_;refine G2 ?_;refine Ci (λa8:Bool×SM Bool=>[(1,.pv [Af d.consts,Af d.vars,aD eF 8 d.frames]),(4,.mp (O J)),(5,.mp (O J+1)),(17,vo),(18,.mp (O j)),(20,sV w),(21,.bool a8.1),(131,Af d.vars),(132,D (.ofNat d.vars.length)),(133,D (.ofNat a7)),(144,.it (O t))])
      (λa8 y=>(∃cx,y.get (O t)=some (.iter (some q) vq (Cn bV a8.2) cx))/\O y=O t+1/\(∀b,b<O t->y.get b=t.get b)/\mY Q.2 done w=(a8.1&&a8.2.all λp=>done.has p.1))
      (λa8=>a8.2.length) (!done.has w,aS) SL
      ⟨⟨none,Z⟩,Ao _ _,Z,by unfold mY;rw[S];rfl⟩ ?_
     rintro⟨P,left⟩ y ⟨⟨cx,j0⟩,si,ii,qb⟩;simp only at j0 qb;have m9:Fi y (O j) done:=m7.of_get (ii _ z);have js:aW y (O j+1) eH 3 o vo:=jr.mono z λa tl _ _ h9 _=>ii a h9
     refine G ?_
     refine KQ rfl rfl rfl j0 (by show(match y.get q with|some (.map _ _ v)=>Nat.beq v vq|_=>false)=true;rw[ii q z,gn];exact cb _) (λh0=>?_) (λp hp=>?_)
     ·have l5:left=[]:=by cases left with
       |nil=>rfl
       |cons x l=>cases h0
      subst l5;have hr:mY Q.2 done w=P:=Z;have io:Fi (y.set (O t) (.iter (some q) vq [] none)) (O j) done:=m9.set z;have gu:aW (y.set (O t) (.iter (some q) vq [] none)) (O j+1) eH 3 o vo:=js.mono Z Z;refine G3 ?_;refine Ab rfl Z (λh5=>?_)
      refine G5 ?_;refine Ab rfl ?_ ?_<;>intro h6
      ·have o5:P=true:=h6;have ay:d.vars.find? (mY Q.2 done)=some w:=Z;obtain⟨vd,ri⟩:=id io;have jt:aW ((y.set (O t) (.iter (some q) vq [] none)).set (O j) (.map 9 (Cn bV (done.put w true)) (vd+1))) (O j+1) eH 3 o vo:=gu.mono Z Z;have nb:O j+1<=O ((y.set (O t) (.iter (some q) vq [] none)).set (O j) (.map 9 (Cn bV (done.put w true)) (vd+1))):=Z
       have bn:(o.length+[u].length)*(48+1)<=az:=by simp[az];omega
       obtain⟨C,U1,l8,no,au,_⟩:=jt.app (by':=48) Qq nb [u] bn
       have bi:∀b,b<O j->((y.set (O t) (.iter (some q) vq [] none)).set (O j) (.map 9 (Cn bV (done.put w true)) (vd+1))).get b=j.get b:=Z;refine G4 ?_;refine A (Gh (v:=true) bI Cr rfl ri rfl rfl (λte k1 k2=>I0 k1 k2)) ?_
       refine G6 ?_;refine A (Nr (v:=u) (enc:=hV) bI Qo rfl (N.o.of_get (bi _ z)) rfl aa) ?_;refine Cx (Ai aJ bM rfl rfl rfl) (Dv (len:=1)) rfl rfl (A (Av aJ rfl bF rfl rfl rfl (new:=eH u) rfl l8) ?_);refine G3 ?_;refine⟨(C,done.put w true,o++[u]),Z,SL,no,⟨vd+1,?_⟩,bD nb au.1,λb hb=>(au.2 b z).trans (bi b hb),Z,?_⟩
       ·rw[au.2 (O j) z,aU,if_pos rfl]
       ·rw[am]
        show _=W7 d.vars Q (d.vars.length-(o++[u]).length) (done.put w true) (o++[u])
        rw[show d.vars.length-o.length=(d.vars.length-(o++[u]).length)+1 by rw[gW];simp;omega,W7,ay]
        grind
      ·have o5:P=false:=h6;refine G5 ?_;refine⟨i9,SL,gu,io,Z,Z,?_⟩
       grind
     ·obtain⟨pq,ns,rfl⟩:=Tc hp;obtain⟨_,_,tw⟩:=Rp ns;have io:Fi (y.set (O t) (.iter (some q) vq (Cn bV pq.2) (some (kS pq.1.1,bV pq.1.2)))) (O j) done:=m9.set z;refine G3 ?_;refine Ab rfl (λh5=>?_) Z
      refine G4 ?_
      refine A (PC rfl (by rw[aU,if_pos rfl]) (by rw[aU,if_neg z,ii q z];exact gn)) ?_
      refine G6 ?_;refine Hq 3 _ ?_ rfl rfl rfl rfl rfl (Eh rfl) (λH=>?_) (λH=>?_) ?_
      rotate_left
      ·refine Bi rfl rfl rfl rfl Z bT rfl rfl Oq ?_;refine Bi rfl rfl rfl rfl Z bT rfl rfl Oq ?_;refine Bi rfl rfl rfl rfl Z bT rfl rfl (De (s:=pq.1.1) bI Cr rfl io rfl) ?_;refine G ?_;refine⟨rfl,?_,?_⟩
       ·exact sb
       ·exact rfl
      ·refine Co rfl rfl rfl rfl Z rfl ?_;refine Co rfl rfl rfl rfl Z rfl ?_;refine Co rfl rfl rfl rfl Z rfl ?_;refine G ?_;exact⟨rfl,sb⟩
      refine G2 ?_
      refine⟨(P&&done.has pq.1.1,pq.2),Z,SL,⟨_,by rw[aU,if_pos rfl]⟩,Z,Z,?_⟩
      grind
    ·have lj:d.vars.length<=a7:=Z;have ay:d.vars.find? (mY Q.2 done)=none:=Z
     have hO:Fa d=none:=by
      unfold Fa;rw[if_neg ac,hF]
      show W7 d.vars Q d.vars.length [] []=none
      rw[am,show d.vars.length-o.length=(d.vars.length-o.length-1)+1 by omega,W7,ay]
     refine G7 ?_
     exact⟨_,rfl,.tup [aD eH 3 [],.bool false],J,bL hw ⟨by omega,λb hb=>(bt b z).trans (N.g b hb)⟩,Y,.tup (.cons Ex (.cons (.same rfl) .nil)),by unfold Oy;rw[hO];rfl,rfl⟩
   ·have sd:d.vars.length<=o.length:=Z
    have hO:Fa d=some o:=by
     unfold Fa;rw[if_neg ac,hF]
     show W7 d.vars Q d.vars.length [] []=some o
     rw[am,show d.vars.length-o.length=0 by omega];rfl
    refine G8 ?_
    exact⟨_,rfl,.tup [aD eH 3 o,.bool true],J,bL hw ⟨by omega,λb hb=>(iw b z).trans (N.g b hb)⟩,Y,.tup (.cons (di.fz Qq (λa ha=>hw.none z) (A2 Mr _)) (.cons (.same rfl) .nil)),by unfold Oy;rw[hO];rfl,rfl⟩
end Go.AM

