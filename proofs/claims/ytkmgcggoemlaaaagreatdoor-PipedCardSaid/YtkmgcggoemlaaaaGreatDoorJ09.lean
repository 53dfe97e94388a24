/-
  Part 9 of the common ground of this seat: what single parts show stands ahead of each.
  No condition.
-/
set_option linter.unusedSimpArgs false
set_option linter.unusedVariables false
set_option linter.constructorNameAsVariable false
section
/- The model: sums, a flash and an applier as plain data, and what each call does to them. -/
namespace Go.Fwm
def poly:Nat:=3988292384
def rnd (c:Nat):Nat:=(c >>> 1) ^^^ ((c &&& 1)*poly)
def rnds:Nat->Nat->Nat
 | 0,c=>c
 | n+1,c=>rnd (rnds n c)
def crcB (c:Nat)(x:UInt8):Nat:=rnds 8 (c ^^^ x.toNat)
def crcL (c:Nat)(l:List UInt8):Nat:=l.foldl crcB c
def inv32 (c:Nat):Nat:=4294967295-c
def sumAdd (s:Nat)(l:List UInt8):Nat:=inv32 (crcL (inv32 s) l)
theorem rnd_lt {c:Nat}(h:c<4294967296):rnd c<4294967296:=by
 unfold rnd;refine Nat.xor_lt_two_pow (n:=32) ?_ ?_
 ·rw[Nat.shiftRight_eq_div_pow];omega
 ·have h1:c &&& 1=c%2:=Nat.and_two_pow_sub_one_eq_mod c 1;rw[h1];unfold poly;have:c%2=0\/c%2=1:=by omega
  rcases this with h2|h2
  ·rw[h2,Nat.zero_mul];exact Nat.two_pow_pos 32
  ·rw[h2,Nat.one_mul];exact of_decide_eq_true rfl
theorem rnds_lt {c:Nat}(h:c<4294967296)(n:Nat):rnds n c<4294967296:=by
 induction n with
 | zero=>exact h
 | succ n ih=>exact rnd_lt ih
theorem crcB_lt {c:Nat}(h:c<4294967296)(x:UInt8):crcB c x<4294967296:=by
 unfold crcB;refine rnds_lt ?_ 8;have hx:=x.toNat_lt;refine Nat.xor_lt_two_pow (n:=32) ?_ ?_
 ·omega
 ·omega
theorem crcL_lt {c:Nat}(h:c<4294967296)(l:List UInt8):crcL c l<4294967296:=by
 induction l generalizing c with
 | nil=>exact h
 | cons x l ih=>exact ih (crcB_lt h x)
theorem inv32_lt (c:Nat):inv32 c<4294967296:=by unfold inv32;omega
theorem sumAdd_lt (s:Nat)(l:List UInt8):sumAdd s l<4294967296:=inv32_lt _
theorem inv32_inv {c:Nat}(h:c<4294967296):inv32 (inv32 c)=c:=by unfold inv32;omega
theorem crcL_app (c:Nat)(a b:List UInt8):crcL c (a++b)=crcL (crcL c a) b:=List.foldl_append ..
theorem sumAdd_app (s:Nat)(a b:List UInt8):sumAdd (sumAdd s a) b=sumAdd s (a++b):=by
 unfold sumAdd;rw[inv32_inv (crcL_lt (inv32_lt s) a),crcL_app]
structure Fl where
 old:List UInt8
 fresh:List UInt8
 events:List (Nat × Nat)
 length:Nat
 committed:Bool
 wait:Int
 torn:UInt8
 reads:Nat
 longest:Nat
def Fl.pages (f:Fl):Nat:=f.fresh.length/64
def Fl.cutB (f:Fl):Bool:=decide (f.wait=0)
def Fl.cut (f:Fl):Fl:=if 0<f.wait then { f with wait:=f.wait-1 } else f
def setFrom (l:List UInt8)(p:Nat)(g:Nat->UInt8->UInt8):Nat->List UInt8
 | 0=>l
 | n+1=>(setFrom l p g n).modify (p*64+n) (g n)
theorem setFrom_length (l:List UInt8)(p:Nat)(g:Nat->UInt8->UInt8)(n:Nat):(setFrom l p g n).length=l.length:=by
 induction n with
 | zero=>rfl
 | succ n ih=>simp[setFrom,ih]
structure FlR where
 err:Option Nat
 f:Fl
def Fl.tornN (f:Fl)(n:Nat):Nat:=if f.cutB then min (f.torn.toNat%64) n else n
def Fl.erase (f:Fl)(p:Nat):FlR:=
 if p<f.pages then
  let f1:={ f with events:=f.events++[(0,p)] }
  {err:=if f.cutB then some 7 else none,f:={ f1.cut with fresh:=setFrom f.fresh p (λ_ _=>255) (f.tornN 64) } }
 else { err:=some 8,f }
def Fl.program (f:Fl)(p:Nat)(b:List UInt8):FlR:=
 if p<f.pages then
  let f1:={ f with events:=f.events++[(1,p)] }
  {err:=if f.cutB then some 7 else none,f:={ f1.cut with fresh:=setFrom f.fresh p (λi x=>x &&& b.getD i 0) (f.tornN b.length) } }
 else { err:=some 8,f }
def Fl.commit (f:Fl)(n:Nat):FlR:=
 if f.fresh.length<n then { err:=some 4,f }
 else if f.cutB then { err:=some 7,f:=f.cut }
 else { err:=none,f:={ f.cut with events:=f.events++[(2,n)],length:=n,committed:=true } }
structure RdR where
 err:Option Nat
 buf:List UInt8
 f:Fl
def Fl.read (f:Fl)(at_ n:Nat):RdR:=
 if f.cutB then { err:=some 7,buf:=[],f:=f.cut }
 else { err:=none,buf:=(f.old.drop at_).take n,f:={ f.cut with reads:=f.reads+1,longest:=max f.longest n } }
inductive St
 | oldSize | oldSum | newSize | step | counted | own | place | beside | fin | over
 deriving DecidableEq
inductive Flt
 | none
 | errno (n:Nat)
 | wrapped (n:Nat)
 deriving DecidableEq
structure Ap where
 st:St
 at_:Nat
 sum:Nat
 fault:Flt
 value:Nat
 digits:Int
 size:Nat
 length:Nat
 made:Nat
 count:Nat
 op:Nat
 page:List UInt8
 buf:List UInt8
structure R where
 err:Option Nat
 st:St
 a:Ap
 f:Fl
def Ap.addSum (a:Ap)(b:UInt8):Ap:={ a with sum:=sumAdd a.sum [b] }
structure NumR where
 whole:Bool
 err:Option Nat
 a:Ap
def Ap.number (a:Ap)(b:UInt8):NumR:=
 let a:Ap:={ a.addSum b with digits:=a.digits+1 }
 if a.digits=1/\128<=b.toNat then { whole:=false,err:=none,a:={ a with value:=b.toNat &&& 127 } }
 else
  let v:=if a.digits=1 then b.toNat else a.value ||| (b.toNat*128)
  let a:Ap:={ a with value:=v }
  if (a.digits=2/\b.toNat=0)\/4096<v then { whole:=false,err:=some 2,a }
  else { whole:=true,err:=none,a:={ a with digits:=0 } }
structure FixR where
 whole:Bool
 a:Ap
def Ap.fixed (a:Ap)(b:UInt8):FixR:=
 let a:Ap:={ a with value:=(a.value*256)%4294967296 ||| b.toNat,digits:=a.digits+1 }
 if a.digits<4 then { whole:=false,a } else { whole:=true,a:={ a with digits:=0 } }
structure AR where
 err:Option Nat
 a:Ap
 f:Fl
def Ap.read (a:Ap)(f:Fl)(at_ n:Nat):AR:=
 let r:=f.read at_ (min n 64)
 {err:=match r.err with
   | some e=>some e
   | none=>if r.buf.length=0 then some 2 else none
  a:={ a with buf:=r.buf },f:=r.f }
def Ap.write (a:Ap)(f:Fl)(p n:Nat):AR:=
 let r:=f.erase p
 match r.err with
 | some e=>{ err:=some e,a,f:=r.f }
 | none=>
  let q:=r.f.program p (a.page.take n)
  {err:=q.err,a:={ a with page:=List.replicate 64 0 },f:=q.f }
def Ap.put (a:Ap)(f:Fl)(b:UInt8):AR:=
 let a:Ap:={ a with page:=a.page.set (a.made%64) b,made:=a.made+1 }
 if a.made%64=0 then a.write f (a.made/64-1) 64 else { err:=none,a,f }
def Ap.flush (a:Ap)(f:Fl):AR:=
 if 0<a.made%64 then a.write f (a.made/64) (a.made%64) else { err:=none,a,f }
def Ap.puts (a:Ap)(f:Fl):List UInt8->AR
 | []=>{ err:=none,a,f }
 | b :: l=>
  let r:=a.put f b
  match r.err with
  | some e=>{ err:=some e,a:=r.a,f:=r.f }
  | none=>r.a.puts r.f l
def Ap.copyL (a:Ap)(f:Fl)(at_:Nat):(fuel n:Nat)->AR
 | 0,_=>{ err:=none,a,f }
 | k+1,n=>
  if n=0 then { err:=none,a,f }
  else
   let r:=a.read f at_ n
   match r.err with
   | some e=>{ err:=some e,a:=r.a,f:=r.f }
   | none=>
    let q:=r.a.puts r.f r.a.buf
    match q.err with
    | some e=>{ err:=some e,a:=q.a,f:=q.f }
    | none=>q.a.copyL q.f (at_+r.a.buf.length) k (n-r.a.buf.length)
def Ap.copy (a:Ap)(f:Fl)(at_ n:Nat):AR:=
 if a.size<at_+n then { err:=some 2,a,f } else a.copyL f at_ n n
structure SumR where
 err:Option Nat
 got:Nat
 a:Ap
 f:Fl
def Ap.sumOld (a:Ap)(f:Fl)(got:Nat):(fuel at_:Nat)->SumR
 | 0,_=>{ err:=none,got,a,f }
 | k+1,at_=>
  if a.size<=at_ then { err:=none,got,a,f }
  else
   let r:=a.read f at_ (a.size-at_)
   match r.err with
   | some e=>{ err:=some e,got,a:=r.a,f:=r.f }
   | none=>r.a.sumOld r.f (sumAdd got r.a.buf) k (at_+r.a.buf.length)
def Ap.more (a:Ap)(f:Fl):R:=
 if a.made<a.length then { err:=none,st:=.step,a,f }
 else
  let r:=a.flush f
  {err:=r.err,st:=.fin,a:=r.a,f:=r.f }
def Ap.stepB (a:Ap)(f:Fl)(b:UInt8):R:=
 match a.st with
 | .oldSize=>
  let r:=a.number b
  if r.whole then { err:=none,st:=.oldSum,a:={ r.a with size:=r.a.value },f } else { err:=r.err,st:=.oldSize,a:=r.a,f }
 | .oldSum=>
  let r:=(a.addSum b).fixed b
  if r.whole then
   if r.a.size≠f.old.length then { err:=some 3,st:=.oldSum,a:=r.a,f }
   else
    let q:=r.a.sumOld f 0 (r.a.size+1) 0
    match q.err with
    | some e=>{ err:=some e,st:=.oldSum,a:=q.a,f:=q.f }
    | none=>if q.got≠r.a.value then { err:=some 3,st:=.oldSum,a:=q.a,f:=q.f } else { err:=none,st:=.newSize,a:=q.a,f:=q.f }
  else { err:=none,st:=.oldSum,a:=r.a,f }
 | .newSize=>
  let r:=a.number b
  if r.whole then
   let a:Ap:={ r.a with length:=r.a.value }
   if f.pages*64<a.length then { err:=some 4,st:=.newSize,a,f } else a.more f
  else { err:=r.err,st:=.newSize,a:=r.a,f }
 | .step=>
  let a:Ap:={ a.addSum b with op:=b.toNat }
  if 2<b.toNat then { err:=some 2,st:=.step,a,f } else { err:=none,st:=.counted,a,f }
 | .counted=>
  let r:=a.number b
  if r.whole then
   let a:Ap:={ r.a with count:=r.a.value }
   if (a.length:Int)-a.made<a.count\/(a.op≠2/\a.count=0) then { err:=some 2,st:=.counted,a,f }
   else if a.op=0 then { err:=none,st:=.own,a,f }
   else if a.op=1 then { err:=none,st:=.place,a,f }
   else
    let q:=a.copy f a.made a.count
    {err:=q.err,st:=.beside,a:=q.a,f:=q.f }
  else { err:=r.err,st:=.counted,a:=r.a,f }
 | .own=>
  let r:=(a.addSum b).put f b
  match r.err with
  | some e=>{ err:=some e,st:=.own,a:=r.a,f:=r.f }
  | none=>
   let a:Ap:={ r.a with count:=r.a.count-1 }
   if 0<a.count then { err:=none,st:=.own,a,f:=r.f } else a.more r.f
 | .place=>
  let r:=a.number b
  if r.whole then
   let q:=r.a.copy f r.a.value r.a.count
   match q.err with
   | some e=>{ err:=some e,st:=.place,a:=q.a,f:=q.f }
   | none=>q.a.more q.f
  else { err:=r.err,st:=.place,a:=r.a,f }
 | .beside=>
  let a:=a.addSum b
  if a.made=a.length then { err:=some 2,st:=.beside,a,f }
  else
   let r:=a.put f b
   match r.err with
   | some e=>{ err:=some e,st:=.beside,a:=r.a,f:=r.f }
   | none=>r.a.more r.f
 | .fin=>
  let r:=a.fixed b
  if r.whole then
   if r.a.value≠r.a.sum then { err:=some 2,st:=.fin,a:=r.a,f } else { err:=none,st:=.over,a:={ r.a with digits:=-1 },f }
  else { err:=none,st:=.fin,a:=r.a,f }
 | .over=>{ err:=some 6,st:=.over,a,f }
structure AF where
 a:Ap
 f:Fl
def AF.byte (x:AF)(b:UInt8):AF:=
 if x.a.fault≠.none then x
 else
  let r:=x.a.stepB x.f b
  match r.err with
  | some e=>{ a:={ r.a with fault:=if e=7 then .errno 7 else .wrapped e },f:=r.f }
  | none=>{ a:={ r.a with st:=r.st,at_:=r.a.at_+1 },f:=r.f }
def AF.feed (x:AF)(l:List UInt8):AF:=l.foldl AF.byte x
structure FinR where
 fault:Flt
 x:AF
def AF.finish (x:AF):FinR:=
 if x.a.fault≠.none then { fault:=x.a.fault,x }
 else if x.a.digits≠-1 then { fault:=.errno 5,x:={ x with a:={ x.a with fault:=.errno 5 } } }
 else
  let r:=x.f.commit x.a.length
  match r.err with
  | some e=>{ fault:=.errno e,x:={ a:={ x.a with fault:=.errno e },f:=r.f } }
  | none=>{ fault:=.none,x:={ a:={ x.a with fault:=.errno 9 },f:=r.f } }
def Flt.num:Flt->Nat
 | .none=>0
 | .errno n=>n
 | .wrapped n=>n
def Ap.init:Ap:={ st:=.oldSize,at_:=0,sum:=0,fault:=.none,value:=0,digits:=0,size:=0,length:=0,made:=0,count:=0,op:=0,page:=List.replicate 64 0,buf:=[] }
def newPages (old:List UInt8)(pages:Int):Nat:=max ((old.length+63)/64) (min pages 64).toNat
def Fl.init (old:List UInt8)(pages:Int):Fl:=
 {old,fresh:=(List.range (newPages old pages*64)).map λi=>UInt8.ofNat (i*7+90),events:=[],length:=0,committed:=false,wait:=-1,torn:=0,reads:=0,longest:=0 }
/- The model: what calls leave as it was. -/
structure Keep (a:Ap) (f:Fl) (a':Ap) (f':Fl) (k r:Nat):Prop where
 size:a'.size=a.size
 length:a'.length=a.length
 count:a'.count=a.count
 op:a'.op=a.op
 digits:a'.digits=a.digits
 sum:a'.sum=a.sum
 fault:a'.fault=a.fault
 at_:a'.at_=a.at_
 st:a'.st=a.st
 value:a'.value=a.value
 old:f'.old=f.old
 fresh:f'.fresh.length=f.fresh.length
 events:f'.events.length<=f.events.length+k
 reads:f'.reads<=f.reads+r
theorem Keep.refl (a:Ap)(f:Fl):Keep a f a f 0 0:=⟨rfl,rfl,rfl,rfl,rfl,rfl,rfl,rfl,rfl,rfl,rfl,rfl,Nat.le_refl _,Nat.le_refl _⟩
theorem Keep.trans {a a' a'':Ap}{f f' f'':Fl}{k r k' r':Nat}(h:Keep a f a' f' k r)(q:Keep a' f' a'' f'' k' r'):Keep a f a'' f'' (k+k') (r+r'):=
 ⟨q.size.trans h.size,q.length.trans h.length,q.count.trans h.count,q.op.trans h.op,q.digits.trans h.digits,q.sum.trans h.sum,q.fault.trans h.fault,q.at_.trans h.at_,q.st.trans h.st,q.value.trans h.value,q.old.trans h.old,q.fresh.trans h.fresh,by have:=h.events;have:=q.events;omega,by have:=h.reads;have:=q.reads;omega⟩
theorem Keep.mono {a a':Ap}{f f':Fl}{k r k' r':Nat}(h:Keep a f a' f' k r)(hk:k<=k')(hr:r<=r'):Keep a f a' f' k' r':=
 {h with events:=by have:=h.events;omega,reads:=by have:=h.reads;omega }
theorem Fl.cut_keep (f:Fl):f.cut.old=f.old/\f.cut.fresh=f.fresh/\f.cut.events=f.events/\f.cut.reads=f.reads/\f.cut.torn=f.torn/\f.cut.longest=f.longest/\f.cut.length=f.length/\f.cut.committed=f.committed:=by
 unfold Fl.cut;split<;>exact⟨rfl,rfl,rfl,rfl,rfl,rfl,rfl,rfl⟩
theorem Fl.erase_keep (f:Fl)(p:Nat):(f.erase p).f.old=f.old/\(f.erase p).f.fresh.length=f.fresh.length/\(f.erase p).f.events.length<=f.events.length+1/\(f.erase p).f.reads=f.reads:=by
 unfold Fl.erase;split
 ·obtain⟨h1,h2,h3,h4,_⟩:=Fl.cut_keep { f with events:=f.events++[(0,p)] };refine⟨h1,setFrom_length _ _ _ _,?_,h4⟩;show ({ f with events:=f.events++[(0,p)] }:Fl).cut.events.length<=_;rw[h3];simp
 ·exact⟨rfl,rfl,by simp,rfl⟩
theorem Fl.program_keep (f:Fl)(p:Nat)(b:List UInt8):(f.program p b).f.old=f.old/\(f.program p b).f.fresh.length=f.fresh.length/\(f.program p b).f.events.length<=f.events.length+1/\(f.program p b).f.reads=f.reads:=by
 unfold Fl.program;split
 ·obtain⟨h1,h2,h3,h4,_⟩:=Fl.cut_keep { f with events:=f.events++[(1,p)] };refine⟨h1,setFrom_length _ _ _ _,?_,h4⟩;show ({ f with events:=f.events++[(1,p)] }:Fl).cut.events.length<=_;rw[h3];simp
 ·exact⟨rfl,rfl,by simp,rfl⟩
theorem Fl.read_keep (f:Fl)(i n:Nat):(f.read i n).f.old=f.old/\(f.read i n).f.fresh=f.fresh/\(f.read i n).f.events=f.events/\(f.read i n).f.reads<=f.reads+1:=by
 obtain⟨h1,h2,h3,h4,_⟩:=Fl.cut_keep f;unfold Fl.read;split
 ·exact⟨h1,h2,h3,by rw[h4];omega⟩
 ·exact⟨h1,h2,h3,Nat.le_refl _⟩
theorem Ap.write_keep (a:Ap)(f:Fl)(p n:Nat):Keep a f (a.write f p n).a (a.write f p n).f 2 0/\(a.write f p n).a.made=a.made/\(a.write f p n).a.buf=a.buf:=by
 obtain⟨h1,h2,h3,h4⟩:=Fl.erase_keep f p;unfold Ap.write;cases he:(f.erase p).err with
 | some e=>
  simp only[he];exact⟨⟨rfl,rfl,rfl,rfl,rfl,rfl,rfl,rfl,rfl,rfl,h1,h2,by omega,by omega⟩,by trivial,by trivial⟩
 | none=>
  simp only[he];obtain⟨g1,g2,g3,g4⟩:=Fl.program_keep (f.erase p).f p (a.page.take n);exact⟨⟨rfl,rfl,rfl,rfl,rfl,rfl,rfl,rfl,rfl,rfl,g1.trans h1,g2.trans h2,by show ((f.erase p).f.program p _).f.events.length<=_;omega,by show ((f.erase p).f.program p _).f.reads<=_;omega⟩,by trivial,by trivial⟩
theorem Ap.put_keep (a:Ap)(f:Fl)(b:UInt8):Keep a f (a.put f b).a (a.put f b).f 2 0/\(a.put f b).a.made=a.made+1/\(a.put f b).a.buf=a.buf:=by
 unfold Ap.put;simp only;split
 ·obtain⟨h1,h2,h3⟩:=Ap.write_keep { a with page:=a.page.set (a.made%64) b,made:=a.made+1 } f ((a.made+1)/64-1) 64;exact⟨{ h1 with },h2,h3⟩
 ·exact⟨{ (Keep.refl a f).mono (Nat.zero_le 2) (Nat.le_refl 0) with },rfl,rfl⟩
theorem Ap.puts_keep (l:List UInt8):∀(a:Ap) (f:Fl),Keep a f (a.puts f l).a (a.puts f l).f (2*l.length) 0/\(a.puts f l).a.made<=a.made+l.length/\(a.puts f l).a.buf=a.buf/\((a.puts f l).err=none->(a.puts f l).a.made=a.made+l.length):=by
 induction l with
 | nil=>intro a f;exact⟨Keep.refl a f,Nat.le_refl _,rfl,λ_=>rfl⟩
 | cons b l ih=>
  intro a f;obtain⟨h1,h2,h3⟩:=Ap.put_keep a f b;unfold Ap.puts;cases he:(a.put f b).err with
  | some e=>
   simp only[he];exact⟨h1.mono (by simp;omega) (Nat.le_refl _),by simp;omega,h3,λh=>by cases h⟩
  | none=>
   simp only[he];obtain⟨g1,g2,g3,g4⟩:=ih (a.put f b).a (a.put f b).f;exact⟨(h1.trans g1).mono (by simp;omega) (Nat.le_refl _),by simp;omega,g3.trans h3,λh=>by have:=g4 h;simp;omega⟩
theorem Ap.read_keep (a:Ap)(f:Fl)(i n:Nat):Keep a f (a.read f i n).a (a.read f i n).f 0 1/\(a.read f i n).a.made=a.made/\((a.read f i n).err=none->(a.read f i n).a.buf=(f.old.drop i).take (min n 64)/\0<(a.read f i n).a.buf.length):=by
 obtain⟨h1,h2,h3,h4⟩:=Fl.read_keep f i (min n 64);unfold Ap.read;refine⟨⟨rfl,rfl,rfl,rfl,rfl,rfl,rfl,rfl,rfl,rfl,h1,by rw[h2],by rw[h3];omega,h4⟩,rfl,λh=>?_⟩;simp only at h ⊢;cases he:(f.read i (min n 64)).err with
 | some e=>rw[he] at h;cases h
 | none=>
  rw[he] at h;simp only at h;refine⟨?_,?_⟩
  ·unfold Fl.read at he ⊢;split
   ·rename_i hc;rw[if_pos hc] at he;cases he
   ·rfl
  ·split at h
   ·cases h
   ·omega
/- The model: what number leaves as it was. -/
structure NumKeep (a a':Ap):Prop where
 size:a'.size=a.size
 length:a'.length=a.length
 count:a'.count=a.count
 op:a'.op=a.op
 fault:a'.fault=a.fault
 at_:a'.at_=a.at_
 st:a'.st=a.st
 made:a'.made=a.made
 page:a'.page=a.page
 buf:a'.buf=a.buf
theorem Ap.number_keep (a:Ap)(b:UInt8):NumKeep a (a.number b).a/\((a.number b).whole=true->(a.number b).err=none/\(a.number b).a.value<=4096/\(a.number b).a.digits=0)/\
  ((a.number b).whole=false->(a.number b).err=none->(a.number b).a.digits=a.digits+1/\a.digits=0)/\(a.number b).a.sum=sumAdd a.sum [b]:=by
 have e0:(a.addSum b).size=a.size:=rfl;unfold Ap.number;simp only;by_cases h:a.digits+1=1/\128<=b.toNat
 ·rw[if_pos h];exact⟨⟨rfl,rfl,rfl,rfl,rfl,rfl,rfl,rfl,rfl,rfl⟩,λh=>(by cases h),λ_ _=>⟨rfl,by have:=h.1;omega⟩,rfl⟩
 ·rw[if_neg h];generalize (if a.digits+1=1 then b.toNat else (a.addSum b).value ||| b.toNat*128)=v;by_cases h2:a.digits+1=2/\b.toNat=0\/4096<v
  ·rw[if_pos h2];exact⟨⟨rfl,rfl,rfl,rfl,rfl,rfl,rfl,rfl,rfl,rfl⟩,λh=>(by cases h),λ_ h=>(by cases h),rfl⟩
  ·rw[if_neg h2];exact⟨⟨rfl,rfl,rfl,rfl,rfl,rfl,rfl,rfl,rfl,rfl⟩,λ_=>⟨rfl,by show v<=4096;omega,rfl⟩,λh=>(by cases h),rfl⟩
theorem Ap.fixed_keep (a:Ap)(b:UInt8):NumKeep a (a.fixed b).a/\((a.fixed b).whole=true->(a.fixed b).a.digits=0/\3<=a.digits)/\((a.fixed b).whole=false->(a.fixed b).a.digits=a.digits+1/\a.digits<3)/\(a.fixed b).a.sum=a.sum:=by
 unfold Ap.fixed;simp only;split
 ·exact⟨⟨rfl,rfl,rfl,rfl,rfl,rfl,rfl,rfl,rfl,rfl⟩,λh=>(by cases h),λ_=>⟨rfl,by omega⟩,rfl⟩
 ·exact⟨⟨rfl,rfl,rfl,rfl,rfl,rfl,rfl,rfl,rfl,rfl⟩,λ_=>⟨rfl,by omega⟩,λh=>(by cases h),rfl⟩
theorem Ap.copyL_keep:∀(k n:Nat) (a:Ap) (f:Fl) (i:Nat),Keep a f (a.copyL f i k n).a (a.copyL f i k n).f (2*n) n/\(a.copyL f i k n).a.made<=a.made+n/\(n<=k->(a.copyL f i k n).err=none->(a.copyL f i k n).a.made=a.made+n)
 | 0,n,a,f,i=>by
  unfold Ap.copyL;exact⟨(Keep.refl a f).mono (Nat.zero_le _) (Nat.zero_le _),Nat.le_add_right _ _,λh _=>by show a.made=a.made+n;omega⟩
 | k+1,n,a,f,i=>by
  unfold Ap.copyL;by_cases hn:n=0
  ·rw[if_pos hn];exact⟨(Keep.refl a f).mono (Nat.zero_le _) (Nat.zero_le _),Nat.le_add_right _ _,λh _=>by subst hn;rfl⟩
  ·rw[if_neg hn];obtain⟨h1,h2,h3⟩:=Ap.read_keep a f i n;simp only;cases he:(a.read f i n).err with
   | some e=>
    simp only;exact⟨h1.mono (Nat.zero_le _) (by omega),by show (a.read f i n).a.made<=_;omega,λ_ h=>by cases h⟩
   | none=>
    simp only;obtain⟨h4,h5⟩:=h3 he;have hL:(a.read f i n).a.buf.length<=n:=by rw[h4];simp;omega
    obtain⟨g1,g2,g3,g4⟩:=Ap.puts_keep (a.read f i n).a.buf (a.read f i n).a (a.read f i n).f;cases hp:((a.read f i n).a.puts (a.read f i n).f (a.read f i n).a.buf).err with
    | some e=>
     simp only;exact⟨(h1.trans g1).mono (by omega) (by omega),by show ((a.read f i n).a.puts (a.read f i n).f (a.read f i n).a.buf).a.made<=_;omega,λ_ h=>by cases h⟩
    | none=>
     simp only;obtain⟨q1,q2,q3⟩:=Ap.copyL_keep k (n-(a.read f i n).a.buf.length) ((a.read f i n).a.puts (a.read f i n).f (a.read f i n).a.buf).a ((a.read f i n).a.puts (a.read f i n).f (a.read f i n).a.buf).f (i+(a.read f i n).a.buf.length);exact⟨((h1.trans g1).trans q1).mono (by omega) (by omega),by omega,λhk h=>by
      have:=q3 (by omega) h;have:=g4 hp;omega⟩
theorem Ap.copy_keep (a:Ap)(f:Fl)(i n:Nat):Keep a f (a.copy f i n).a (a.copy f i n).f (2*n) n/\(a.copy f i n).a.made<=a.made+n/\((a.copy f i n).err=none->(a.copy f i n).a.made=a.made+n):=by
 unfold Ap.copy;split
 ·exact⟨(Keep.refl a f).mono (Nat.zero_le _) (Nat.zero_le _),Nat.le_add_right _ _,λh=>by cases h⟩
 ·obtain⟨h1,h2,h3⟩:=Ap.copyL_keep n n a f i;exact⟨h1,h2,h3 (Nat.le_refl _)⟩
/- The model: what is written lies there; which errors come. -/
def evs (j:Nat):List (Nat × Nat):=(List.range j).map λi=>(i%2,i/2)
theorem evs_succ (j:Nat):evs (j+1)=evs j++[(j%2,j/2)]:=by simp[evs,List.range_succ]
theorem setFrom_get (l:List UInt8)(p:Nat)(g:Nat->UInt8->UInt8)(n i:Nat):(setFrom l p g n)[i]? = if p*64<=i/\i<p*64+n then (l[i]?).map (g (i-p*64)) else l[i]?:=by
 induction n with
 | zero=>rw[if_neg (by omega)];rfl
 | succ n ih=>
  show ((setFrom l p g n).modify (p*64+n) (g n))[i]? = _;rw[List.getElem?_modify,ih];by_cases h:p*64+n=i
  ·subst h;rw[if_neg (by omega),if_pos (by omega)];simp
  ·by_cases h2:p*64<=i/\i<p*64+n
   ·rw[if_pos h2,if_pos (by omega)];simp[h]
   ·rw[if_neg h2,if_neg (by omega)];simp[h]
structure FI (f0:Fl) (j:Nat) (f:Fl):Prop where
 old:f.old=f0.old
 fresh:f.fresh.length=f0.fresh.length
 comm:f.committed=f0.committed
 len:f.length=f0.length
 torn:f.torn=f0.torn
 ev:f.events=f0.events++evs j
 longest:f.longest<=max f0.longest 64
 wait:(f0.wait<0->f.wait=f0.wait)/\(0<=f0.wait->0<=f.wait/\f.wait<=f0.wait)
theorem FI.refl (f:Fl):FI f 0 f:=⟨rfl,rfl,rfl,rfl,rfl,by simp[evs],Nat.le_max_left _ _,λ_=>rfl,λh=>⟨h,Int.le_refl _⟩⟩
theorem FI.pages {f0 f:Fl}{j:Nat}(h:FI f0 j f):f.pages=f0.pages:=by unfold Fl.pages;rw[h.fresh]
theorem FI.cut {f0 f:Fl}{j:Nat}(h:FI f0 j f):FI f0 j f.cut:=by
 obtain⟨h1,h2,h3,h4,h5,h6,h7,h8⟩:=Fl.cut_keep f;refine⟨h1.trans h.old,by rw[h2];exact h.fresh,h8.trans h.comm,h7.trans h.len,h5.trans h.torn,h3.trans h.ev,by rw[h6];exact h.longest,?_⟩;obtain⟨w1,w2⟩:=h.wait;unfold Fl.cut;split
 ·rename_i hw;exact⟨λh=>(by have:=w1 h;omega),λh=>by have:=w2 h;exact⟨by show 0<=f.wait-1;omega,by show f.wait-1<=_;omega⟩⟩
 ·exact⟨w1,w2⟩
theorem Fl.cut_cutB (f:Fl)(h:f.cutB=true):f.cut=f/\f.wait=0:=by
 unfold Fl.cutB at h;have:f.wait=0:=by simpa using h
 exact⟨by unfold Fl.cut;rw[if_neg (by omega)],this⟩
structure Pow (f0:Fl) (rd:Nat) (f:Fl):Prop where
 w0:0<=f0.wait
 w:f.wait=0
 fi:∃j,FI f0 j f
 rd:f.reads<=rd
theorem Pow.mono {f0 f:Fl}{r r':Nat}(h:Pow f0 r f)(hr:r<=r'):Pow f0 r' f:={ h with rd:=Nat.le_trans h.rd hr }
theorem FI.cutB0 {f0 f:Fl}{j:Nat}(h:FI f0 j f)(hc:f.cutB=true):0<=f0.wait:=by
 have:=(Fl.cut_cutB f hc).2;rcases Int.lt_or_le f0.wait 0 with h0|h0
 ·have:=h.wait.1 h0;omega
 ·exact h0
theorem Fl.erase_inv {f0 f:Fl}{j p:Nat}(h:FI f0 j f)(hj:j=2*p)(hp:p<f.pages) :
  ((f.erase p).err=none/\FI f0 (j+1) (f.erase p).f/\(f.erase p).f.reads=f.reads/\∀i,(f.erase p).f.fresh[i]? = if p*64<=i/\i<p*64+64 then (f.fresh[i]?).map (λ_=>255) else f.fresh[i]?)\/
   ((f.erase p).err=some 7/\Pow f0 f.reads (f.erase p).f):=by
 have hev:∀(l:List (Nat × Nat)),FI f0 (j+1) { f with events:=f.events++[(0,p)] }:=λ_=>{ h with ev:=by show f.events++_=_;rw[h.ev,evs_succ,hj,List.append_assoc,show 2*p%2=0 by omega,show 2*p/2=p by omega] }
 have h1:=(hev []).cut;have hfr:({ f with events:=f.events++[(0,p)] }:Fl).cut.fresh=f.fresh:=(Fl.cut_keep _).2.1;have hrd:({ f with events:=f.events++[(0,p)] }:Fl).cut.reads=f.reads:=(Fl.cut_keep _).2.2.2.1;unfold Fl.erase;rw[if_pos hp];simp only;have h2:∀n,FI f0 (j+1) { ({ f with events:=f.events++[(0,p)] }:Fl).cut with fresh:=setFrom f.fresh p (λ_ _=>255) n }:=λn=>{ h1 with fresh:=by show (setFrom _ _ _ _).length=_;rw[setFrom_length];exact h.fresh }
 cases hc:f.cutB with
 | true=>
  right;have hc':({ f with events:=f.events++[(0,p)] }:Fl).cutB=true:=hc;refine⟨by simp,h.cutB0 hc,?_,⟨_,h2 _⟩,by show Fl.reads (Fl.cut _)<=_;rw[hrd];exact Nat.le_refl _⟩;show (Fl.cut _).wait=0;rw[(Fl.cut_cutB _ hc').1];exact(Fl.cut_cutB f hc).2
 | false=>
  left;refine⟨by simp,h2 _,hrd,λi=>?_⟩;have:f.tornN 64=64:=by unfold Fl.tornN;rw[hc];rfl
  show (setFrom f.fresh p (λ_ _=>255) (f.tornN 64))[i]? = _;rw[this,setFrom_get]
theorem Fl.program_inv {f0 f:Fl}{j p:Nat}{b:List UInt8}(h:FI f0 j f)(hj:j=2*p+1)(hp:p<f.pages) :
  ((f.program p b).err=none/\FI f0 (j+1) (f.program p b).f/\(f.program p b).f.reads=f.reads/\∀i,(f.program p b).f.fresh[i]? = if p*64<=i/\i<p*64+b.length then (f.fresh[i]?).map (λx=>x &&& b.getD (i-p*64) 0) else f.fresh[i]?)\/
   ((f.program p b).err=some 7/\Pow f0 f.reads (f.program p b).f):=by
 have hev:∀(l:List (Nat × Nat)),FI f0 (j+1) { f with events:=f.events++[(1,p)] }:=λ_=>{ h with ev:=by show f.events++_=_;rw[h.ev,evs_succ,hj,List.append_assoc,show (2*p+1)%2=1 by omega,show (2*p+1)/2=p by omega] }
 have h1:=(hev []).cut;have hrd:({ f with events:=f.events++[(1,p)] }:Fl).cut.reads=f.reads:=(Fl.cut_keep _).2.2.2.1;unfold Fl.program;rw[if_pos hp];simp only;have h2:∀n,FI f0 (j+1) { ({ f with events:=f.events++[(1,p)] }:Fl).cut with fresh:=setFrom f.fresh p (λi x=>x &&& b.getD i 0) n }:=λn=>{ h1 with fresh:=by show (setFrom _ _ _ _).length=_;rw[setFrom_length];exact h.fresh }
 cases hc:f.cutB with
 | true=>
  right;have hc':({ f with events:=f.events++[(1,p)] }:Fl).cutB=true:=hc;refine⟨by simp,h.cutB0 hc,?_,⟨_,h2 _⟩,by show Fl.reads (Fl.cut _)<=_;rw[hrd];exact Nat.le_refl _⟩;show (Fl.cut _).wait=0;rw[(Fl.cut_cutB _ hc').1];exact(Fl.cut_cutB f hc).2
 | false=>
  left;refine⟨by simp,h2 _,hrd,λi=>?_⟩;have:f.tornN b.length=b.length:=by unfold Fl.tornN;rw[hc];rfl
  show (setFrom f.fresh p (λi x=>x &&& b.getD i 0) (f.tornN b.length))[i]? = _;rw[this,setFrom_get]
theorem and255 (x:UInt8):(255:UInt8) &&& x=x:=by
 apply UInt8.toNat_inj.1;rw[UInt8.toNat_and];have:=x.toNat_lt;have h:(255:UInt8).toNat=2 ^ 8-1:=rfl;rw[h,Nat.and_comm,Nat.and_two_pow_sub_one_eq_mod];omega
theorem Ap.write_inv {f0 f:Fl}{a:Ap}{j p n:Nat}(h:FI f0 j f)(hj:j=2*p)(hp:p<f.pages)(hn:n<=64)(hpg:a.page.length=64) :
  ((a.write f p n).err=none/\(a.write f p n).a = { a with page:=List.replicate 64 0 }/\FI f0 (j+2) (a.write f p n).f/\(a.write f p n).f.reads=f.reads/\
   (∀i,i<p*64->(a.write f p n).f.fresh[i]? = f.fresh[i]?)/\∀i,i<n->(a.write f p n).f.fresh[p*64+i]? = a.page[i]?)\/
   ((a.write f p n).err=some 7/\Pow f0 f.reads (a.write f p n).f):=by
 unfold Ap.write;rcases Fl.erase_inv h hj hp with⟨e1,e2,e3,e4⟩|⟨e1,e2⟩
 ·simp only[e1];have hp':p<(f.erase p).f.pages:=by rw[e2.pages,←h.pages];exact hp
  rcases Fl.program_inv (b:=a.page.take n) e2 (by omega) hp' with⟨q1,q2,q3,q4⟩ | ⟨q1,q2⟩
  ·left;refine⟨q1,by trivial,q2,q3.trans e3,λi hi=>?_,λi hi=>?_⟩
   ·rw[q4,if_neg (by omega),e4,if_neg (by omega)]
   ·have hlen:(a.page.take n).length=n:=by simp;omega
    have hfl:p*64+i<f.fresh.length:=by unfold Fl.pages at hp;omega
    rw[q4,if_pos (by omega),e4,if_pos (by omega)];simp only[List.getElem?_eq_getElem hfl,Option.map_some,and255];rw[show p*64+i-p*64=i by omega];have hi':i<(a.page.take n).length:=by omega
    rw[List.getD_eq_getElem?_getD,List.getElem?_take,if_pos hi,List.getElem?_eq_getElem (by omega)];rfl
  ·right;exact⟨q1,q2.mono (by rw[e3];exact Nat.le_refl _)⟩
 ·right;simp only[e1];exact⟨by trivial,e2⟩
structure PI (f0:Fl) (out:List UInt8) (a:Ap) (f:Fl):Prop where
 fi:FI f0 (2*(a.made/64)) f
 made:a.made=out.length
 pg:a.page.length=64
 page:∀i,i<a.made%64->a.page[i]? = out[a.made/64*64+i]?
 fr:∀i,i<a.made/64*64->f.fresh[i]? = out[i]?
structure DI (f0:Fl) (out:List UInt8) (a:Ap) (f:Fl):Prop where
 fi:FI f0 (2*((a.made+63)/64)) f
 made:a.made=out.length
 fr:∀i,i<a.made->f.fresh[i]? = out[i]?
theorem PI.of {f0 f:Fl}{out:List UInt8}{a a':Ap}(h:PI f0 out a f)(h1:a'.made=a.made)(h2:a'.page=a.page):PI f0 out a' f:=
 ⟨by rw[h1];exact h.fi,h1.trans h.made,by rw[h2];exact h.pg,by rw[h1,h2];exact h.page,by rw[h1];exact h.fr⟩
theorem DI.of {f0 f:Fl}{out:List UInt8}{a a':Ap}(h:DI f0 out a f)(h1:a'.made=a.made):DI f0 out a' f:=
 ⟨by rw[h1];exact h.fi,h1.trans h.made,by rw[h1];exact h.fr⟩
theorem Ap.put_inv {f0 f:Fl}{out:List UInt8}{a:Ap}(h:PI f0 out a f)(b:UInt8)(hlt:a.made<f.pages*64) :
  ((a.put f b).err=none/\PI f0 (out++[b]) (a.put f b).a (a.put f b).f/\(a.put f b).f.reads=f.reads)\/((a.put f b).err=some 7/\Pow f0 f.reads (a.put f b).f):=by
 have hm:=h.made;have hpg:=h.pg;have hpage:∀i,i<a.made%64+1->(a.page.set (a.made%64) b)[i]? = (out++[b])[a.made/64*64+i]?:=by
  intro i hi;by_cases he:i=a.made%64
  ·subst he;rw[List.getElem?_set_self (by omega),show a.made/64*64+a.made%64=out.length by omega];simp
  ·rw[List.getElem?_set_ne (by omega),h.page i (by omega),List.getElem?_append_left (by omega)]
 unfold Ap.put;simp only;by_cases hz:(a.made+1)%64=0
 ·rw[if_pos hz];have hp:(a.made+1)/64-1=a.made/64:=by omega
  rw[hp];rcases Ap.write_inv (a:={ a with page:=a.page.set (a.made%64) b,made:=a.made+1 }) (n:=64) h.fi rfl (by omega) (Nat.le_refl _) (by simpa using hpg) with⟨e1,e2,e3,e4,e5,e6⟩ | ⟨e1,e2⟩
  ·left;refine⟨e1,⟨?_,?_,?_,?_,?_⟩,e4⟩
   ·rw[e2];show FI f0 (2*((a.made+1)/64)) _;rw[show 2*((a.made+1)/64)=2*(a.made/64)+2 by omega];exact e3
   ·rw[e2];show a.made+1=_;simp;omega
   ·rw[e2];show (List.replicate 64 (0:UInt8)).length=64;exact List.length_replicate
   ·rw[e2];intro i hi;simp only at hi;omega
   ·rw[e2];intro i hi;simp only at hi;rcases Nat.lt_or_ge i (a.made/64*64) with hi2|hi2
    ·rw[e5 i hi2,h.fr i hi2,List.getElem?_append_left (by omega)]
    ·have:=e6 (i-a.made/64*64) (by omega);rw[show a.made/64*64+(i-a.made/64*64)=i by omega] at this;rw[this];simp only;rw[hpage (i-a.made/64*64) (by omega),show a.made/64*64+(i-a.made/64*64)=i by omega]
  ·exact .inr ⟨e1,e2⟩
 ·rw[if_neg hz];left;refine⟨rfl,⟨?_,?_,?_,?_,?_⟩,rfl⟩
  ·show FI f0 (2*((a.made+1)/64)) f;rw[show (a.made+1)/64=a.made/64 by omega];exact h.fi
  ·show a.made+1=_;simp;omega
  ·simpa using hpg
  ·intro i hi;simp only at hi ⊢;rw[hpage i (by omega),show (a.made+1)/64=a.made/64 by omega]
  ·intro i hi;simp only at hi;rw[h.fr i (by omega),List.getElem?_append_left (by omega)]
theorem Ap.flush_inv {f0 f:Fl}{out:List UInt8}{a:Ap}(h:PI f0 out a f)(hle:a.made<=f.pages*64) :
  ((a.flush f).err=none/\DI f0 out (a.flush f).a (a.flush f).f/\(a.flush f).f.reads=f.reads)\/((a.flush f).err=some 7/\Pow f0 f.reads (a.flush f).f):=by
 have hm:=h.made;have hpg:=h.pg;unfold Ap.flush;by_cases hz:0<a.made%64
 ·rw[if_pos hz];rcases Ap.write_inv (a:=a) (n:=a.made%64) h.fi rfl (by omega) (by omega) hpg with⟨e1,e2,e3,e4,e5,e6⟩ | ⟨e1,e2⟩
  ·left;refine⟨e1,⟨?_,?_,?_⟩,e4⟩
   ·rw[e2];show FI f0 (2*((a.made+63)/64)) _;rw[show 2*((a.made+63)/64)=2*(a.made/64)+2 by omega];exact e3
   ·rw[e2];exact hm
   ·rw[e2];intro i hi;simp only at hi;rcases Nat.lt_or_ge i (a.made/64*64) with hi2|hi2
    ·rw[e5 i hi2,h.fr i hi2]
    ·have:=e6 (i-a.made/64*64) (by omega);rw[show a.made/64*64+(i-a.made/64*64)=i by omega] at this;rw[this,h.page _ (by omega),show a.made/64*64+(i-a.made/64*64)=i by omega]
  ·exact .inr ⟨e1,e2⟩
 ·rw[if_neg hz];left;refine⟨rfl,⟨?_,hm,λi hi=>h.fr i (by simp only at hi;omega)⟩,rfl⟩;show FI f0 (2*((a.made+63)/64)) f;rw[show (a.made+63)/64=a.made/64 by omega];exact h.fi
theorem Ap.puts_inv (l:List UInt8):∀{f0 f:Fl} {out:List UInt8} {a:Ap},PI f0 out a f->a.made+l.length<=f.pages*64->
  ((a.puts f l).err=none/\PI f0 (out++l) (a.puts f l).a (a.puts f l).f/\(a.puts f l).f.reads=f.reads)\/((a.puts f l).err=some 7/\Pow f0 f.reads (a.puts f l).f):=by
 induction l with
 | nil=>intro f0 f out a h _;exact .inl ⟨rfl,by rw[List.append_nil];exact h,rfl⟩
 | cons b l ih=>
  intro f0 f out a h hle;simp only[List.length_cons] at hle;unfold Ap.puts;rcases Ap.put_inv h b (by omega) with⟨e1,e2,e3⟩|⟨e1,e2⟩
  ·simp only[e1];have hm:=(Ap.put_keep a f b).2.1;rcases ih e2 (by rw[hm,e2.fi.pages,←h.fi.pages];omega) with⟨q1,q2,q3⟩ | ⟨q1,q2⟩
   ·left;exact⟨q1,by simpa using q2,q3.trans e3⟩
   ·right;exact⟨q1,q2.mono (by rw[e3];exact Nat.le_refl _)⟩
  ·right;simp only[e1];exact⟨by trivial,e2⟩
theorem Ap.read_inv {f0 f:Fl}{j:Nat}{a:Ap}(h:FI f0 j f)(i n:Nat)(hn:0<n)(hi:i+n<=f.old.length) :
  ((a.read f i n).err=none/\FI f0 j (a.read f i n).f/\(a.read f i n).f.fresh=f.fresh/\(a.read f i n).a = { a with buf:=(f.old.drop i).take (min n 64) }/\(a.read f i n).f.reads=f.reads+1)\/((a.read f i n).err=some 7/\Pow f0 f.reads (a.read f i n).f):=by
 unfold Ap.read Fl.read;cases hc:f.cutB with
 | true=>
  right;refine⟨by simp,h.cutB0 hc,?_,⟨j,h.cut⟩,by simp[(Fl.cut_keep f).2.2.2.1]⟩;show f.cut.wait=0;rw[(Fl.cut_cutB f hc).1];exact(Fl.cut_cutB f hc).2
 | false=>
  left;obtain⟨h1,h2,h3,h4,h5,h6,h7,h8⟩:=Fl.cut_keep f;have hb:((f.old.drop i).take (min n 64)).length≠0:=by simp;omega
  simp only[Bool.false_eq_true,if_false];refine⟨by rw[if_neg hb],⟨h.cut.old,h.cut.fresh,h.cut.comm,h.cut.len,h.cut.torn,h.cut.ev,?_,h.cut.wait⟩,h2,by trivial,by trivial⟩;show max f.longest (min n 64)<=_;have:=h.longest;omega
theorem Ap.copyL_inv:∀(k n:Nat) {f0 f:Fl} {out:List UInt8} {a:Ap} (i:Nat),n<=k->PI f0 out a f->a.made+n<=f.pages*64->i+n<=f.old.length->
  ((a.copyL f i k n).err=none/\PI f0 (out++(f.old.drop i).take n) (a.copyL f i k n).a (a.copyL f i k n).f/\(a.copyL f i k n).f.reads<=f.reads+n)\/((a.copyL f i k n).err=some 7/\Pow f0 (f.reads+n) (a.copyL f i k n).f)
 | 0,n,f0,f,out,a,i,hk,h,hle,hi=>by
  obtain rfl:n=0:=by omega
  unfold Ap.copyL;exact .inl ⟨rfl,by rw[List.take_zero,List.append_nil];exact h,Nat.le_refl _⟩
 | k+1,n,f0,f,out,a,i,hk,h,hle,hi=>by
  unfold Ap.copyL;by_cases hn:n=0
  ·rw[if_pos hn];subst hn;exact .inl ⟨rfl,by rw[List.take_zero,List.append_nil];exact h,Nat.le_refl _⟩
  ·rw[if_neg hn];simp only;rcases Ap.read_inv (a:=a) h.fi i n (by omega) hi with⟨e1,e2,e3,e4,e5⟩ | ⟨e1,e2⟩
   ·simp only[e1];have hbuf:(a.read f i n).a.buf=(f.old.drop i).take (min n 64):=by rw[e4]
    have hL:(a.read f i n).a.buf.length=min n 64:=by rw[hbuf];simp;omega
    have hP:PI f0 out (a.read f i n).a (a.read f i n).f:=by
     rw[e4];exact⟨e2,h.made,h.pg,h.page,λx hx=>by rw[e3];exact h.fr x hx⟩
    have hmade:(a.read f i n).a.made=a.made:=by rw[e4]
    rcases Ap.puts_inv (a.read f i n).a.buf hP (by rw[hmade,hL,e2.pages,←h.fi.pages];omega) with⟨q1,q2,q3⟩ | ⟨q1,q2⟩
    ·simp only[q1];have hpk:=(Ap.puts_keep (a.read f i n).a.buf (a.read f i n).a (a.read f i n).f).2.2.2 q1;have hold:(Ap.puts (a.read f i n).a (a.read f i n).f (a.read f i n).a.buf).f.old=f.old:=by rw[q2.fi.old,h.fi.old]
     rcases Ap.copyL_inv k (n-(a.read f i n).a.buf.length) (i+(a.read f i n).a.buf.length) (by omega) q2 (by rw[hpk,hmade,q2.fi.pages,←h.fi.pages];omega) (by rw[hold];omega) with⟨z1,z2,z3⟩ | ⟨z1,z2⟩
     ·left;refine⟨z1,?_,by omega⟩;rw[hold,List.append_assoc] at z2;have hsplit:(a.read f i n).a.buf++(f.old.drop (i+(a.read f i n).a.buf.length)).take (n-(a.read f i n).a.buf.length)=(f.old.drop i).take n:=by
       rw[hL,←List.drop_drop,hbuf];have hn2:n=min n 64+(n-min n 64):=by omega
       conv=>rhs;rw[hn2,List.take_add]
      rw[hsplit] at z2;exact z2
     ·right;exact⟨z1,z2.mono (by omega)⟩
    ·right;simp only[q1];exact⟨by trivial,q2.mono (by omega)⟩
   ·right;simp only[e1];exact⟨by trivial,e2.mono (by omega)⟩
theorem Ap.copy_inv {f0 f:Fl}{out:List UInt8}{a:Ap}(i n:Nat)(h:PI f0 out a f)(hle:a.made+n<=f.pages*64)(hs:a.size=f.old.length) :
  ((a.copy f i n).err=none/\i+n<=f.old.length/\PI f0 (out++(f.old.drop i).take n) (a.copy f i n).a (a.copy f i n).f/\(a.copy f i n).f.reads<=f.reads+n)\/((a.copy f i n).err=some 7/\Pow f0 (f.reads+n) (a.copy f i n).f)\/
   (f.old.length<i+n/\a.copy f i n = { err:=some 2,a,f }):=by
 unfold Ap.copy;by_cases hb:a.size<i+n
 ·rw[if_pos hb];exact .inr (.inr ⟨by omega,rfl⟩)
 ·rw[if_neg hb];rcases Ap.copyL_inv n n i (Nat.le_refl _) h hle (by omega) with⟨e1,e2,e3⟩|h
  ·exact .inl ⟨e1,by omega,e2,e3⟩
  ·exact .inr (.inl h)
theorem Ap.sumOld_inv:∀(k:Nat) {f0 f:Fl} {j:Nat} {a:Ap} (got i:Nat),got<4294967296->FI f0 j f->a.size=f.old.length->a.size-i<k->i<=a.size->
  ((a.sumOld f got k i).err=none/\(a.sumOld f got k i).got=sumAdd got (f.old.drop i)/\FI f0 j (a.sumOld f got k i).f/\(a.sumOld f got k i).f.fresh=f.fresh/\(∃buf,(a.sumOld f got k i).a = { a with buf })/\(a.sumOld f got k i).f.reads<=f.reads+(a.size-i))\/
   ((a.sumOld f got k i).err=some 7/\Pow f0 (f.reads+(a.size-i)) (a.sumOld f got k i).f)
 | 0,f0,f,j,a,got,i,hg,h,hs,hk,hi=>by omega
 | k+1,f0,f,j,a,got,i,hg,h,hs,hk,hi=>by
  unfold Ap.sumOld;by_cases hd:a.size<=i
  ·rw[if_pos hd];refine .inl ⟨rfl,?_,h,rfl,⟨a.buf,rfl⟩,Nat.le_add_right _ _⟩;rw[List.drop_of_length_le (by omega)];exact(inv32_inv hg).symm
  ·rw[if_neg hd];simp only;rcases Ap.read_inv (a:=a) h i (a.size-i) (by omega) (by omega) with⟨e1,e2,e3,e4,e5⟩ | ⟨e1,e2⟩
   ·simp only[e1];have hbuf:(a.read f i (a.size-i)).a.buf=(f.old.drop i).take (min (a.size-i) 64):=by rw[e4]
    have hL:(a.read f i (a.size-i)).a.buf.length=min (a.size-i) 64:=by rw[hbuf];simp;omega
    have hsz:(a.read f i (a.size-i)).a.size=a.size:=by rw[e4]
    have hold:(a.read f i (a.size-i)).f.old=f.old:=by rw[e2.old,h.old]
    rcases Ap.sumOld_inv k (a:=(a.read f i (a.size-i)).a) (sumAdd got (a.read f i (a.size-i)).a.buf) (i+(a.read f i (a.size-i)).a.buf.length) (sumAdd_lt _ _) e2 (by rw[hsz,hold,hs]) (by rw[hsz];omega) (by rw[hsz];omega) with⟨z1,z2,z3,z4,⟨bf,z5⟩,z6⟩ | ⟨z1,z2⟩
    ·left;refine⟨z1,?_,z3,z4.trans e3,⟨bf,by rw[z5,e4]⟩,by rw[hsz] at z6;omega⟩;rw[z2,sumAdd_app,hold,hL,hbuf];congr 1;rw[←List.drop_drop];exact List.take_append_drop _ _
    ·right;exact⟨z1,z2.mono (by rw[hsz];omega)⟩
   ·right;simp only[e1];exact⟨by trivial,e2.mono (by omega)⟩
end Go.Fwm
end
