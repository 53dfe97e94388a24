/-
  Part 10 of the common ground of this seat: what single parts show stands ahead of each.
  No condition.
-/
import Derived.Test.YtkmgcggoemlaaaaGreatDoorJ09
set_option linter.unusedSimpArgs false
set_option linter.unusedVariables false
set_option linter.constructorNameAsVariable false
section
/- The model: what holds of an applier between two bytes. -/
namespace Go.Fwm
def digOk:St->Int->Prop
 | .oldSize,d | .newSize,d | .counted,d | .place,d=>d=0\/d=1
 | .oldSum,d | .fin,d=>0<=d/\d<=3
 | .over,d=>d = -1
 | _,d=>d=0
def isEarly:St->Bool
 | .oldSize | .oldSum | .newSize=>true
 | _=>false
def unread:St->Bool
 | .oldSize | .oldSum=>true
 | _=>false
def toCome:St->Bool
 | .step | .counted | .own | .place=>true
 | _=>false
def counts:St->Bool
 | .own | .place=>true
 | _=>false
def ended:St->Bool
 | .fin | .over=>true
 | _=>false
structure Inv (f0:Fl) (R0:Nat) (out:List UInt8) (a:Ap) (f:Fl):Prop where
 nofault:a.fault=.none
 dig:digOk a.st a.digits
 lp:a.length<=f.pages*64
 made:a.made=out.length
 ml:a.made<=a.length
 early:isEarly a.st=true->a.made=0/\a.length=0
 size:unread a.st=false->a.size=f.old.length
 op:a.op<=2
 lt:toCome a.st=true->a.made<a.length
 count:counts a.st=true->0<a.count/\a.made+a.count<=a.length
 body:ended a.st=false->PI f0 out a f
 done:ended a.st=true->a.made=a.length/\DI f0 out a f
 rd:f.reads<=R0+a.made+if unread a.st then 0 else 4096
 oldl:f.old.length<=4096
 pg:f.pages<=64
theorem Inv.fi {f0 f:Fl}{R0:Nat}{out:List UInt8}{a:Ap}(h:Inv f0 R0 out a f):∃j,FI f0 j f:=by
 cases he:ended a.st with
 | false=>exact⟨_,(h.body he).fi⟩
 | true=>exact⟨_,(h.done he).2.fi⟩
structure Er (f0:Fl) (R0:Nat) (e:Nat) (f:Fl):Prop where
 num:e=2\/e=3\/e=4\/e=6\/(e=7/\0<=f0.wait/\f.wait=0)
 fi:∃j,FI f0 j f
 rd:f.reads<=R0+8192
def Ap.emit (a:Ap)(f:Fl)(b:UInt8):List UInt8:=
 match a.st with
 | .own=>[b]
 | .beside=>[b]
 | .place=>if (a.number b).whole then (f.old.drop (a.number b).a.value).take a.count else []
 | .counted=>if (a.number b).whole/\a.op=2 then (f.old.drop a.made).take (a.number b).a.value else []
 | _=>[]
def R.next (r:R):Ap:={ r.a with st:=r.st,at_:=r.a.at_+1 }
theorem Pow.er {f0 f:Fl}{R0 r:Nat}(h:Pow f0 r f)(hr:r<=R0+8192):Er f0 R0 7 f:=
 ⟨.inr (.inr (.inr (.inr ⟨rfl,h.w0,h.w⟩))),h.fi,Nat.le_trans h.rd hr⟩
theorem Ap.more_inv {f0 f:Fl}{R0:Nat}{out:List UInt8}{a:Ap}(hP:PI f0 out a f)(nf:a.fault=.none)(hd:a.digits=0)(lp:a.length<=f.pages*64)(ml:a.made<=a.length)(hs:a.size=f.old.length)(hop:a.op<=2)
  (hrd:f.reads<=R0+a.made+4096) (hol:f.old.length<=4096) (h8:f.pages<=64) :
  ((a.more f).err=none/\Inv f0 R0 out (a.more f).next (a.more f).f)\/∃e,(a.more f).err=some e/\Er f0 R0 e (a.more f).f:=by
 unfold Ap.more;by_cases hlt:a.made<a.length
 ·rw[if_pos hlt];exact .inl ⟨rfl,nf,hd,lp,hP.made,ml,λh=>(by cases h),λ_=>hs,hop,λ_=>hlt,λh=>(by cases h),λ_=>hP.of rfl rfl,λh=>(by cases h),hrd,hol,h8⟩
 ·rw[if_neg hlt];simp only;have hk:Keep a f (a.flush f).a (a.flush f).f 2 0/\(a.flush f).a.made=a.made:=by
   unfold Ap.flush;split
   ·obtain⟨k1,k2,_⟩:=Ap.write_keep a f (a.made/64) (a.made%64);exact⟨k1,k2⟩
   ·exact⟨(Keep.refl a f).mono (Nat.zero_le 2) (Nat.le_refl 0),rfl⟩
  obtain⟨k,km⟩:=hk;rcases Ap.flush_inv hP (by omega) with⟨e1,e2,e3⟩|⟨e1,e2⟩
  ·left;refine⟨e1,k.fault.trans nf,?_,?_,e2.made,?_,λh=>(by cases h),λ_=>?_,?_,λh=>(by cases h),λh=>(by cases h),λh=>(by cases h),λ_=>⟨?_,e2.of rfl⟩,?_,?_,?_⟩
   ·show 0<=(a.flush f).a.digits/\(a.flush f).a.digits<=3;rw[k.digits,hd];omega
   ·show (a.flush f).a.length<=_;rw[k.length,e2.fi.pages,←hP.fi.pages];exact lp
   ·show (a.flush f).a.made<=(a.flush f).a.length;rw[k.length,km];exact ml
   ·show (a.flush f).a.size=_;rw[k.size,k.old];exact hs
   ·show (a.flush f).a.op<=2;rw[k.op];exact hop
   ·show (a.flush f).a.made=(a.flush f).a.length;rw[k.length,km];omega
   ·show (a.flush f).f.reads<=R0+(a.flush f).a.made+4096;rw[e3,km];exact hrd
   ·show (a.flush f).f.old.length<=4096;rw[k.old];exact hol
   ·rw[e2.fi.pages,←hP.fi.pages];exact h8
  ·right;exact⟨7,e1,e2.er (by omega)⟩
theorem Ap.number_err (a:Ap)(b:UInt8)(hw:(a.number b).whole=false):(a.number b).err=none\/(a.number b).err=some 2:=by
 revert hw
 unfold Ap.number;simp only;split
 ·exact λ_=>.inl rfl
 ·generalize (if a.digits+1=1 then b.toNat else (a.addSum b).value ||| b.toNat*128)=v;by_cases h2:a.digits+1=2/\b.toNat=0\/4096<v
  ·rw[if_pos h2];exact λ_=>.inr rfl
  ·rw[if_neg h2];exact λh=>by cases h
theorem Inv.refuse {f0 f:Fl}{R0:Nat}{out:List UInt8}{a:Ap}(h:Inv f0 R0 out a f){e:Nat}(he:e=2\/e=3\/e=4\/e=6):Er f0 R0 e f:=by
 refine⟨by omega,h.fi,?_⟩;have:=h.rd;have:=h.ml;have:=h.lp;have:=h.pg;split at *<;>omega
theorem Inv.part {f0 f:Fl}{R0:Nat}{out:List UInt8}{a:Ap}(h:Inv f0 R0 out a f)(b:UInt8)(hw:(a.number b).whole=false)(hn:∀d:Int,digOk a.st d↔d=0\/d=1) :
  ((a.number b).err=none/\Inv f0 R0 (out++[]) ({ err:=(a.number b).err,st:=a.st,a:=(a.number b).a,f }:R).next f)\/∃e,(a.number b).err=some e/\Er f0 R0 e f:=by
 obtain⟨k,_,k2,k3⟩:=Ap.number_keep a b;obtain⟨j,hj⟩:=h.fi;have hrd:=h.rd;have hml:=h.ml;rcases Ap.number_err a b hw with e|e
 ·left;obtain⟨d1,d2⟩:=k2 hw e;rw[List.append_nil];refine⟨e,k.fault.trans h.nofault,?_,?_,k.made.trans h.made,?_,λx=>?_,λx=>?_,?_,λx=>?_,λx=>?_,λx=>?_,λx=>?_,?_,h.oldl,h.pg⟩
  ·exact(hn _).2 (.inr (by show (a.number b).a.digits=1;rw[d1,d2];rfl))
  ·show (a.number b).a.length<=_;rw[k.length];exact h.lp
  ·show (a.number b).a.made<=(a.number b).a.length;rw[k.length,k.made];exact h.ml
  ·show (a.number b).a.made=0/\(a.number b).a.length=0;rw[k.length,k.made];exact h.early x
  ·show (a.number b).a.size=_;rw[k.size];exact h.size x
  ·show (a.number b).a.op<=2;rw[k.op];exact h.op
  ·show (a.number b).a.made<(a.number b).a.length;rw[k.length,k.made];exact h.lt x
  ·show 0<(a.number b).a.count/\(a.number b).a.made+(a.number b).a.count<=(a.number b).a.length;rw[k.length,k.made,k.count];exact h.count x
  ·exact(h.body x).of k.made k.page
  ·obtain⟨x1,x2⟩:=h.done x;exact⟨by show (a.number b).a.made=(a.number b).a.length;rw[k.length,k.made];exact x1,x2.of k.made⟩
  ·show f.reads<=R0+(a.number b).a.made+_;rw[k.made];exact h.rd
 ·right;exact⟨2,e,h.refuse (.inl rfl)⟩
theorem Inv.mk' {f0 f f':Fl}{R0:Nat}{out:List UInt8}{a:Ap}(h:Inv f0 R0 out a f){a':Ap}(hf:a'.fault=a.fault)(hm:a'.made=a.made)(hl:a'.length=a.length)(ho:a'.op=a.op)(hpg:a'.page=a.page)
  (hfo:f'.old=f.old) (hfp:f'.pages=f.pages) (hb:ended a.st=false) (hfi:PI f0 out a f->PI f0 out a f')
  (dig:digOk a'.st a'.digits) (he:isEarly a'.st=true->isEarly a.st=true) (size:unread a'.st=false->a'.size=f'.old.length) (lt:toCome a'.st=true->a.made<a.length) (hc:counts a'.st=true->0<a'.count/\a.made+a'.count<=a.length)
  (hn:ended a'.st=false) (rd:f'.reads<=R0+a.made+if unread a'.st then 0 else 4096):Inv f0 R0 out a' f':=
 ⟨hf.trans h.nofault,dig,by rw[hl,hfp];exact h.lp,hm.trans h.made,by rw[hl,hm];exact h.ml,λx=>(by rw[hl,hm];exact h.early (he x)),size,(by rw[ho];exact h.op),λx=>(by rw[hl,hm];exact lt x),λx=>(by rw[hl,hm];exact hc x),λ_=>(hfi (h.body hb)).of hm hpg,λx=>(by rw[hn] at x;cases x),(by rw[hm];exact rd),(by rw[hfo];exact h.oldl),(by rw[hfp];exact h.pg)⟩
theorem step_oldSize {f0 f:Fl}{R0:Nat}{out:List UInt8}{a:Ap}(h:Inv f0 R0 out a f)(b:UInt8)(hst:a.st=.oldSize) :
  ((a.stepB f b).err=none/\Inv f0 R0 (out++a.emit f b) (a.stepB f b).next (a.stepB f b).f)\/∃e,(a.stepB f b).err=some e/\Er f0 R0 e (a.stepB f b).f:=by
 have hem:a.emit f b=[]:=by unfold Ap.emit;rw[hst]
 obtain⟨k,k1,k2,k3⟩:=Ap.number_keep a b;rw[hem];unfold Ap.stepB;rw[hst];simp only;cases hw:(a.number b).whole with
 | false=>
  have:=h.part b hw (λd=>by rw[hst];exact Iff.rfl);rw[hst] at this;exact this
 | true=>
  left;obtain⟨w1,w2,w3⟩:=k1 hw;rw[List.append_nil];have hrd:=h.rd;rw[hst] at hrd;exact⟨rfl,h.mk' k.fault k.made k.length k.op k.page rfl rfl (by rw[hst];rfl) (λx=>x) ⟨by show 0<=(a.number b).a.digits;omega,by show (a.number b).a.digits<=3;omega⟩ (λ_=>by rw[hst];rfl) (λx=>by cases x) (λx=>by cases x) (λx=>by cases x) rfl hrd⟩
theorem step_oldSum {f0 f:Fl}{R0:Nat}{out:List UInt8}{a:Ap}(h:Inv f0 R0 out a f)(b:UInt8)(hst:a.st=.oldSum) :
  ((a.stepB f b).err=none/\Inv f0 R0 (out++a.emit f b) (a.stepB f b).next (a.stepB f b).f)\/∃e,(a.stepB f b).err=some e/\Er f0 R0 e (a.stepB f b).f:=by
 have hem:a.emit f b=[]:=by unfold Ap.emit;rw[hst]
 obtain⟨k,k1,k2,k3⟩:=Ap.fixed_keep (a.addSum b) b;rw[hem];have hd:=h.dig;have hrd:=h.rd;have hb:=h.body (by rw[hst];rfl);have hme:=(h.early (by rw[hst];rfl)).1;rw[hst] at hd hrd;have hd1:0<=a.digits/\a.digits<=3:=hd;have hrd1:f.reads<=R0+a.made+0:=hrd;unfold Ap.stepB;rw[hst];simp only;cases hw:((a.addSum b).fixed b).whole with
 | false=>
  left;obtain⟨w1,w2⟩:=k2 hw;have w3:((a.addSum b).fixed b).a.digits=a.digits+1:=w1;have w4:a.digits<3:=w2;rw[List.append_nil];exact⟨rfl,h.mk' k.fault k.made k.length k.op k.page rfl rfl (by rw[hst];rfl) (λx=>x) ⟨by show 0<=((a.addSum b).fixed b).a.digits;omega,by show ((a.addSum b).fixed b).a.digits<=3;omega⟩ (λ_=>by rw[hst];rfl) (λx=>by cases x) (λx=>by cases x) (λx=>by cases x) rfl hrd⟩
 | true=>
  simp only[if_true];obtain⟨w1,w2⟩:=k1 hw;by_cases hsz:((a.addSum b).fixed b).a.size≠f.old.length
  ·rw[if_pos hsz];exact .inr ⟨3,rfl,h.refuse (.inr (.inl rfl))⟩
  ·rw[if_neg hsz];have hsz':((a.addSum b).fixed b).a.size=f.old.length:=by simpa using hsz
   have hol:=h.oldl;rcases Ap.sumOld_inv (((a.addSum b).fixed b).a.size+1) (a:=((a.addSum b).fixed b).a) 0 0 (by omega) hb.fi hsz' (by omega) (Nat.zero_le _) with⟨z1,z2,z3,z4,⟨bf,z5⟩,z6⟩ | ⟨z1,z2⟩
   ·simp only[z1];have hEr:Er f0 R0 3 (Ap.sumOld ((a.addSum b).fixed b).a f 0 (((a.addSum b).fixed b).a.size+1) 0).f:=⟨.inr (.inl rfl),⟨_,z3⟩,by omega⟩;split
    ·exact .inr ⟨3,rfl,hEr⟩
    ·left;rw[List.append_nil];refine⟨rfl,h.mk' (f':=(Ap.sumOld ((a.addSum b).fixed b).a f 0 (((a.addSum b).fixed b).a.size+1) 0).f) (by unfold R.next;rw[z5];exact k.fault) (by unfold R.next;rw[z5];exact k.made) (by unfold R.next;rw[z5];exact k.length) (by unfold R.next;rw[z5];exact k.op) (by unfold R.next;rw[z5];exact k.page) (z3.old.trans hb.fi.old.symm) (z3.pages.trans hb.fi.pages.symm) (by rw[hst];rfl) (λx=>?_) (.inl ?_) (λ_=>by rw[hst];rfl) (λ_=>?_) (λx=>by cases x) (λx=>by cases x) rfl ?_⟩
     ·exact⟨z3,x.made,x.pg,x.page,λi hi=>by rw[z4];exact x.fr i hi⟩
     ·unfold R.next;rw[z5];exact w1
     ·unfold R.next;rw[z5];show ((a.addSum b).fixed b).a.size=_;rw[z3.old,←hb.fi.old];exact hsz'
     ·show _<=R0+a.made+4096;omega
   ·simp only[z1];exact .inr ⟨7,rfl,z2.er (by omega)⟩
theorem step_newSize {f0 f:Fl}{R0:Nat}{out:List UInt8}{a:Ap}(h:Inv f0 R0 out a f)(b:UInt8)(hst:a.st=.newSize) :
  ((a.stepB f b).err=none/\Inv f0 R0 (out++a.emit f b) (a.stepB f b).next (a.stepB f b).f)\/∃e,(a.stepB f b).err=some e/\Er f0 R0 e (a.stepB f b).f:=by
 have hem:a.emit f b=[]:=by unfold Ap.emit;rw[hst]
 obtain⟨k,k1,k2,k3⟩:=Ap.number_keep a b;rw[hem];unfold Ap.stepB;rw[hst];simp only;cases hw:(a.number b).whole with
 | false=>
  have:=h.part b hw (λd=>by rw[hst];exact Iff.rfl);rw[hst] at this;exact this
 | true=>
  simp only[if_true];obtain⟨w1,w2,w3⟩:=k1 hw;by_cases hbig:f.pages*64<(a.number b).a.value
  ·rw[if_pos hbig];exact .inr ⟨4,rfl,h.refuse (.inr (.inr (.inl rfl)))⟩
  ·rw[if_neg hbig,List.append_nil];have hrd:=h.rd;rw[hst] at hrd;have hme:=(h.early (by rw[hst];rfl)).1;have hmk:=k.made;refine Ap.more_inv (a:={ (a.number b).a with length:=(a.number b).a.value }) ((h.body (by rw[hst];rfl)).of k.made k.page) (k.fault.trans h.nofault) w3 (by show (a.number b).a.value<=_;omega) (by show (a.number b).a.made<=(a.number b).a.value;omega) ?_ (by show (a.number b).a.op<=2;rw[k.op];exact h.op) ?_ h.oldl h.pg
   ·show (a.number b).a.size=_;rw[k.size];exact h.size (by rw[hst];rfl)
   ·show f.reads<=R0+(a.number b).a.made+4096;rw[hmk];exact hrd
theorem step_step {f0 f:Fl}{R0:Nat}{out:List UInt8}{a:Ap}(h:Inv f0 R0 out a f)(b:UInt8)(hst:a.st=.step) :
  ((a.stepB f b).err=none/\Inv f0 R0 (out++a.emit f b) (a.stepB f b).next (a.stepB f b).f)\/∃e,(a.stepB f b).err=some e/\Er f0 R0 e (a.stepB f b).f:=by
 have hem:a.emit f b=[]:=by unfold Ap.emit;rw[hst]
 rw[hem];have hd:=h.dig;have hrd:=h.rd;rw[hst] at hd hrd;have hd:a.digits=0:=hd;unfold Ap.stepB;rw[hst];simp only;by_cases hb:2<b.toNat
 ·rw[if_pos hb];exact .inr ⟨2,rfl,h.refuse (.inl rfl)⟩
 ·rw[if_neg hb,List.append_nil];left;refine⟨rfl,h.nofault,.inl hd,h.lp,h.made,h.ml,λx=>(by cases x),λ_=>h.size (by rw[hst];rfl),?_,λ_=>h.lt (by rw[hst];rfl),λx=>(by cases x),λ_=>(h.body (by rw[hst];rfl)).of rfl rfl,λx=>(by cases x),hrd,h.oldl,h.pg⟩;show b.toNat<=2;omega
theorem step_counted {f0 f:Fl}{R0:Nat}{out:List UInt8}{a:Ap}(h:Inv f0 R0 out a f)(b:UInt8)(hst:a.st=.counted) :
  ((a.stepB f b).err=none/\Inv f0 R0 (out++a.emit f b) (a.stepB f b).next (a.stepB f b).f)\/∃e,(a.stepB f b).err=some e/\Er f0 R0 e (a.stepB f b).f:=by
 obtain⟨k,k1,k2,k3⟩:=Ap.number_keep a b;have hrd:=h.rd;rw[hst] at hrd;have hrd:f.reads<=R0+a.made+4096:=hrd;have hlt:=h.lt (by rw[hst];rfl);have hsz:=h.size (by rw[hst];rfl);have hbody:=h.body (by rw[hst];rfl);have hlp:=h.lp;have hpg:=h.pg;unfold Ap.emit Ap.stepB;rw[hst];simp only;cases hw:(a.number b).whole with
 | false=>
  have:=h.part b hw (λd=>by rw[hst];exact Iff.rfl);rw[hst] at this;simpa using this
 | true=>
  simp only[if_true,true_and];obtain⟨w1,w2,w3⟩:=k1 hw;have kl:=k.length;have km:=k.made;have ko:=k.op;by_cases hbad:((a.number b).a.length:Int)-(a.number b).a.made<(a.number b).a.value\/(a.number b).a.op≠2/\(a.number b).a.value=0
  ·rw[if_pos hbad];exact .inr ⟨2,rfl,h.refuse (.inl rfl)⟩
  ·rw[if_neg hbad];have hpos:(a.number b).a.op=2\/0<(a.number b).a.value:=by omega
   by_cases h0:(a.number b).a.op=0
   ·rw[if_pos h0,if_neg (by omega),List.append_nil];exact .inl ⟨rfl,h.mk' k.fault k.made k.length k.op k.page rfl rfl (by rw[hst];rfl) (λx=>x) w3 (λx=>by cases x) (λ_=>k.size.trans hsz) (λ_=>hlt) (λ_=>⟨by show 0<(a.number b).a.value;omega,by show a.made+(a.number b).a.value<=a.length;omega⟩) rfl hrd⟩
   ·rw[if_neg h0];by_cases h1:(a.number b).a.op=1
    ·rw[if_pos h1,if_neg (by omega),List.append_nil];exact .inl ⟨rfl,h.mk' k.fault k.made k.length k.op k.page rfl rfl (by rw[hst];rfl) (λx=>x) (.inl w3) (λx=>by cases x) (λ_=>k.size.trans hsz) (λ_=>hlt) (λ_=>⟨by show 0<(a.number b).a.value;omega,by show a.made+(a.number b).a.value<=a.length;omega⟩) rfl hrd⟩
    ·rw[if_neg h1];have hop:=h.op;rw[if_pos (by omega)];simp only;have hP:PI f0 out { (a.number b).a with count:=(a.number b).a.value } f:=hbody.of k.made k.page;have hck:=Ap.copy_keep { (a.number b).a with count:=(a.number b).a.value } f (a.number b).a.made (a.number b).a.value;rcases Ap.copy_inv (a.number b).a.made (a.number b).a.value hP (by show (a.number b).a.made+_<=_;omega) (k.size.trans hsz) with⟨e1,e2,e3,e4⟩ | ⟨e1,e2⟩ | ⟨e1,e2⟩
     ·left;have hemit:(f.old.drop a.made).take (a.number b).a.value=(f.old.drop (a.number b).a.made).take (a.number b).a.value:=by rw[km]
      rw[hemit];obtain⟨q1,q2,q3⟩:=hck;have q3:=q3 e1;have q3':(Ap.copy { (a.number b).a with count:=(a.number b).a.value } f (a.number b).a.made (a.number b).a.value).a.made=a.made+(a.number b).a.value:=by rw[q3];show (a.number b).a.made+_=_;rw[km]
      refine⟨e1,q1.fault.trans (k.fault.trans h.nofault),?_,?_,e3.made,?_,λx=>(by cases x),λ_=>?_,?_,λx=>(by cases x),λx=>(by cases x),λ_=>e3.of rfl rfl,λx=>(by cases x),?_,?_,?_⟩
      ·show (Ap.copy _ _ _ _).a.digits=0;rw[q1.digits];exact w3
      ·show (Ap.copy _ _ _ _).a.length<=_;rw[q1.length,e3.fi.pages,←hP.fi.pages];show (a.number b).a.length<=_;rw[kl];exact hlp
      ·show (Ap.copy _ _ _ _).a.made<=(Ap.copy _ _ _ _).a.length;rw[q3',q1.length];show _<=(a.number b).a.length;omega
      ·show (Ap.copy _ _ _ _).a.size=_;rw[q1.size,q1.old];exact k.size.trans hsz
      ·show (Ap.copy _ _ _ _).a.op<=2;rw[q1.op];show (a.number b).a.op<=2;omega
      ·show _<=R0+(Ap.copy _ _ _ _).a.made+4096;rw[q3'];exact Nat.le_trans e4 (by omega)
      ·show (Ap.copy _ _ _ _).f.old.length<=_;rw[q1.old];exact h.oldl
      ·rw[e3.fi.pages,←hP.fi.pages];exact hpg
     ·exact .inr ⟨7,e1,e2.er (by omega)⟩
     ·rw[e2];exact .inr ⟨2,rfl,h.refuse (.inl rfl)⟩
theorem step_own {f0 f:Fl}{R0:Nat}{out:List UInt8}{a:Ap}(h:Inv f0 R0 out a f)(b:UInt8)(hst:a.st=.own) :
  ((a.stepB f b).err=none/\Inv f0 R0 (out++a.emit f b) (a.stepB f b).next (a.stepB f b).f)\/∃e,(a.stepB f b).err=some e/\Er f0 R0 e (a.stepB f b).f:=by
 have hem:a.emit f b=[b]:=by unfold Ap.emit;rw[hst]
 rw[hem];have hd:=h.dig;have hrd:=h.rd;rw[hst] at hd hrd;have hd:a.digits=0:=hd;have hrd:f.reads<=R0+a.made+4096:=hrd;have hlt:=h.lt (by rw[hst];rfl);have hsz:=h.size (by rw[hst];rfl);obtain⟨hc0,hc1⟩:=h.count (by rw[hst];rfl);have hbody:PI f0 out (a.addSum b) f:=(h.body (by rw[hst];rfl)).of rfl rfl;have hlp:=h.lp;have hpg:=h.pg;obtain⟨k,km,_⟩:=Ap.put_keep (a.addSum b) f b;have km:((a.addSum b).put f b).a.made=a.made+1:=km;unfold Ap.stepB;rw[hst];simp only;rcases Ap.put_inv hbody b (by show a.made<_;omega) with⟨e1,e2,e3⟩ | ⟨e1,e2⟩
 ·simp only[e1];have kl:((a.addSum b).put f b).a.length=a.length:=k.length;have kc:((a.addSum b).put f b).a.count=a.count:=k.count;have kp:=e2.fi.pages;have kp2:=hbody.fi.pages;by_cases hcn:0<((a.addSum b).put f b).a.count-1
  ·rw[if_pos hcn];left;refine⟨rfl,k.fault.trans h.nofault,?_,?_,e2.made,?_,λx=>(by cases x),λ_=>?_,?_,λ_=>?_,λ_=>?_,λ_=>e2.of rfl rfl,λx=>(by cases x),?_,?_,?_⟩
   ·show ((a.addSum b).put f b).a.digits=0;rw[k.digits];exact hd
   ·show ((a.addSum b).put f b).a.length<=_;rw[kl,kp,←kp2];exact hlp
   ·show ((a.addSum b).put f b).a.made<=((a.addSum b).put f b).a.length;omega
   ·show ((a.addSum b).put f b).a.size=_;rw[k.size,k.old];exact hsz
   ·show ((a.addSum b).put f b).a.op<=2;rw[k.op];exact h.op
   ·show ((a.addSum b).put f b).a.made<((a.addSum b).put f b).a.length;omega
   ·show 0<((a.addSum b).put f b).a.count-1/\((a.addSum b).put f b).a.made+(((a.addSum b).put f b).a.count-1)<=((a.addSum b).put f b).a.length;omega
   ·show _<=R0+((a.addSum b).put f b).a.made+4096;exact Nat.le_trans (Nat.le_of_eq e3) (by omega)
   ·show ((a.addSum b).put f b).f.old.length<=_;rw[k.old];exact h.oldl
   ·rw[kp,←kp2];exact hpg
  ·rw[if_neg hcn];refine Ap.more_inv (a:={ ((a.addSum b).put f b).a with count:=((a.addSum b).put f b).a.count-1 }) (e2.of rfl rfl) (k.fault.trans h.nofault) (k.digits.trans hd) ?_ ?_ ?_ ?_ ?_ ?_ ?_
   ·show ((a.addSum b).put f b).a.length<=_;rw[kl,kp,←kp2];exact hlp
   ·show ((a.addSum b).put f b).a.made<=((a.addSum b).put f b).a.length;omega
   ·show ((a.addSum b).put f b).a.size=_;rw[k.size,k.old];exact hsz
   ·show ((a.addSum b).put f b).a.op<=2;rw[k.op];exact h.op
   ·show _<=R0+((a.addSum b).put f b).a.made+4096;omega
   ·rw[k.old];exact h.oldl
   ·rw[kp,←kp2];exact hpg
 ·simp only[e1];have hml:=h.ml;exact .inr ⟨7,rfl,e2.er (by omega)⟩
theorem step_place {f0 f:Fl}{R0:Nat}{out:List UInt8}{a:Ap}(h:Inv f0 R0 out a f)(b:UInt8)(hst:a.st=.place) :
  ((a.stepB f b).err=none/\Inv f0 R0 (out++a.emit f b) (a.stepB f b).next (a.stepB f b).f)\/∃e,(a.stepB f b).err=some e/\Er f0 R0 e (a.stepB f b).f:=by
 obtain⟨k,k1,k2,k3⟩:=Ap.number_keep a b;have hrd:=h.rd;rw[hst] at hrd;have hrd:f.reads<=R0+a.made+4096:=hrd;have hsz:=h.size (by rw[hst];rfl);obtain⟨hc0,hc1⟩:=h.count (by rw[hst];rfl);have hbody:=h.body (by rw[hst];rfl);have hlp:=h.lp;have hpg:=h.pg;unfold Ap.emit Ap.stepB;rw[hst];simp only;cases hw:(a.number b).whole with
 | false=>
  have:=h.part b hw (λd=>by rw[hst];exact Iff.rfl);rw[hst] at this;simpa using this
 | true=>
  simp only[if_true];obtain⟨w1,w2,w3⟩:=k1 hw;have kl:=k.length;have km:=k.made;have kc:=k.count;have hP:PI f0 out (a.number b).a f:=hbody.of k.made k.page;have hck:=Ap.copy_keep (a.number b).a f (a.number b).a.value (a.number b).a.count;rcases Ap.copy_inv (a.number b).a.value (a.number b).a.count hP (by omega) (k.size.trans hsz) with⟨e1,e2,e3,e4⟩|⟨e1,e2⟩|⟨e1,e2⟩
  ·simp only[e1];obtain⟨q1,q2,q3⟩:=hck;have q3:=q3 e1;rw[kc] at e3;refine Ap.more_inv ?_ (q1.fault.trans (k.fault.trans h.nofault)) (q1.digits.trans w3) ?_ ?_ ?_ ?_ ?_ ?_ ?_
   ·rw[kc];exact e3
   ·rw[q1.length,kl,kc,e3.fi.pages,←hP.fi.pages];exact hlp
   ·rw[q1.length,q3];omega
   ·rw[q1.size,q1.old];exact k.size.trans hsz
   ·rw[q1.op,k.op];exact h.op
   ·rw[q3];omega
   ·rw[q1.old];exact h.oldl
   ·rw[kc,e3.fi.pages,←hP.fi.pages];exact hpg
  ·simp only[e1];exact .inr ⟨7,rfl,e2.er (by omega)⟩
  ·rw[e2];exact .inr ⟨2,rfl,h.refuse (.inl rfl)⟩
theorem step_beside {f0 f:Fl}{R0:Nat}{out:List UInt8}{a:Ap}(h:Inv f0 R0 out a f)(b:UInt8)(hst:a.st=.beside) :
  ((a.stepB f b).err=none/\Inv f0 R0 (out++a.emit f b) (a.stepB f b).next (a.stepB f b).f)\/∃e,(a.stepB f b).err=some e/\Er f0 R0 e (a.stepB f b).f:=by
 have hem:a.emit f b=[b]:=by unfold Ap.emit;rw[hst]
 rw[hem];have hd:=h.dig;have hrd:=h.rd;rw[hst] at hd hrd;have hd:a.digits=0:=hd;have hrd:f.reads<=R0+a.made+4096:=hrd;have hml:=h.ml;have hsz:=h.size (by rw[hst];rfl);have hbody:PI f0 out (a.addSum b) f:=(h.body (by rw[hst];rfl)).of rfl rfl;have hlp:=h.lp;have hpg:=h.pg;obtain⟨k,km,_⟩:=Ap.put_keep (a.addSum b) f b;have km:((a.addSum b).put f b).a.made=a.made+1:=km;unfold Ap.stepB;rw[hst];simp only;by_cases hbd:(a.addSum b).made=(a.addSum b).length
 ·rw[if_pos hbd];exact .inr ⟨2,rfl,h.refuse (.inl rfl)⟩
 ·rw[if_neg hbd];have hbd':a.made≠a.length:=hbd;rcases Ap.put_inv hbody b (by show a.made<_;omega) with⟨e1,e2,e3⟩ | ⟨e1,e2⟩
  ·simp only[e1];have kl:((a.addSum b).put f b).a.length=a.length:=k.length;have kp:=e2.fi.pages;have kp2:=hbody.fi.pages;refine Ap.more_inv e2 (k.fault.trans h.nofault) (k.digits.trans hd) ?_ ?_ ?_ ?_ ?_ ?_ ?_
   ·rw[kl,kp,←kp2];exact hlp
   ·omega
   ·rw[k.size,k.old];exact hsz
   ·rw[k.op];exact h.op
   ·omega
   ·rw[k.old];exact h.oldl
   ·rw[kp,←kp2];exact hpg
  ·simp only[e1];exact .inr ⟨7,rfl,e2.er (by omega)⟩
theorem step_fin {f0 f:Fl}{R0:Nat}{out:List UInt8}{a:Ap}(h:Inv f0 R0 out a f)(b:UInt8)(hst:a.st=.fin) :
  ((a.stepB f b).err=none/\Inv f0 R0 (out++a.emit f b) (a.stepB f b).next (a.stepB f b).f)\/∃e,(a.stepB f b).err=some e/\Er f0 R0 e (a.stepB f b).f:=by
 have hem:a.emit f b=[]:=by unfold Ap.emit;rw[hst]
 obtain⟨k,k1,k2,k3⟩:=Ap.fixed_keep a b;rw[hem,List.append_nil];have hd:=h.dig;have hrd:=h.rd;rw[hst] at hd hrd;have hd:0<=a.digits/\a.digits<=3:=hd;have hrd:f.reads<=R0+a.made+4096:=hrd;have hdn:=h.done (by rw[hst];rfl);have hsz:=h.size (by rw[hst];rfl);have mk:∀(r:R),r.a.fault=a.fault->r.a.length=a.length->r.a.made=a.made->r.a.size=a.size->r.a.op=a.op->(r.st=.fin\/r.st=.over)->digOk r.st r.a.digits->Inv f0 R0 out r.next f:=by
  intro r r1 r2 r3 r4 r5 r6 r7;have z1:isEarly r.st=false/\unread r.st=false/\toCome r.st=false/\counts r.st=false/\ended r.st=true:=by rcases r6 with e | e<;>rw[e]<;>exact⟨rfl,rfl,rfl,rfl,rfl⟩
  obtain⟨y1,y2,y3,y4,y5⟩:=z1;refine⟨r1.trans h.nofault,r7,?_,r3.trans h.made,?_,λx=>?_,λ_=>r4.trans hsz,?_,λx=>?_,λx=>?_,λx=>?_,λ_=>⟨?_,hdn.2.of r3⟩,?_,h.oldl,h.pg⟩
  ·show r.a.length<=_;rw[r2];exact h.lp
  ·show r.a.made<=r.a.length;rw[r2,r3];exact h.ml
  ·have:isEarly r.st=true:=x;rw[y1] at this;cases this
  ·show r.a.op<=2;rw[r5];exact h.op
  ·have:toCome r.st=true:=x;rw[y3] at this;cases this
  ·have:counts r.st=true:=x;rw[y4] at this;cases this
  ·have:ended r.st=false:=x;rw[y5] at this;cases this
  ·show r.a.made=r.a.length;rw[r2,r3];exact hdn.1
  ·show f.reads<=R0+r.a.made+if unread r.st then 0 else 4096
   rw[y2,r3];exact hrd
 unfold Ap.stepB;rw[hst];simp only;cases hw:(a.fixed b).whole with
 | false=>
  left;obtain⟨w1,w2⟩:=k2 hw;exact⟨rfl,mk _ k.fault k.length k.made k.size k.op (.inl rfl) ⟨by show 0<=(a.fixed b).a.digits;omega,by show (a.fixed b).a.digits<=3;omega⟩⟩
 | true=>
  simp only[if_true];split
  ·exact .inr ⟨2,rfl,h.refuse (.inl rfl)⟩
  ·exact .inl ⟨rfl,mk { err:=none,st:=.over,a:={ (a.fixed b).a with digits:=-1 },f } k.fault k.length k.made k.size k.op (.inr rfl) rfl⟩
theorem Inv.step {f0 f:Fl}{R0:Nat}{out:List UInt8}{a:Ap}(h:Inv f0 R0 out a f)(b:UInt8) :
  ((a.stepB f b).err=none/\Inv f0 R0 (out++a.emit f b) (a.stepB f b).next (a.stepB f b).f)\/∃e,(a.stepB f b).err=some e/\Er f0 R0 e (a.stepB f b).f:=by
 cases hst:a.st with
 | oldSize=>exact step_oldSize h b hst
 | oldSum=>exact step_oldSum h b hst
 | newSize=>exact step_newSize h b hst
 | step=>exact step_step h b hst
 | counted=>exact step_counted h b hst
 | own=>exact step_own h b hst
 | place=>exact step_place h b hst
 | beside=>exact step_beside h b hst
 | fin=>exact step_fin h b hst
 | over=>
  right;unfold Ap.stepB;rw[hst];exact⟨6,rfl,h.refuse (.inr (.inr (.inr rfl)))⟩
/- The model: what is fed, whatever it is; and the end. -/
inductive Stt (f0:Fl) (R0:Nat) (x:AF):Prop
 | ok (out:List UInt8) (h:Inv f0 R0 out x.a x.f)
 | bad (e:Nat) (hf:x.a.fault=if e=7 then .errno 7 else .wrapped e) (h:Er f0 R0 e x.f)
theorem byte_bad {x:AF}(h:x.a.fault≠.none)(b:UInt8):x.byte b=x:=by unfold AF.byte;rw[if_pos h]
theorem feed_bad {x:AF}(h:x.a.fault≠.none)(l:List UInt8):x.feed l=x:=by
 induction l with
 | nil=>rfl
 | cons b l ih=>show AF.feed (x.byte b) l=x;rw[byte_bad h];exact ih
theorem feed_app (x:AF)(l m:List UInt8):x.feed (l++m)=(x.feed l).feed m:=List.foldl_append ..
theorem feed_cons (x:AF)(b:UInt8)(l:List UInt8):x.feed (b :: l)=(x.byte b).feed l:=rfl
theorem byte_ok {x:AF}(hf:x.a.fault=.none){b:UInt8}(he:(x.a.stepB x.f b).err=none):x.byte b = { a:=(x.a.stepB x.f b).next,f:=(x.a.stepB x.f b).f }:=by
 unfold AF.byte;rw[if_neg (by rw[hf];simp)];simp only[he];rfl
theorem byte_err {x:AF}(hf:x.a.fault=.none){b:UInt8}{e:Nat}(he:(x.a.stepB x.f b).err=some e):x.byte b = { a:={ (x.a.stepB x.f b).a with fault:=if e=7 then .errno 7 else .wrapped e },f:=(x.a.stepB x.f b).f }:=by
 unfold AF.byte;rw[if_neg (by rw[hf];simp)];simp only[he]
theorem Stt.byte {f0:Fl}{R0:Nat}{x:AF}(h:Stt f0 R0 x)(b:UInt8):Stt f0 R0 (x.byte b):=by
 cases h with
 | ok out h=>
  rcases h.step b with⟨e1,e2⟩|⟨e,e1,e2⟩
  ·rw[byte_ok h.nofault e1];exact .ok _ e2
  ·rw[byte_err h.nofault e1];exact .bad e rfl e2
 | bad e hf h=>rw[byte_bad (by rw[hf];split<;>simp)];exact .bad e hf h
theorem Stt.feed {f0:Fl}{R0:Nat}{x:AF}(h:Stt f0 R0 x)(l:List UInt8):Stt f0 R0 (x.feed l):=by
 induction l generalizing x with
 | nil=>exact h
 | cons b l ih=>exact ih (h.byte b)
theorem Inv.init (f:Fl)(h1:f.old.length<=4096)(h2:f.pages<=64):Inv f f.reads [] Ap.init f:=
 ⟨rfl,.inl rfl,Nat.zero_le _,rfl,Nat.le_refl _,λ_=>⟨rfl,rfl⟩,λh=>(by cases h),Nat.zero_le _,λh=>(by cases h),λh=>(by cases h),λ_=>⟨FI.refl f,rfl,rfl,λi hi=>(by simp[Ap.init] at hi),λi hi=>(by simp[Ap.init] at hi)⟩,λh=>(by cases h),Nat.le_refl _,h1,h2⟩
theorem fin_bad {x:AF}(h:x.a.fault≠.none):x.finish = { fault:=x.a.fault,x }:=by unfold AF.finish;rw[if_pos h]
theorem fin_short {x:AF}(h:x.a.fault=.none)(hd:x.a.digits≠-1):x.finish = { fault:=.errno 5,x:={ x with a:={ x.a with fault:=.errno 5 } } }:=by
 unfold AF.finish;rw[if_neg (by rw[h];simp),if_pos hd]
theorem Inv.over {f0 f:Fl}{R0:Nat}{out:List UInt8}{a:Ap}(h:Inv f0 R0 out a f)(hd:a.digits = -1):a.st=.over:=by
 have:=h.dig;rw[hd] at this;cases hs:a.st<;>rw[hs] at this<;>simp[digOk] at this
theorem Inv.over' {f0 f:Fl}{R0:Nat}{out:List UInt8}{a:Ap}(h:Inv f0 R0 out a f)(hd:a.st=.over):a.digits = -1:=by
 have:=h.dig;rw[hd] at this;exact this
inductive FinS (f0:Fl) (R0:Nat) (x:AF) (y:FinR):Prop
 | done (out:List UInt8) (h:Inv f0 R0 out x.a x.f) (hs:x.a.st=.over) (hf:y.fault=.none) (ha:y.x.a = { x.a with fault:=.errno 9 }) (hfl:y.x.f = { x.f.cut with events:=x.f.events++[(2,out.length)],length:=out.length,committed:=true }) (hw:x.f.wait≠0)
 | short (out:List UInt8) (h:Inv f0 R0 out x.a x.f) (hs:x.a.st≠.over) (hf:y.fault=.errno 5) (ha:y.x.a = { x.a with fault:=.errno 5 }) (hfl:y.x.f=x.f)
 | pow (out:List UInt8) (h:Inv f0 R0 out x.a x.f) (hw:x.f.wait=0) (hw0:0<=f0.wait) (hf:y.fault=.errno 7) (ha:y.x.a = { x.a with fault:=.errno 7 }) (hfl:y.x.f=x.f)
 | bad (e:Nat) (hx:x.a.fault=if e=7 then .errno 7 else .wrapped e) (h:Er f0 R0 e x.f) (hf:y.fault=x.a.fault) (hy:y.x=x)
theorem Stt.finish {f0:Fl}{R0:Nat}{x:AF}(h:Stt f0 R0 x):FinS f0 R0 x x.finish:=by
 cases h with
 | bad e hf h=>
  have:=fin_bad (x:=x) (by rw[hf];split<;>simp);rw[this];exact .bad e hf h rfl rfl
 | ok out h=>
  by_cases hd:x.a.digits = -1
  ·have hs:=h.over hd;obtain⟨hl,hD⟩:=h.done (by rw[hs];rfl);have hlp:=h.lp;have e:x.finish=match (x.f.commit x.a.length).err with
     | some e=>{ fault:=.errno e,x:={ a:={ x.a with fault:=.errno e },f:=(x.f.commit x.a.length).f } }
     | none=>{ fault:=.none,x:={ a:={ x.a with fault:=.errno 9 },f:=(x.f.commit x.a.length).f } }:=by
    unfold AF.finish;rw[if_neg (by rw[h.nofault];simp),if_neg (by simpa using hd)];rfl
   have hfl:¬x.f.fresh.length<x.a.length:=by unfold Fl.pages at hlp;omega
   rw[e];have hlo:x.a.length=out.length:=by rw[←hl,h.made]
   unfold Fl.commit;rw[if_neg hfl];cases hc:x.f.cutB with
   | true=>
    obtain⟨c1,c2⟩:=Fl.cut_cutB _ hc;exact .pow out h c2 (hD.fi.cutB0 hc) rfl rfl c1
   | false=>
    simp only[Bool.false_eq_true,if_false];refine .done out h hs rfl rfl ?_ ?_
    ·show ({ x.f.cut with events:=x.f.events++[(2,x.a.length)],length:=x.a.length,committed:=true }:Fl)=_;rw[hlo]
    ·unfold Fl.cutB at hc;simpa using hc
  ·rw[fin_short h.nofault hd];exact .short out h (λhs=>hd (h.over' hs)) rfl rfl rfl
theorem DI.image {f0 f:Fl}{out:List UInt8}{a:Ap}(h:DI f0 out a f):f.fresh.take out.length=out:=by
 apply List.ext_getElem?;intro i;rw[List.getElem?_take];by_cases hi:i<out.length
 ·rw[if_pos hi,h.fr i (by rw[h.made];exact hi)]
 ·rw[if_neg hi,List.getElem?_eq_none (by omega)]
def Fl.apply (f:Fl)(l:List UInt8):FinR:=(AF.feed { a:=Ap.init,f } l).finish
theorem init_stt (f:Fl)(h1:f.old.length<=4096)(h2:f.pages<=64):Stt f f.reads { a:=Ap.init,f }:=.ok [] (Inv.init f h1 h2)
/- The model: a patch that is right is taken. -/
def num (n:Nat):List UInt8:=if n<128 then [UInt8.ofNat n] else [UInt8.ofNat (n%128+128),UInt8.ofNat (n/128)]
def be32 (n:Nat):List UInt8:=[UInt8.ofNat (n/16777216),UInt8.ofNat (n/65536),UInt8.ofNat (n/256),UInt8.ofNat n]
inductive Stp
 | own (l:List UInt8)
 | copy (n p:Nat)
 | beside (n:Nat) (b:UInt8)
def Stp.enc:Stp->List UInt8
 | .own l=>0 :: num l.length++l
 | .copy n p=>1 :: num n++num p
 | .beside n b=>2 :: num n++[b]
def encs:List Stp->List UInt8
 | []=>[]
 | s :: l=>s.enc++encs l
theorem encs_app (l m:List Stp):encs (l++m)=encs l++encs m:=by
 induction l with
 | nil=>rfl
 | cons s l ih=>simp[encs,ih]
def Stp.out (old out:List UInt8):Stp->List UInt8
 | .own l=>l
 | .copy n p=>(old.drop p).take n
 | .beside n b=>(old.drop out.length).take n++[b]
def Stp.ok (old out:List UInt8):Stp->Prop
 | .own l=>0<l.length
 | .copy n p=>0<n/\p+n<=old.length
 | .beside n _=>out.length+n<=old.length
inductive Leads (old new:List UInt8):List UInt8->List Stp->Prop
 | nil:Leads old new new []
 | cons {out:List UInt8} {s:Stp} {l:List Stp} (h:s.ok old out) (hl:Leads old new (out++s.out old out) l):Leads old new out (s :: l)
def headOf (old:List UInt8)(n:Nat):List UInt8:=num old.length++be32 (sumAdd 0 old)++num n
def bodyOf (old:List UInt8)(n:Nat)(l:List Stp):List UInt8:=headOf old n++encs l
def patchOf (old:List UInt8)(n:Nat)(l:List Stp):List UInt8:=bodyOf old n l++be32 (sumAdd 0 (bodyOf old n l))
theorem toNat_ofNat (n:Nat):(UInt8.ofNat n).toNat=n%256:=by simp
theorem or_mul128 (m q:Nat)(hm:m<128):m ||| (q*128)=q*128+m:=by
 rw[Nat.or_comm];have:=Nat.two_pow_add_eq_or_of_lt (i:=7) (b:=m) hm q;rw[Nat.mul_comm q 128];exact this.symm
structure NumAt (f0:Fl) (R0:Nat) (out:List UInt8) (x:AF) (n:Nat) (l:List UInt8) (a1:Ap) (b:UInt8):Prop where
 fed:x.feed l=(AF.mk a1 x.f).byte b
 inv:Inv f0 R0 out a1 x.f
 st:a1.st=x.a.st
 made:a1.made=x.a.made
 length:a1.length=x.a.length
 op:a1.op=x.a.op
 count:a1.count=x.a.count
 size:a1.size=x.a.size
 whole:(a1.number b).whole=true
 value:(a1.number b).a.value=n
 sum:(a1.number b).a.sum=sumAdd x.a.sum l
def isNum:St->Bool
 | .oldSize | .newSize | .counted | .place=>true
 | _=>false
theorem isNum_iff {s:St}(h:isNum s=true)(d:Int):digOk s d↔d=0\/d=1:=by
 cases s<;>first | exact absurd h (by decide) | exact Iff.rfl
theorem num_feed {f0:Fl}{R0:Nat}{out:List UInt8}{x:AF}(h:Inv f0 R0 out x.a x.f)(n:Nat)(hn:n<=4096)(hs:isNum x.a.st=true)(hd:x.a.digits=0):∃a1 b,NumAt f0 R0 out x n (num n) a1 b:=by
 unfold num;by_cases h1:n<128
 ·rw[if_pos h1];have hb:(UInt8.ofNat n).toNat=n:=by rw[toNat_ofNat];omega
  have e:x.a.number (UInt8.ofNat n) = { whole:=true,err:=none,a:={ x.a.addSum (UInt8.ofNat n) with digits:=0,value:=n } }:=by
   unfold Ap.number;simp only[hb];rw[if_neg (by omega)];have hd':(x.a.addSum (UInt8.ofNat n)).digits=0:=hd;have:x.a.digits+1=1:=by omega
   simp only[this,if_true];rw[if_neg (by omega)]
  exact⟨x.a,UInt8.ofNat n,rfl,h,rfl,rfl,rfl,rfl,rfl,rfl,by rw[e],by rw[e],by rw[e];rfl⟩
 ·rw[if_neg h1];have hb:(UInt8.ofNat (n%128+128)).toNat=n%128+128:=by rw[toNat_ofNat];omega
  have hb2:(UInt8.ofNat (n/128)).toNat=n/128:=by rw[toNat_ofNat];omega
  have ha:(n%128+128) &&& 127=n%128:=by
   have:(127:Nat)=2 ^ 7-1:=rfl;rw[this,Nat.and_two_pow_sub_one_eq_mod];omega
  have e:x.a.number (UInt8.ofNat (n%128+128)) = { whole:=false,err:=none,a:={ x.a.addSum (UInt8.ofNat (n%128+128)) with digits:=1,value:=n%128 } }:=by
   unfold Ap.number;simp only[hb];have:x.a.digits+1=1:=by omega
   rw[if_pos (by omega)];simp only[ha,this]
  have hstep:x.a.stepB x.f (UInt8.ofNat (n%128+128)) = { err:=none,st:=x.a.st,a:=(x.a.number (UInt8.ofNat (n%128+128))).a,f:=x.f }:=by
   unfold Ap.stepB;cases hst:x.a.st<;>rw[hst] at hs<;>first | exact absurd hs (by decide) | (simp only[e];rfl)
  have hby:=byte_ok h.nofault (b:=UInt8.ofNat (n%128+128)) (by rw[hstep]);have hinv:Inv f0 R0 out (x.byte (UInt8.ofNat (n%128+128))).a x.f:=by
   rcases h.part (UInt8.ofNat (n%128+128)) (by rw[e]) (isNum_iff hs) with⟨_,q⟩|⟨y,q,_⟩
   ·rw[List.append_nil] at q;rw[hby,hstep];exact q
   ·rw[e] at q;cases q
  rw[hstep,e] at hby;have e2:(x.byte (UInt8.ofNat (n%128+128))).a.number (UInt8.ofNat (n/128)) = { whole:=true,err:=none,a:={ (x.byte (UInt8.ofNat (n%128+128))).a.addSum (UInt8.ofNat (n/128)) with digits:=0,value:=n } }:=by
   rw[hby];unfold Ap.number;simp only[hb2];have q:n%128 ||| n/128*128=n:=by rw[or_mul128 _ _ (by omega)];omega
   have q1:¬((1:Int)+1=1):=by omega
   simp only[R.next,Ap.addSum,q,q1,if_false,false_and];rw[if_neg (by omega)]
  refine⟨(x.byte (UInt8.ofNat (n%128+128))).a,UInt8.ofNat (n/128),?_,hinv,?_,?_,?_,?_,?_,?_,by rw[e2],by rw[e2],?_⟩
  ·show (x.byte _).byte _=_;rw[hby]
  ·rw[hby];rfl
  ·rw[hby];rfl
  ·rw[hby];rfl
  ·rw[hby];rfl
  ·rw[hby];rfl
  ·rw[hby];rfl
  ·rw[e2,hby];show sumAdd (sumAdd x.a.sum [_]) [_]=_;rw[sumAdd_app];rfl
theorem or256 (q m:Nat)(hm:m<256):q*256 ||| m=q*256+m:=by
 have:=Nat.two_pow_add_eq_or_of_lt (i:=8) (b:=m) hm q;rw[Nat.mul_comm q 256];exact this.symm
structure Bd (f0:Fl) (R0 S N:Nat) (out:List UInt8) (x:AF):Prop where
 inv:Inv f0 R0 out x.a x.f
 dig:x.a.digits=0
 sum:x.a.sum=S
 len:x.a.length=N
 st:x.a.st=if out.length<N then .step else .fin
theorem quiet7 {f0:Fl}{R0:Nat}{out out':List UInt8}{x:AF}{b:UInt8}(hw:f0.wait<0)(h:Inv f0 R0 out x.a x.f)(he:(x.a.stepB x.f b).err=none\/(x.a.stepB x.f b).err=some 7)(hem:out++x.a.emit x.f b=out') :
  x.byte b = { a:=(x.a.stepB x.f b).next,f:=(x.a.stepB x.f b).f }/\(x.a.stepB x.f b).err=none/\Inv f0 R0 out' (x.byte b).a (x.byte b).f:=by
 have key:(x.a.stepB x.f b).err=none/\Inv f0 R0 out' (x.a.stepB x.f b).next (x.a.stepB x.f b).f:=by
  rcases h.step b with⟨e1,e2⟩|⟨e,e1,e2⟩
  ·rw[hem] at e2;exact⟨e1,e2⟩
  ·exfalso;rcases he with he|he
   ·rw[he] at e1;cases e1
   ·rw[he] at e1;cases e1;have:=e2.num;omega
 have:=byte_ok h.nofault key.1;exact⟨this,key.1,by rw[this];exact key.2⟩
theorem more_keep (a:Ap)(f:Fl)(hP:∃f0 out,PI f0 out a f)(hle:a.made<=f.pages*64):(a.more f).st=(if a.made<a.length then .step else .fin)/\(a.more f).a.digits=a.digits/\(a.more f).a.sum=a.sum/\(a.more f).a.length=a.length/\((a.more f).err=none\/(a.more f).err=some 7):=by
 obtain⟨f0,out,hP⟩:=hP;unfold Ap.more;by_cases h:a.made<a.length
 ·rw[if_pos h,if_pos h];exact⟨rfl,rfl,rfl,rfl,.inl rfl⟩
 ·rw[if_neg h,if_neg h];have hk:Keep a f (a.flush f).a (a.flush f).f 2 0:=by
   unfold Ap.flush;split
   ·exact(Ap.write_keep a f (a.made/64) (a.made%64)).1
   ·exact(Keep.refl a f).mono (Nat.zero_le 2) (Nat.le_refl 0)
  refine⟨rfl,hk.digits,hk.sum,hk.length,?_⟩;rcases Ap.flush_inv hP hle with⟨e,_⟩|⟨e,_⟩
  ·exact .inl e
  ·exact .inr e
/- The model: the steps of a patch that is right. -/
section
variable {f0:Fl} {R0 S N:Nat} {out:List UInt8} {x:AF}
theorem emit_st {a:Ap}{f:Fl}{b:UInt8}(h:a.st=.oldSize\/a.st=.oldSum\/a.st=.newSize\/a.st=.step\/a.st=.fin\/a.st=.over):a.emit f b=[]:=by
 unfold Ap.emit;rcases h with h | h | h | h | h | h<;>rw[h]
theorem op_byte (hw:f0.wait<0)(h:Bd f0 R0 S N out x)(hlt:out.length<N)(k:Nat)(hk:k<=2) :
  Inv f0 R0 out (x.byte (UInt8.ofNat k)).a (x.byte (UInt8.ofNat k)).f/\(x.byte (UInt8.ofNat k)).a.st=.counted/\(x.byte (UInt8.ofNat k)).a.op=k/\(x.byte (UInt8.ofNat k)).a.digits=0/\
   (x.byte (UInt8.ofNat k)).a.sum=sumAdd S [UInt8.ofNat k]/\(x.byte (UInt8.ofNat k)).a.length=N:=by
 have hst:=h.st;rw[if_pos hlt] at hst;have hb:(UInt8.ofNat k).toNat=k:=by rw[toNat_ofNat];omega
 have e:x.a.stepB x.f (UInt8.ofNat k) = { err:=none,st:=.counted,a:={ x.a.addSum (UInt8.ofNat k) with op:=k },f:=x.f }:=by
  unfold Ap.stepB;rw[hst];simp only[hb];rw[if_neg (by omega)]
 obtain⟨q1,q2,q3⟩:=quiet7 (out':=out) (b:=UInt8.ofNat k) hw h.inv (.inl (by rw[e])) (by rw[emit_st (by simp[hst]),List.append_nil]);refine⟨q3,?_⟩;rw[q1,e];exact⟨rfl,rfl,h.dig,by show sumAdd x.a.sum _=_;rw[h.sum],h.len⟩
theorem own_bytes (hw:f0.wait<0):∀(l:List UInt8) {S:Nat} {out:List UInt8} {x:AF},Inv f0 R0 out x.a x.f->x.a.st=.own->x.a.count=l.length->0<l.length->x.a.digits=0->x.a.sum=S->x.a.length=N->
  Bd f0 R0 (sumAdd S l) N (out++l) (x.feed l):=by
 intro l;induction l with
 | nil=>intro S out x _ _ _ h;cases h
 | cons b l ih=>
  intro S out x h hst hc _ hd hs hl;have hbody:PI f0 out (x.a.addSum b) x.f:=(h.body (by rw[hst];rfl)).of rfl rfl;obtain⟨hc0,hc1⟩:=h.count (by rw[hst];rfl);have hlp:=h.lp;obtain⟨k,km,_⟩:=Ap.put_keep (x.a.addSum b) x.f b;have kp:((x.a.addSum b).put x.f b).err=none\/((x.a.addSum b).put x.f b).err=some 7:=by
   rcases Ap.put_inv hbody b (by show x.a.made<_;omega) with⟨e,_⟩ | ⟨e,_⟩
   ·exact .inl e
   ·exact .inr e
  have hem:out++x.a.emit x.f b=out++[b]:=by unfold Ap.emit;rw[hst]
  have km:((x.a.addSum b).put x.f b).a.made=x.a.made+1:=km;have kl:((x.a.addSum b).put x.f b).a.length=x.a.length:=k.length;have kc:((x.a.addSum b).put x.f b).a.count=x.a.count:=k.count;have ks:((x.a.addSum b).put x.f b).a.sum=sumAdd x.a.sum [b]:=k.sum;have kd:((x.a.addSum b).put x.f b).a.digits=x.a.digits:=k.digits;simp only[List.length_cons] at hc;have e0:x.a.stepB x.f b=match ((x.a.addSum b).put x.f b).err with
    | some e=>{ err:=some e,st:=.own,a:=((x.a.addSum b).put x.f b).a,f:=((x.a.addSum b).put x.f b).f }
    | none=>if 0<((x.a.addSum b).put x.f b).a.count-1 then { err:=none,st:=.own,a:={ ((x.a.addSum b).put x.f b).a with count:=((x.a.addSum b).put x.f b).a.count-1 },f:=((x.a.addSum b).put x.f b).f }
      else ({ ((x.a.addSum b).put x.f b).a with count:=((x.a.addSum b).put x.f b).a.count-1 }:Ap).more ((x.a.addSum b).put x.f b).f:=by
   unfold Ap.stepB;rw[hst];rfl
  rcases kp with kp|kp
  ·have hP:PI f0 (out++[b]) ((x.a.addSum b).put x.f b).a ((x.a.addSum b).put x.f b).f:=by
    rcases Ap.put_inv hbody b (by show x.a.made<_;omega) with⟨_,e,_⟩ | ⟨e,_⟩
    ·exact e
    ·rw[kp] at e;cases e
   rw[kp] at e0;simp only at e0;by_cases hmore:0<l.length
   ·rw[if_pos (by omega)] at e0;obtain⟨q1,q2,q3⟩:=quiet7 (b:=b) hw h (.inl (by rw[e0])) hem;have:=ih (S:=sumAdd S [b]) q3 (by rw[q1,e0];rfl) (by rw[q1,e0];show ((x.a.addSum b).put x.f b).a.count-1=_;omega) hmore (by rw[q1,e0];exact kd.trans hd) (by rw[q1,e0];exact ks.trans (by rw[hs])) (by rw[q1,e0];exact kl.trans hl);rw[sumAdd_app,List.append_assoc] at this;exact this
   ·obtain rfl:l=[]:=List.eq_nil_of_length_eq_zero (by omega);rw[if_neg (by simp at hc;omega)] at e0;obtain⟨m1,m2,m3,m4,m5⟩:=more_keep { ((x.a.addSum b).put x.f b).a with count:=((x.a.addSum b).put x.f b).a.count-1 } ((x.a.addSum b).put x.f b).f ⟨f0,out++[b],hP.of rfl rfl⟩ (by show ((x.a.addSum b).put x.f b).a.made<=_;rw[hP.fi.pages,←hbody.fi.pages];omega);obtain⟨q1,q2,q3⟩:=quiet7 (b:=b) hw h (by rw[e0];exact m5) hem;have hmd:=q3.made;refine⟨q3,?_,?_,?_,?_⟩
    ·show (x.byte b).a.digits=0;rw[q1,e0];exact m2.trans (kd.trans hd)
    ·show (x.byte b).a.sum=_;rw[q1,e0];exact m3.trans (ks.trans (by rw[hs]))
    ·show (x.byte b).a.length=_;rw[q1,e0];exact m4.trans (kl.trans hl)
    ·show (x.byte b).a.st=_;rw[q1,e0];refine m1.trans ?_;have h1:=hP.made;show (if ((x.a.addSum b).put x.f b).a.made<((x.a.addSum b).put x.f b).a.length then St.step else St.fin)=_;rw[h1,kl,hl]
  ·exfalso;obtain⟨q1,q2,q3⟩:=quiet7 (b:=b) hw h (.inr (by rw[e0,kp])) hem;rw[e0,kp] at q2;cases q2
theorem op_num (hw:f0.wait<0)(h:Bd f0 R0 S N out x)(hlt:out.length<N)(k:Nat)(hk:k<=2)(n:Nat)(hn:n<=4096) :
  ∃(y:AF) (b:UInt8),x.feed (UInt8.ofNat k :: num n)=y.byte b/\Inv f0 R0 out y.a y.f/\y.a.st=.counted/\y.a.op=k/\y.a.length=N/\y.a.made=out.length/\(y.a.number b).whole=true/\(y.a.number b).a.value=n/\(y.a.number b).a.sum=sumAdd S (UInt8.ofNat k :: num n):=by
 obtain⟨q1,q2,q3,q4,q5,q6⟩:=op_byte hw h hlt k hk;obtain⟨a1,b,hN⟩:=num_feed q1 n hn (by rw[q2];rfl) q4;refine⟨⟨a1,(x.byte (UInt8.ofNat k)).f⟩,b,hN.fed,hN.inv,hN.st.trans q2,hN.op.trans q3,hN.length.trans q6,hN.inv.made,hN.whole,hN.value,?_⟩;show (a1.number b).a.sum=_;rw[hN.sum,q5,sumAdd_app];rfl
theorem step_own_ok (hw:f0.wait<0)(h:Bd f0 R0 S N out x)(l:List UInt8)(hl:0<l.length)(hle:out.length+l.length<=N):Bd f0 R0 (sumAdd S (Stp.own l).enc) N (out++l) (x.feed (Stp.own l).enc):=by
 have hN:N<=4096:=by have:=h.inv.lp;have:=h.inv.pg;have:=h.len;omega
 obtain⟨y,b,e1,e2,e3,e4,e5,e6,e7,e8,e9⟩:=op_num hw h (by omega) 0 (by omega) l.length (by omega);have key:(y.a.number b).err=none/\(y.a.number b).a.digits=0:=by obtain⟨_,k1,_⟩:=Ap.number_keep y.a b;exact⟨(k1 e7).1,(k1 e7).2.2⟩
 obtain⟨kk,_⟩:=Ap.number_keep y.a b;have kl:=kk.length;have km:=kk.made;have ko:=kk.op;have es:y.a.stepB y.f b = { err:=none,st:=.own,a:={ (y.a.number b).a with count:=l.length },f:=y.f }:=by
  unfold Ap.stepB;rw[e3];simp only[e7,if_true,e8];rw[if_neg (by omega),if_pos (by omega)]
 obtain⟨q1,q2,q3⟩:=quiet7 (out':=out) (b:=b) hw e2 (.inl (by rw[es])) (by unfold Ap.emit;rw[e3];simp only[e4];rw[if_neg (by omega),List.append_nil]);have:=own_bytes (N:=N) hw l q3 (by rw[q1,es];rfl) (by rw[q1,es];rfl) hl (by rw[q1,es];exact key.2) rfl (by rw[q1,es];exact kl.trans e5);have hs:(y.byte b).a.sum=sumAdd S (UInt8.ofNat 0 :: num l.length):=by rw[q1,es];exact e9
 rw[hs,sumAdd_app,←e1,←feed_app] at this;exact this
theorem step_copy_ok (hw:f0.wait<0)(h:Bd f0 R0 S N out x)(n p:Nat)(hn:0<n)(hp:p+n<=f0.old.length)(hle:out.length+n<=N):Bd f0 R0 (sumAdd S (Stp.copy n p).enc) N (out++(f0.old.drop p).take n) (x.feed (Stp.copy n p).enc):=by
 have hN:N<=4096:=by have:=h.inv.lp;have:=h.inv.pg;have:=h.len;omega
 have hold:x.f.old=f0.old:=by obtain⟨j,hj⟩:=h.inv.fi;exact hj.old
 have hol:=h.inv.oldl;rw[hold] at hol;obtain⟨y,b,e1,e2,e3,e4,e5,e6,e7,e8,e9⟩:=op_num hw h (by omega) 1 (by omega) n (by omega);have key:(y.a.number b).err=none/\(y.a.number b).a.digits=0:=by obtain⟨_,k1,_⟩:=Ap.number_keep y.a b;exact⟨(k1 e7).1,(k1 e7).2.2⟩
 obtain⟨kk,_⟩:=Ap.number_keep y.a b;have kl:=kk.length;have km:=kk.made;have ko:=kk.op;have es:y.a.stepB y.f b = { err:=none,st:=.place,a:={ (y.a.number b).a with count:=n },f:=y.f }:=by
  unfold Ap.stepB;rw[e3];simp only[e7,if_true,e8];rw[if_neg (by omega),if_neg (by omega),if_pos (by omega)]
 obtain⟨q1,q2,q3⟩:=quiet7 (out':=out) (b:=b) hw e2 (.inl (by rw[es])) (by unfold Ap.emit;rw[e3];simp only[e4];rw[if_neg (by omega),List.append_nil]);obtain⟨a1,b1,hM⟩:=num_feed q3 p (by omega) (by rw[q1,es];rfl) (by rw[q1,es];exact key.2);have s1:a1.st=.place:=hM.st.trans (by rw[q1,es];rfl);have s2:a1.count=n:=hM.count.trans (by rw[q1,es];rfl);have s3:a1.length=N:=hM.length.trans (by rw[q1,es];exact kl.trans e5);have s4:(a1.number b1).a.sum=sumAdd (sumAdd S (UInt8.ofNat 1 :: num n)) (num p):=hM.sum.trans (by rw[q1,es];show sumAdd (y.a.number b).a.sum _=_;rw[e9]);generalize hy2:y.byte b=y2 at q3 hM;have hold2:y2.f.old=f0.old:=by obtain⟨j,hj⟩:=q3.fi;exact hj.old
 obtain⟨k2,k21,_⟩:=Ap.number_keep a1 b1;obtain⟨z1,z2,z3⟩:=k21 hM.whole;have hiv:Inv f0 R0 out a1 y2.f:=hM.inv;have hmade:=hiv.made;have hlp:=hiv.lp;have hP:PI f0 out (a1.number b1).a y2.f:=(hiv.body (by rw[s1];rfl)).of k2.made k2.page;have hval:=hM.value;have kcount:=k2.count;have kmade:=k2.made;have klen:=k2.length;have kst:=k2.st;have hck:=Ap.copy_keep (a1.number b1).a y2.f (a1.number b1).a.value (a1.number b1).a.count;have e0:a1.stepB y2.f b1=match ((a1.number b1).a.copy y2.f (a1.number b1).a.value (a1.number b1).a.count).err with
   | some e=>{ err:=some e,st:=.place,a:=((a1.number b1).a.copy y2.f (a1.number b1).a.value (a1.number b1).a.count).a,f:=((a1.number b1).a.copy y2.f (a1.number b1).a.value (a1.number b1).a.count).f }
   | none=>((a1.number b1).a.copy y2.f (a1.number b1).a.value (a1.number b1).a.count).a.more ((a1.number b1).a.copy y2.f (a1.number b1).a.value (a1.number b1).a.count).f:=by
  unfold Ap.stepB;rw[s1];simp only[hM.whole,if_true];rfl
 have hsz:(a1.number b1).a.size=y2.f.old.length:=k2.size.trans (hiv.size (by rw[s1];rfl));have hem:out++a1.emit y2.f b1=out++(f0.old.drop p).take n:=by unfold Ap.emit;rw[s1];simp only[hM.whole,if_true,s2,hval,hold2]
 have hfin:x.feed (Stp.copy n p).enc=(AF.mk a1 y2.f).byte b1:=by
  show x.feed ((UInt8.ofNat 1 :: num n)++num p)=_;rw[feed_app,e1,hy2];exact hM.fed
 rcases Ap.copy_inv (a1.number b1).a.value (a1.number b1).a.count hP (by omega) hsz with⟨c1,c2,c3,c4⟩|⟨c1,c2⟩|⟨c1,c2⟩
 ·rw[c1] at e0;simp only at e0;obtain⟨g1,g2,g3⟩:=hck;have g3:=g3 c1;obtain⟨m1,m2,m3,m4,m5⟩:=more_keep _ _ ⟨_,_,c3⟩ (by rw[g3,c3.fi.pages,←hP.fi.pages];omega);obtain⟨v1,v2,v3⟩:=quiet7 (x:=AF.mk a1 y2.f) (b:=b1) hw hM.inv (by show (a1.stepB y2.f b1).err=none\/_;rw[e0];exact m5) hem;rw[hfin];refine⟨v3,?_,?_,?_,?_⟩
  ·rw[v1];show (a1.stepB y2.f b1).a.digits=0;rw[e0,m2,g1.digits];exact z3
  ·rw[v1];show (a1.stepB y2.f b1).a.sum=_;rw[e0,m3,g1.sum,s4,sumAdd_app];rfl
  ·rw[v1];show (a1.stepB y2.f b1).a.length=_;rw[e0,m4,g1.length];omega
  ·rw[v1];show (a1.stepB y2.f b1).st=_;rw[e0,m1];have:(out++(f0.old.drop p).take n).length=out.length+n:=by simp;omega
   rw[this,g3,g1.length,kmade,klen,hmade,s3,kcount,s2]
 ·exfalso;obtain⟨v1,v2,v3⟩:=quiet7 (x:=AF.mk a1 y2.f) (b:=b1) hw hM.inv (.inr (by show (a1.stepB y2.f b1).err=_;rw[e0,c1])) hem;have v2:(a1.stepB y2.f b1).err=none:=v2;rw[e0,c1] at v2;cases v2
 ·rw[hold2] at c1;omega
theorem step_beside_ok (hw:f0.wait<0)(h:Bd f0 R0 S N out x)(n:Nat)(c:UInt8)(hp:out.length+n<=f0.old.length)(hle:out.length+n<N):Bd f0 R0 (sumAdd S (Stp.beside n c).enc) N (out++((f0.old.drop out.length).take n++[c])) (x.feed (Stp.beside n c).enc):=by
 have hN:N<=4096:=by have:=h.inv.lp;have:=h.inv.pg;have:=h.len;omega
 have hold:x.f.old=f0.old:=by obtain⟨j,hj⟩:=h.inv.fi;exact hj.old
 have hol:=h.inv.oldl;rw[hold] at hol;obtain⟨y,b,e1,e2,e3,e4,e5,e6,e7,e8,e9⟩:=op_num hw h (by omega) 2 (by omega) n (by omega);obtain⟨kk,k1,_⟩:=Ap.number_keep y.a b;obtain⟨z1,z2,z3⟩:=k1 e7;have kl:=kk.length;have km:=kk.made;have ko:=kk.op;have hlp:=e2.lp;have hold1:y.f.old=f0.old:=by obtain⟨j,hj⟩:=e2.fi;exact hj.old
 have hP:PI f0 out { (y.a.number b).a with count:=n } y.f:=(e2.body (by rw[e3];rfl)).of kk.made kk.page;have es:y.a.stepB y.f b = { err:=(Ap.copy { (y.a.number b).a with count:=n } y.f (y.a.number b).a.made n).err,st:=.beside,a:=(Ap.copy { (y.a.number b).a with count:=n } y.f (y.a.number b).a.made n).a,f:=(Ap.copy { (y.a.number b).a with count:=n } y.f (y.a.number b).a.made n).f }:=by
  unfold Ap.stepB;rw[e3];simp only[e7,if_true,e8];rw[if_neg (by omega),if_neg (by omega),if_neg (by omega)]
 have hem:out++y.a.emit y.f b=out++(f0.old.drop out.length).take n:=by
  unfold Ap.emit;rw[e3];simp only[e7,e4,e8,hold1,e6];rfl
 have hck:=Ap.copy_keep { (y.a.number b).a with count:=n } y.f (y.a.number b).a.made n;rcases Ap.copy_inv (y.a.number b).a.made n hP (by show (y.a.number b).a.made+n<=_;omega) (kk.size.trans (e2.size (by rw[e3];rfl))) with⟨c1,c2,c3,c4⟩ | ⟨c1,c2⟩ | ⟨c1,c2⟩
 ·obtain⟨g1,g2,g3⟩:=hck;have g3:=g3 c1;obtain⟨v1,v2,v3⟩:=quiet7 (b:=b) hw e2 (.inl (by rw[es];exact c1)) hem;have s1:(y.byte b).a.st=.beside:=by rw[v1,es];rfl
  have s2:(y.byte b).a.digits=0:=by rw[v1,es];exact g1.digits.trans z3
  have s3:(y.byte b).a.length=N:=by rw[v1,es];exact g1.length.trans (kl.trans e5)
  have s4:(y.byte b).a.sum=sumAdd S (UInt8.ofNat 2 :: num n):=by rw[v1,es];exact g1.sum.trans e9
  generalize hz:y.byte b=z at v3 s1 s2 s3 s4;have hzl:(out++(f0.old.drop out.length).take n).length=out.length+n:=by simp;omega
  have hzm:=v3.made;rw[hzl] at hzm;have hlp2:=v3.lp;have hbody:PI f0 (out++(f0.old.drop out.length).take n) (z.a.addSum c) z.f:=(v3.body (by rw[s1];rfl)).of rfl rfl;obtain⟨k,km2,_⟩:=Ap.put_keep (z.a.addSum c) z.f c;have km2:((z.a.addSum c).put z.f c).a.made=z.a.made+1:=km2;have kl2:((z.a.addSum c).put z.f c).a.length=z.a.length:=k.length;have e0:z.a.stepB z.f c=match ((z.a.addSum c).put z.f c).err with
    | some e=>{ err:=some e,st:=.beside,a:=((z.a.addSum c).put z.f c).a,f:=((z.a.addSum c).put z.f c).f }
    | none=>((z.a.addSum c).put z.f c).a.more ((z.a.addSum c).put z.f c).f:=by
   unfold Ap.stepB;rw[s1];simp only;rw[if_neg (by show ¬z.a.made=z.a.length;omega)];rfl
  have hem2:out++(f0.old.drop out.length).take n++z.a.emit z.f c=out++((f0.old.drop out.length).take n++[c]):=by unfold Ap.emit;rw[s1];simp
  have hfin:x.feed (Stp.beside n c).enc=z.byte c:=by
   show x.feed ((UInt8.ofNat 2 :: num n)++[c])=_;rw[feed_app,e1,hz];rfl
  rcases Ap.put_inv hbody c (by show z.a.made<_;omega) with⟨p1,p2,p3⟩ | ⟨p1,p2⟩
  ·rw[p1] at e0;simp only at e0;obtain⟨m1,m2,m3,m4,m5⟩:=more_keep _ _ ⟨_,_,p2⟩ (by rw[km2,p2.fi.pages,←hbody.fi.pages];omega);obtain⟨w1,w2,w3⟩:=quiet7 (b:=c) hw v3 (by rw[e0];exact m5) hem2;rw[hfin];refine⟨w3,?_,?_,?_,?_⟩
   ·rw[w1];show (z.a.stepB z.f c).a.digits=0;rw[e0,m2,k.digits];exact s2
   ·rw[w1];show (z.a.stepB z.f c).a.sum=_;rw[e0,m3,k.sum];show sumAdd z.a.sum _=_;rw[s4,sumAdd_app];rfl
   ·rw[w1];show (z.a.stepB z.f c).a.length=_;rw[e0,m4,kl2,s3]
   ·rw[w1];show (z.a.stepB z.f c).st=_;rw[e0,m1,km2,kl2,s3,hzm];have:(out++((f0.old.drop out.length).take n++[c])).length=out.length+n+1:=by rw[←List.append_assoc];simp;omega
    rw[this]
  ·exfalso;obtain⟨w1,w2,w3⟩:=quiet7 (b:=c) hw v3 (.inr (by rw[e0,p1])) hem2;rw[e0,p1] at w2;cases w2
 ·exfalso;obtain⟨v1,v2,v3⟩:=quiet7 (b:=b) hw e2 (.inr (by rw[es];exact c1)) hem;rw[es] at v2;rw[c1] at v2;cases v2
 ·rw[hold1] at c1;omega
end
theorem Leads.pre {old new out:List UInt8}{l:List Stp}(h:Leads old new out l):∃t,new=out++t:=by
 induction h with
 | nil=>exact⟨[],by simp⟩
 | cons h hl ih=>obtain⟨t,ht⟩:=ih;exact⟨_,by rw[ht,List.append_assoc]⟩
theorem steps_ok {f0:Fl}{R0:Nat}(hw:f0.wait<0){new out:List UInt8}{l:List Stp}(hl:Leads f0.old new out l):∀{S:Nat} {x:AF},S<4294967296->Bd f0 R0 S new.length out x->Bd f0 R0 (sumAdd S (encs l)) new.length new (x.feed (encs l)):=by
 induction hl with
 | nil=>
  intro S x hS h;have:sumAdd S []=S:=inv32_inv hS;rw[show encs []=[] from rfl,this];exact h
 | cons hok hl ih=>
  rename_i out s l;intro S x _ h;obtain⟨t,ht⟩:=hl.pre;have hlen:new.length=out.length+(s.out f0.old out).length+t.length:=by rw[ht,List.length_append,List.length_append]
  have key:Bd f0 R0 (sumAdd S s.enc) new.length (out++s.out f0.old out) (x.feed s.enc):=by
   cases s with
   | own m=>exact step_own_ok hw h m hok (by show _+m.length<=_;rw[hlen];show _<=_+m.length+_;omega)
   | copy n p=>
    obtain⟨h1,h2⟩:=hok;have:((f0.old.drop p).take n).length=n:=by simp;omega
    have hlen:new.length=out.length+((f0.old.drop p).take n).length+t.length:=hlen;exact step_copy_ok hw h n p h1 h2 (by omega)
   | beside n b=>
    have hok:out.length+n<=f0.old.length:=hok;have:((f0.old.drop out.length).take n++[b]).length=n+1:=by simp;omega
    have hlen:new.length=out.length+((f0.old.drop out.length).take n++[b]).length+t.length:=hlen;exact step_beside_ok hw h n b hok (by omega)
  have:=ih (sumAdd_lt _ _) key;rw[sumAdd_app,←feed_app] at this;exact this
end Go.Fwm
end
