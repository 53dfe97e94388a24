/-
  Part 11 of the common ground of this seat: what single parts show stands ahead of each.
  No condition.
-/
import Derived.Test.YtkmgcggoemlaaaaGreatDoorJ10
import Derived.Test.YtkmgcggoemlaaaaGreatDoorProg
import Derived.WalkKit
import Derived.ProofKit
import Derived.BigQuiet
import Derived.Deep.QuietTactic
import Derived.Lib.Hide
import Derived.Outline
import Derived.Below
import Derived.Laws.MakeOwn
import Derived.Laws.Entries
import Derived.Laws.CopyOwn
import Derived.Laws.AppendOwn
import Derived.Laws.OwnMore
import Derived.Laws.Cover3
set_option linter.unusedSimpArgs false
set_option linter.unusedVariables false
set_option linter.constructorNameAsVariable false
section
/- The model: a whole patch that is right; one for another image. -/
namespace Go.Fwm
theorem fx_eq (v m:Nat)(hm:m<256):(v*256)%4294967296 ||| m=(v%16777216)*256+m:=by
 have:(v*256)%4294967296=(v%16777216)*256:=by omega
 rw[this,or256 _ _ hm]
theorem fixed_value (a:Ap)(b:UInt8):(a.fixed b).a.value=(a.value%16777216)*256+b.toNat/\((a.fixed b).whole=decide (4<=a.digits+1))/\(a.digits+1<4->(a.fixed b).a.digits=a.digits+1)/\(4<=a.digits+1->(a.fixed b).a.digits=0):=by
 have hb:=b.toNat_lt;unfold Ap.fixed;simp only;rw[fx_eq _ _ (by omega)];by_cases h:a.digits+1<4
 ·rw[if_pos h];exact⟨rfl,by simp;omega,λ_=>rfl,λx=>by omega⟩
 ·rw[if_neg h];exact⟨rfl,by simp;omega,λx=>by omega,λ_=>rfl⟩
section
variable {f0:Fl} {R0:Nat} {out:List UInt8}
theorem head1 (f:Fl)(hw:f.wait<0)(h1:f.old.length<=4096)(h2:f.pages<=64)(n:Nat)(hn:n<=4096) :
  ∃y,AF.feed { a:=Ap.init,f } (num n)=y/\Inv f f.reads [] y.a y.f/\y.a.st=.oldSum/\y.a.size=n/\y.a.digits=0/\y.a.sum=sumAdd 0 (num n):=by
 obtain⟨a1,b,hN⟩:=num_feed (x:={ a:=Ap.init,f }) (Inv.init f h1 h2) n hn rfl rfl;have s1:a1.st=.oldSize:=hN.st;obtain⟨k,k1,_⟩:=Ap.number_keep a1 b;obtain⟨z1,z2,z3⟩:=k1 hN.whole;have es:a1.stepB f b = { err:=none,st:=.oldSum,a:={ (a1.number b).a with size:=(a1.number b).a.value },f }:=by
  unfold Ap.stepB;rw[s1];simp only[hN.whole,if_true]
 obtain⟨q1,q2,q3⟩:=quiet7 (x:=AF.mk a1 f) (out':=[]) (b:=b) hw hN.inv (.inl (by show (a1.stepB f b).err=_;rw[es])) (by show []++a1.emit f b=[];rw[emit_st (.inl s1)];rfl);have q1:(AF.mk a1 f).byte b = { a:=(a1.stepB f b).next,f:=(a1.stepB f b).f }:=q1;refine⟨_,hN.fed,q3,?_⟩;rw[q1,es];exact⟨rfl,hN.value,z3,hN.sum⟩
theorem sum_byte {x:AF}(hw:f0.wait<0)(h:Inv f0 R0 out x.a x.f)(hs:x.a.st=.oldSum)(b:UInt8)(hd:x.a.digits+1<4) :
  Inv f0 R0 out (x.byte b).a (x.byte b).f/\(x.byte b).a.st=.oldSum/\(x.byte b).a.size=x.a.size/\(x.byte b).a.digits=x.a.digits+1/\(x.byte b).a.sum=sumAdd x.a.sum [b]/\(x.byte b).a.value=(x.a.value%16777216)*256+b.toNat:=by
 obtain⟨v1,v2,v3,v4⟩:=fixed_value (x.a.addSum b) b;have v2:((x.a.addSum b).fixed b).whole=false:=by rw[v2];have:(x.a.addSum b).digits=x.a.digits:=rfl;simp[this];omega
 obtain⟨k,_,_,k3⟩:=Ap.fixed_keep (x.a.addSum b) b;have es:x.a.stepB x.f b = { err:=none,st:=.oldSum,a:=((x.a.addSum b).fixed b).a,f:=x.f }:=by
  unfold Ap.stepB;rw[hs];simp only[v2];rfl
 obtain⟨q1,q2,q3⟩:=quiet7 (out':=out) (b:=b) hw h (.inl (by rw[es])) (by rw[emit_st (.inr (.inl hs)),List.append_nil]);refine⟨q3,?_⟩;rw[q1,es];exact⟨rfl,k.size,v3 hd,k3,v1⟩
theorem head2 {x:AF}(hw:f0.wait<0)(h:Inv f0 R0 out x.a x.f)(hs:x.a.st=.oldSum)(hd:x.a.digits=0)(S:Nat)(hS:S<4294967296) :
  ∃(y:AF) (b:UInt8),x.feed (be32 S)=y.byte b/\Inv f0 R0 out y.a y.f/\y.a.st=.oldSum/\y.a.size=x.a.size/\((y.a.addSum b).fixed b).whole=true/\((y.a.addSum b).fixed b).a.value=S/\((y.a.addSum b).fixed b).a.digits=0/\((y.a.addSum b).fixed b).a.sum=sumAdd x.a.sum (be32 S):=by
 obtain⟨a1,a2,a3,a4,a5,a6⟩:=sum_byte hw h hs (UInt8.ofNat (S/16777216)) (by omega);obtain⟨b1,b2,b3,b4,b5,b6⟩:=sum_byte hw a1 a2 (UInt8.ofNat (S/65536)) (by omega);obtain⟨c1,c2,c3,c4,c5,c6⟩:=sum_byte hw b1 b2 (UInt8.ofNat (S/256)) (by omega);refine⟨_,UInt8.ofNat S,rfl,c1,c2,c3.trans (b3.trans a3),?_⟩;generalize ((x.byte (UInt8.ofNat (S/16777216))).byte (UInt8.ofNat (S/65536))).byte (UInt8.ofNat (S/256))=y at c1 c2 c3 c4 c5 c6;obtain⟨v1,v2,v3,v4⟩:=fixed_value (y.a.addSum (UInt8.ofNat S)) (UInt8.ofNat S);obtain⟨k,_,_,k3⟩:=Ap.fixed_keep (y.a.addSum (UInt8.ofNat S)) (UInt8.ofNat S);have hdy:(y.a.addSum (UInt8.ofNat S)).digits=3:=by show y.a.digits=3;omega
 refine⟨?_,?_,v4 (by omega),?_⟩
 ·rw[v2,hdy];rfl
 ·rw[v1];show y.a.value%16777216*256+_=_;rw[c6,b6,a6];simp only[toNat_ofNat];omega
 ·rw[k3];show sumAdd y.a.sum [_]=_;rw[c5,b5,a5,sumAdd_app,sumAdd_app,sumAdd_app];rfl
theorem head3 (f:Fl)(hw:f.wait<0)(h1:f.old.length<=4096)(h2:f.pages<=64) :
  ∃y,AF.feed { a:=Ap.init,f } (num f.old.length++be32 (sumAdd 0 f.old))=y/\Inv f f.reads [] y.a y.f/\y.a.st=.newSize/\y.a.digits=0/\y.a.sum=sumAdd 0 (num f.old.length++be32 (sumAdd 0 f.old)):=by
 obtain⟨y,e1,e2,e3,e4,e5,e6⟩:=head1 f hw h1 h2 f.old.length h1;obtain⟨z,b,g1,g2,g3,g4,g5,g6,g7,g8⟩:=head2 hw e2 e3 e5 (sumAdd 0 f.old) (sumAdd_lt _ _);have hold:z.f.old=f.old:=by obtain⟨j,hj⟩:=g2.fi;exact hj.old
 obtain⟨k,_⟩:=Ap.fixed_keep (z.a.addSum b) b;have hsz:((z.a.addSum b).fixed b).a.size=f.old.length:=by rw[k.size];show z.a.size=_;rw[g4,e4]
 have hb:=(g2.body (by rw[g3];rfl)).fi;have key:(z.a.stepB z.f b).err=none/\(z.a.stepB z.f b).st=.newSize/\(z.a.stepB z.f b).a.digits=0/\(z.a.stepB z.f b).a.sum=sumAdd 0 (num f.old.length++be32 (sumAdd 0 f.old)):=by
  unfold Ap.stepB;rw[g3];simp only[g5,if_true];rw[if_neg (by rw[hsz,hold];simp)];rcases Ap.sumOld_inv (((z.a.addSum b).fixed b).a.size+1) (a:=((z.a.addSum b).fixed b).a) 0 0 (by omega) hb (by rw[hsz,hold]) (by omega) (Nat.zero_le _) with⟨z1,z2,_,_,⟨bf,z5⟩,_⟩ | ⟨z1,z2⟩
  ·simp only[z1];rw[if_neg (by rw[z2,g6,hold];simp)];refine⟨rfl,rfl,?_,?_⟩
   ·rw[z5];exact g7
   ·rw[z5];show ((z.a.addSum b).fixed b).a.sum=_;rw[g8,e6,sumAdd_app]
  ·have:=z2.w0;omega
 obtain⟨q1,q2,q3⟩:=quiet7 (out':=[]) (b:=b) hw g2 (.inl key.1) (by rw[emit_st (.inr (.inl g3))];rfl);refine⟨z.byte b,by rw[feed_app,e1,g1],q3,?_⟩;rw[q1];exact key.2
theorem head_ok (f:Fl)(hw:f.wait<0)(h1:f.old.length<=4096)(h2:f.pages<=64)(n:Nat)(hn:n<=f.pages*64):Bd f f.reads (sumAdd 0 (headOf f.old n)) n [] (AF.feed { a:=Ap.init,f } (headOf f.old n)):=by
 obtain⟨y,e1,e2,e3,e4,e5⟩:=head3 f hw h1 h2;obtain⟨a1,b,hN⟩:=num_feed e2 n (by omega) (by rw[e3];rfl) e4;have s1:a1.st=.newSize:=hN.st.trans e3;have hpg:y.f.pages=f.pages:=by obtain⟨j,hj⟩:=e2.fi;exact hj.pages
 obtain⟨k,k1,_⟩:=Ap.number_keep a1 b;obtain⟨z1,z2,z3⟩:=k1 hN.whole;have e0:a1.stepB y.f b=({ (a1.number b).a with length:=n }:Ap).more y.f:=by
  unfold Ap.stepB;rw[s1];simp only[hN.whole,if_true,hN.value];rw[if_neg (by rw[hpg];omega)]
 have hP:PI f [] { (a1.number b).a with length:=n } y.f:=(hN.inv.body (by rw[s1];rfl)).of k.made k.page;have hmade:(a1.number b).a.made=0:=by rw[k.made];exact hN.inv.made
 obtain⟨m1,m2,m3,m4,m5⟩:=more_keep { (a1.number b).a with length:=n } y.f ⟨_,_,hP⟩ (by show (a1.number b).a.made<=_;omega);obtain⟨q1,q2,q3⟩:=quiet7 (x:=AF.mk a1 y.f) (out':=[]) (b:=b) hw hN.inv (by show (a1.stepB y.f b).err=none\/_;rw[e0];exact m5) (by show []++a1.emit y.f b=[];rw[emit_st (.inr (.inr (.inl s1)))];rfl);have q1:(AF.mk a1 y.f).byte b = { a:=(a1.stepB y.f b).next,f:=(a1.stepB y.f b).f }:=q1;have hfeed:AF.feed { a:=Ap.init,f } (headOf f.old n)=(AF.mk a1 y.f).byte b:=by
  unfold headOf;rw[feed_app,e1,hN.fed]
 rw[hfeed];refine⟨q3,?_,?_,?_,?_⟩
 ·rw[q1];show (a1.stepB y.f b).a.digits=0;rw[e0,m2];exact z3
 ·rw[q1];show (a1.stepB y.f b).a.sum=_;rw[e0,m3];show (a1.number b).a.sum=_;rw[hN.sum,e5,sumAdd_app];rfl
 ·rw[q1];show (a1.stepB y.f b).a.length=_;rw[e0,m4]
 ·rw[q1];show (a1.stepB y.f b).st=_;rw[e0,m1,hmade];rfl
theorem fin_byte {x:AF}(hw:f0.wait<0)(h:Inv f0 R0 out x.a x.f)(hs:x.a.st=.fin)(b:UInt8)(hd:x.a.digits+1<4) :
  Inv f0 R0 out (x.byte b).a (x.byte b).f/\(x.byte b).a.st=.fin/\(x.byte b).a.digits=x.a.digits+1/\(x.byte b).a.sum=x.a.sum/\(x.byte b).a.value=(x.a.value%16777216)*256+b.toNat:=by
 obtain⟨v1,v2,v3,v4⟩:=fixed_value x.a b;have v2:(x.a.fixed b).whole=false:=by rw[v2];simp;omega
 obtain⟨k,_,_,k3⟩:=Ap.fixed_keep x.a b;have es:x.a.stepB x.f b = { err:=none,st:=.fin,a:=(x.a.fixed b).a,f:=x.f }:=by
  unfold Ap.stepB;rw[hs];simp only[v2];rfl
 obtain⟨q1,q2,q3⟩:=quiet7 (out':=out) (b:=b) hw h (.inl (by rw[es])) (by rw[emit_st (by simp[hs]),List.append_nil]);refine⟨q3,?_⟩;rw[q1,es];exact⟨rfl,v3 hd,k3,v1⟩
theorem fin_ok4 {x:AF}(hw:f0.wait<0)(h:Inv f0 R0 out x.a x.f)(hs:x.a.st=.fin)(hd:x.a.digits=0)(hS:x.a.sum<4294967296):Inv f0 R0 out (x.feed (be32 x.a.sum)).a (x.feed (be32 x.a.sum)).f/\(x.feed (be32 x.a.sum)).a.st=.over:=by
 obtain⟨S,hSe⟩:∃S,x.a.sum=S:=⟨_,rfl⟩;rw[hSe] at hS ⊢;obtain⟨a1,a2,a4,a5,a6⟩:=fin_byte hw h hs (UInt8.ofNat (S/16777216)) (by omega);obtain⟨b1,b2,b4,b5,b6⟩:=fin_byte hw a1 a2 (UInt8.ofNat (S/65536)) (by omega);obtain⟨c1,c2,c4,c5,c6⟩:=fin_byte hw b1 b2 (UInt8.ofNat (S/256)) (by omega);show Inv f0 R0 out (AF.byte _ (UInt8.ofNat S)).a (AF.byte _ (UInt8.ofNat S)).f/\(AF.byte _ (UInt8.ofNat S)).a.st=.over;generalize ((x.byte (UInt8.ofNat (S/16777216))).byte (UInt8.ofNat (S/65536))).byte (UInt8.ofNat (S/256))=y at c1 c2 c4 c5 c6;obtain⟨v1,v2,v3,v4⟩:=fixed_value y.a (UInt8.ofNat S);obtain⟨k,_,_,k3⟩:=Ap.fixed_keep y.a (UInt8.ofNat S);have v2:(y.a.fixed (UInt8.ofNat S)).whole=true:=by rw[v2];simp;omega
 have hv:(y.a.fixed (UInt8.ofNat S)).a.value=S:=by
  rw[v1,c6,b6,a6];simp only[toNat_ofNat];omega
 have es:y.a.stepB y.f (UInt8.ofNat S) = { err:=none,st:=.over,a:={ (y.a.fixed (UInt8.ofNat S)).a with digits:=-1 },f:=y.f }:=by
  unfold Ap.stepB;rw[c2];simp only[v2,if_true];rw[if_neg (by rw[hv,k3,c5,b5,a5,hSe];simp)]
 obtain⟨q1,q2,q3⟩:=quiet7 (out':=out) (b:=UInt8.ofNat S) hw c1 (.inl (by rw[es])) (by rw[emit_st (by simp[c2]),List.append_nil]);exact⟨q3,by rw[q1,es];rfl⟩
theorem patch_fed (f:Fl)(hw:f.wait<0)(h1:f.old.length<=4096)(h2:f.pages<=64)(new:List UInt8)(l:List Stp)(hl:Leads f.old new [] l)(hn:new.length<=f.pages*64) :
  Inv f f.reads new (AF.feed { a:=Ap.init,f } (patchOf f.old new.length l)).a (AF.feed { a:=Ap.init,f } (patchOf f.old new.length l)).f/\(AF.feed { a:=Ap.init,f } (patchOf f.old new.length l)).a.st=.over:=by
 have hB:=steps_ok hw hl (sumAdd_lt _ _) (head_ok f hw h1 h2 new.length hn);rw[sumAdd_app,←feed_app] at hB;have hst:=hB.st;rw[if_neg (by omega)] at hst;have:=fin_ok4 hw hB.inv hst hB.dig (by rw[hB.sum];exact sumAdd_lt _ _);rw[hB.sum,←feed_app] at this;exact this
theorem patch_applied (f:Fl)(hw:f.wait<0)(h1:f.old.length<=4096)(h2:f.pages<=64)(new:List UInt8)(l:List Stp)(hl:Leads f.old new [] l)(hn:new.length<=f.pages*64) :
  let y:=f.apply (patchOf f.old new.length l)
  y.fault=.none/\y.x.f.committed=true/\y.x.f.length=new.length/\y.x.f.fresh.take new.length=new/\y.x.f.old=f.old/\y.x.f.fresh.length=f.fresh.length/\y.x.f.events=f.events++evs (2*((new.length+63)/64))++[(2,new.length)]/\y.x.f.wait=f.wait:=by
 obtain⟨hI,hs⟩:=patch_fed f hw h1 h2 new l hl hn;intro y;have hS:Stt f f.reads (AF.feed { a:=Ap.init,f } (patchOf f.old new.length l)):=.ok _ hI;have hD:=hI.done (by rw[hs];rfl);have hmd:=hI.made;cases hS.finish with
 | done out h hs' hf ha hfl hw'=>
  have hout:out.length=new.length:=by rw[←h.made,hI.made]
  obtain⟨c1,c2,c3,_⟩:=Fl.cut_keep (AF.feed { a:=Ap.init,f } (patchOf f.old new.length l)).f;refine⟨hf,?_,?_,?_,?_,?_,?_,?_⟩
  ·show (AF.finish _).x.f.committed=_;rw[hfl]
  ·show (AF.finish _).x.f.length=_;rw[hfl];exact hout
  ·show List.take _ (AF.finish _).x.f.fresh=_;rw[hfl];show List.take _ (Fl.cut _).fresh=_;rw[c2];exact hD.2.image
  ·show (AF.finish _).x.f.old=_;rw[hfl];exact c1.trans hD.2.fi.old
  ·show (AF.finish _).x.f.fresh.length=_;rw[hfl];show (Fl.cut _).fresh.length=_;rw[c2];exact hD.2.fi.fresh
  ·show (AF.finish _).x.f.events=_;rw[hfl];show _++_=_;rw[hD.2.fi.ev,hout,hmd]
  ·show (AF.finish _).x.f.wait=_;rw[hfl];exact hD.2.fi.cut.wait.1 hw
 | short out h hs' hf ha hfl=>exact absurd hs hs'
 | pow out h hw' hw0 hf ha hfl=>omega
 | bad e hx h hf hy=>rw[hI.nofault] at hx;split at hx<;>cases hx
end
end Go.Fwm
end
section
/- The model: the sum tells one byte that is another; what is accepted ends with its sum; ends. -/
namespace Go.Fwm

/- The model: a byte leaves the place as it was. -/
theorem sumOld_at:∀(k:Nat) (a:Ap) (f:Fl) (g i:Nat),(a.sumOld f g k i).a.at_=a.at_
 | 0,a,f,g,i=>rfl
 | k+1,a,f,g,i=>by
  unfold Ap.sumOld;split
  ·rfl
  ·simp only;split
   ·rfl
   ·rw[sumOld_at k];rfl
theorem flush_at (a:Ap)(f:Fl):(a.flush f).a.at_=a.at_:=by
 unfold Ap.flush;split
 ·exact(Ap.write_keep a f _ _).1.at_
 ·rfl
theorem more_at (a:Ap)(f:Fl):(a.more f).a.at_=a.at_:=by
 unfold Ap.more;split
 ·rfl
 ·exact flush_at a f
theorem put_at (a:Ap)(f:Fl)(b:UInt8):(a.put f b).a.at_=a.at_:=(Ap.put_keep a f b).1.at_
theorem copy_at (a:Ap)(f:Fl)(i n:Nat):(a.copy f i n).a.at_=a.at_:=(Ap.copy_keep a f i n).1.at_
theorem stepB_at (a:Ap)(f:Fl)(b:UInt8):(a.stepB f b).a.at_=a.at_:=by
 have hn:=(Ap.number_keep a b).1.at_;have hx:=(Ap.fixed_keep (a.addSum b) b).1.at_;have hy:=(Ap.fixed_keep a b).1.at_;have hx:((a.addSum b).fixed b).a.at_=a.at_:=hx;unfold Ap.stepB;cases a.st with
 | oldSize=>simp only;split<;>exact hn
 | oldSum=>
  simp only;split
  ·split
   ·exact hx
   ·split
    ·exact(sumOld_at _ _ _ _ _).trans hx
    ·split<;>exact(sumOld_at _ _ _ _ _).trans hx
  ·exact hx
 | newSize=>
  simp only;split
  ·split
   ·exact hn
   ·exact(more_at _ _).trans hn
  ·exact hn
 | step=>simp only;split<;>rfl
 | counted=>
  simp only;split
  ·split
   ·exact hn
   ·split
    ·exact hn
    ·split
     ·exact hn
     ·exact(copy_at _ _ _ _).trans hn
  ·exact hn
 | own=>
  simp only;split
  ·exact put_at _ _ _
  ·split
   ·exact put_at _ _ _
   ·exact(more_at _ _).trans (put_at _ _ _)
 | place=>
  simp only;split
  ·split
   ·exact(copy_at _ _ _ _).trans hn
   ·exact(more_at _ _).trans ((copy_at _ _ _ _).trans hn)
  ·exact hn
 | beside=>
  simp only;split
  ·rfl
  ·split
   ·exact put_at _ _ _
   ·exact(more_at _ _).trans (put_at _ _ _)
 | fin=>simp only;split<;>first | exact hy | (split<;>exact hy)
 | over=>rfl
theorem byte_at (x:AF)(b:UInt8):(x.byte b).a.at_<=x.a.at_+1:=by
 have h:=stepB_at x.a x.f b;unfold AF.byte;split
 ·exact Nat.le_succ _
 ·simp only;split
  ·show (x.a.stepB x.f b).a.at_<=_;omega
  ·show (x.a.stepB x.f b).a.at_+1<=_;omega
theorem feed_at (l:List UInt8):∀x:AF,(x.feed l).a.at_<=x.a.at_+l.length:=by
 induction l with
 | nil=>intro x;exact Nat.le_refl _
 | cons b l ih=>
  intro x;have h1:=ih (x.byte b);have h2:=byte_at x b;rw[feed_cons];simp only[List.length_cons];omega
end Go.Fwm
end
section
/- What same (of equals), roomy, still and slices.Clone do on slices of bytes. -/
set_option maxHeartbeats 1000000
set_option maxRecDepth 100000
namespace Go.Proofs.YtkmgcggoemlaaaaGreatDoor
open Go.RowKit
def Bytes (w:World)(A:Option Addr)(zs:List UInt8):Prop:=
 ∀k (h:k<zs.length),∃b o,A=some ⟨b,o,none⟩/\w.cell? ⟨b,o+k,none⟩=some (.int .u8 (zs[k].toNat:Int))
theorem drewN_add (w:World)(a b:Nat):(w.drewN a).drewN b=w.drewN (a+b):=by simp[World.drewN,Nat.add_assoc]
theorem same_eq (w:World)(A B:Option Addr)(cn cm n:Nat)(zs:List UInt8)(hl:zs.length=n)(hn:zs.length<=maxLen)(hx:Bytes w A zs)(hy:Bytes w B zs) :
  Calls Tryz.prog 21 #[.slice A n cn,.slice B n cm] w λe w'=>e=.returned (.bool true)/\∃k,w'=w.drewN k:=by
 unfold maxLen at hn;rw[hl] at hn;go_enter Tryz.func21,Tryz.ntmps21
 go_wp2
 go_loopw [5] (λi wr=>∃k d:Nat,k<=n/\i=.int .i64 k/\wr=w.drewN d) (λi _=>n-(intOf i).toNat)
 case atStart=>exact⟨0,0,Nat.zero_le _,rfl,rfl⟩
 case round=>
  obtain⟨k,d,hk,rfl,rfl⟩:=hrel;by_cases hlt:k<n
  ·obtain⟨b,o,rfl,hc⟩:=hx k (by omega);obtain⟨b',o',rfl,hc'⟩:=hy k (by omega);have hb:((zs[k].toNat:Int) != (zs[k].toNat:Int))=false:=by simp
   go_wp2
   go_quiet (fail)
   go_wp2
   go_roundw
   case rel=>exact⟨k+1,_,by omega,by go_num,rfl⟩
   case measure=>simp[intOf];omega
  ·go_wp2
   go_ret
   exact⟨rfl,_,rfl⟩
def enc (z:UInt8):Value:=.int .u8 (z.toNat:Int)
theorem run_make_rowN {P:Program}(t e:TypeId)(i:TypeInfo)(z:Value)(ht:P.underlying t=some (.slice e))(hi:P.info? e=some i)(hz:i.zero=some z)
  (kl kc:IntKind) (n c:Nat) (hnc:n<=c) (hbytes:i.bytes*c<=281474976710656) (h63:c<=9223372036854775807) (w:World) :
  (Instr.makeSlice t (.int kl (n:Int)) (.int kc (c:Int))).run P w=.ok (.slice (some ⟨w.heap.size,0,none⟩) n c) (w.alloc (.cells (madeCells z.cells (c*i.size)) e)):=by
 have hb:(i.bytes:Int)*(c:Int)<=281474976710656:=by
  have h:((i.bytes*c:Nat):Int)<=281474976710656:=by omega
  rwa [Int.natCast_mul] at h
 have hr:=run_make (P:=P) w t e i z ht hi hz kl kc n c (by omega) (by omega) hb (by omega);simp only[Int.toNat_natCast] at hr;exact hr
theorem info5:(Tryz.prog.info? 5).map (λi=>(i.zero,i.size,i.bytes))=some (some (Value.int .u8 0),1,1):=by kernel_rfl
theorem size5:(Tryz.prog.info? 5).map (·.size)=some 1:=by kernel_rfl
theorem made_u8 (n:Nat):madeCells (Value.cells (Value.int .u8 0)) n=(List.replicate n (Value.int .u8 0)).toArray:=by
 apply Array.ext
 ·simp[madeCells]
 ·intro i h1 h2;simp[madeCells,Value.cells,Nat.mod_one]
theorem run_make_u8 (n:Nat)(hn:n<=9223372036854 )(w:World) :
  (Instr.makeSlice 22 (.int .i64 (n:Int)) (.int .i64 (n:Int))).run Tryz.prog w=.ok (.slice (some ⟨w.heap.size,0,none⟩) n n) (w.alloc (.cells (List.replicate n (Value.int .u8 0)).toArray 5)):=by
 obtain⟨i,hi,hz,hs,hb⟩:=info_parts info5;rw[run_make_rowN 22 5 i (Value.int .u8 0) Tryz.underlying22 hi hz .i64 .i64 n n (Nat.le_refl _) (by rw[hb];omega) (by omega) w,hs,Nat.mul_one,made_u8]
end Go.Proofs.YtkmgcggoemlaaaaGreatDoor
namespace Go
open Go Go.Proofs.YtkmgcggoemlaaaaGreatDoor
theorem World.cell_blk {w:World}{g:Nat}{cs:Array Value}{t:TypeId}(h:w.heap[g]? = some (.cells cs t (0,0))){j:Nat}:w.cell? ⟨g,j,none⟩=cs[j]?:=by
 simp[World.cell?,h]
end Go
namespace Go.Proofs.YtkmgcggoemlaaaaGreatDoor
open Go.RowKit
end Go.Proofs.YtkmgcggoemlaaaaGreatDoor
namespace Go
open Go Go.Proofs.YtkmgcggoemlaaaaGreatDoor
theorem World.frozen_blk {w:World}{g:Nat}{cs:Array Value}{t:TypeId}(h:w.heap[g]? = some (.cells cs t (0,0)))(j:Nat):w.frozen? ⟨g,j,none⟩=false:=by
 simp[World.frozen?,h]
end Go
namespace Go.Proofs.YtkmgcggoemlaaaaGreatDoor
open Go.RowKit
theorem splice_made (n:Nat)(ys:List Value)(h:ys.length=n):splice (List.replicate (n+2) (Value.int .u8 0)) 0 ys=ys++[Value.int .u8 0,Value.int .u8 0]:=by
 simp only[splice,h,List.take_zero,List.nil_append,Nat.zero_add,List.drop_replicate,Nat.add_sub_cancel_left];rfl
theorem heap_set2 {w:World}{g:Nat}{ys:List Value}{n:Nat}(h:w.heap[g]? = some (.cells (ys++[Value.int .u8 0,Value.int .u8 0]).toArray 5 (0,0)))(hn:ys.length=n)(u v:Value) :
  ((w.setCell ⟨g,n,none⟩ u).setCell ⟨g,n+1,none⟩ v).heap[g]? = some (.cells (ys++[u,v]).toArray 5 (0,0)):=by
 simp[World.setCell,Array.getElem?_modify,h];subst hn;rw[List.set_append_right _ _ (by omega),List.set_append_right _ _ (by omega)];simp
theorem roomy_ok (w:World)(A:Option Addr)(c:Nat)(zs:List UInt8)(hn:zs.length<=65536)(hx:Bytes w A zs) :
  Calls Tryz.prog 36 #[.slice A zs.length c] w λe w'=>e=.returned (.slice (some ⟨w.heap.size,0,none⟩) zs.length (zs.length+2))/\Below w.heap.size w w'/\w'.heap[w.heap.size]? = some (.cells (zs.map enc++[Value.int .u8 71,Value.int .u8 72]).toArray 5 (0,0)):=by
 obtain⟨n,hl⟩:∃n,zs.length=n:=⟨_,rfl⟩;rw[hl] at hn ⊢;have hmk:=run_make_u8 (n+2) (by omega);have hcast:((n+2:Nat):Int)=(n:Int)+2:=by omega
 rw[hcast] at hmk;obtain⟨ys,hys⟩:∃ys,ys=zs.map enc:=⟨_,rfl⟩;have hyl:ys.length=n:=by rw[hys];simpa using hl
 obtain⟨rs,hrs⟩:∃rs,rs=List.replicate (n+2) (Value.int .u8 0):=⟨_,rfl⟩;have hrl:rs.length=n+2:=by rw[hrs];simp
 rw[←hrs] at hmk;have HR:=Lib.hid hrs;clear hrs;have hcell:0<ys.length->∃ad,A=some ad/\∀j v,ys[j]? = some v->(w.alloc (.cells rs.toArray 5)).cell? (ad.add j)=some v:=by
  intro h0;obtain⟨b,o,hA,_⟩:=hx 0 (by omega);refine⟨_,hA,λj v hj=>?_⟩;have hjl:j<zs.length:=by have:=(List.getElem?_eq_some_iff.1 hj).1;omega
  obtain⟨b',o',hA',hc⟩:=hx j hjl;rw[hA] at hA';cases hA';have hv:v=.int .u8 (zs[j].toNat:Int):=by rw[hys] at hj;simp[hjl,enc] at hj;exact hj.symm
  rw[hv];have hc':=hc;rw[show (⟨b,o,none⟩:Addr).add j=⟨b,o+j,none⟩ by unfold Addr.add;split<;>simp_all];exact(World.cell?_alloc_lt w _ _ (block_lt_of_cell hc)).trans hc
 have HC:=Lib.hid hcell;clear hcell;have hone:∀v∈ys,v.oneCell'=true:=by rw[hys];intro v hv;obtain⟨z,_,rfl⟩:=List.mem_map.1 hv;rfl
 have HO:=Lib.hid hone;clear hone;have HY:=Lib.hid hys;clear hys;go_enter Tryz.func36,Tryz.ntmps36
 go_wp2_with ((with_reducible show wpList _ _ _ _ _ _);refine wpList_copy_splice (o:=⟨some 12,_,_,_,_,_⟩) ?g1 (.tmp 10) (.tmp 11) 22 22 ?g2 5 ?g3 ?g4 (some ⟨w.heap.size,0,none⟩) A (n+2) (n+2) n c ?g5 ?g6 w.heap.size 0 rs 5 ?g7 ys ?g8 ?g9 ?g10 ?g11 w.heap.size w ?g12 ?g13 ?g14;rotate_right;(intro w2 HG2 hB2;have hG2:=HG2.out;rw[HR.out,splice_made n ys hyl] at hG2;have hc0:w2.cell? ⟨w.heap.size,n,none⟩=some (Value.int .u8 0):=(by rw[World.cell_blk hG2];simp[hyl,enc]);have hc1:w2.cell? ⟨w.heap.size,n+1,none⟩=some (Value.int .u8 0):=(by rw[World.cell_blk hG2];simp[hyl,enc]);have hf0:∀j,w2.frozen? ⟨w.heap.size,j,none⟩=false:=World.frozen_blk hG2;have HG:=Lib.hid hG2;clear hG2 HG2);rotate_left;exact rfl;exact rfl;exact Tryz.underlying22;exact size5;exact rfl;exact rfl;exact heap_alloc_new w _;(rw[hyl];exact(Nat.min_eq_left (by omega)).symm);exact λh=>⟨rfl,HC.out h⟩;omega;exact HO.out;exact(Below.refl _ w).alloc (Nat.le_refl _) _;exact Nat.le_refl _;skip)
 go_ret
 exact⟨rfl,(hB2.setCell (p:=⟨w.heap.size,n,none⟩) (Nat.le_refl _) _).setCell (p:=⟨w.heap.size,n+1,none⟩) (Nat.le_refl _) _,by rw[←HY.out];exact heap_set2 HG.out hyl _ _⟩
structure But (g:Nat) (w w':World):Prop where
 os:w'.os=w.os
 tape:w'.tape=w.tape
 output:w'.output=w.output
 size:w'.heap.size=w.heap.size
 block:∀k,k≠g->w'.heap[k]? = w.heap[k]?
theorem But.refl (g:Nat)(w:World):But g w w:=⟨rfl,rfl,rfl,rfl,λ_ _=>rfl⟩
theorem But.drewN {g:Nat}{w w':World}(h:But g w w')(k:Nat):But g w (w'.drewN k):=⟨h.os,h.tape,h.output,h.size,h.block⟩
theorem But.set {g:Nat}{w w':World}(h:But g w w')(j:Nat)(v:Value):But g w (w'.setCell ⟨g,j,none⟩ v):=
 ⟨h.os,h.tape,h.output,by rw[←h.size];simp[World.setCell],λk hk=>(Below.heap_setCell w' ⟨g,j,none⟩ v k hk).trans (h.block k hk)⟩
def Nums (w:World)(g n:Nat):Prop:=∃cs:Array Value,w.heap[g]? = some (.cells cs 5 (0,0))/\cs.size=n/\∀j,j<n->∃z:Int,cs[j]? = some (.int .u8 z)
theorem Nums.set {w:World}{g n:Nat}(h:Nums w g n)(j:Nat)(z:Int):Nums (w.setCell ⟨g,j,none⟩ (.int .u8 z)) g n:=by
 obtain⟨cs,h1,h2,h3⟩:=h;refine⟨cs.setIfInBounds j (.int .u8 z),by simp[World.setCell,Array.getElem?_modify,h1],by simpa using h2,λi hi=>?_⟩;rw[Array.getElem?_setIfInBounds];by_cases e:j=i
 ·subst e;exact⟨z,by rw[if_pos rfl,if_pos (by omega)]⟩
 ·rw[if_neg e];exact h3 i hi
theorem Nums.at_ {w:World}{g n:Nat}(h:Nums w g n){j:Nat}(hj:j<n):∃z:Int,w.cell? ⟨g,j,none⟩=some (.int .u8 z)/\w.frozen? ⟨g,j,none⟩=false:=by
 obtain⟨cs,h1,h2,h3⟩:=h;obtain⟨z,hz⟩:=h3 j hj;exact⟨z,by rw[World.cell_blk h1];exact hz,World.frozen_blk h1 j⟩
theorem still_ok (w:World)(g:Nat)(A:Option Addr)(c:Nat)(zs:List UInt8)(hn:zs.length<=65536)(hg:w.heap[g]? = some (.cells (zs.map enc++[Value.int .u8 71,Value.int .u8 72]).toArray 5 (0,0)))(hx:Bytes w A zs) :
  Calls Tryz.prog 37 #[.slice (some ⟨g,0,none⟩) zs.length (zs.length+2),.slice A zs.length c] w λe w'=>e=.returned (.bool true)/\But g w w':=by
 have hnums:Nums w g (zs.length+2):=⟨_,hg,by simp,λj hj=>by
  rcases Nat.lt_or_ge j zs.length with h|h
  ·exact⟨zs[j].toNat,by simp[List.getElem?_append_left,h,enc]⟩
  ·rcases Nat.eq_or_lt_of_le h with h | h
   ·subst h;exact⟨71,by simp[enc]⟩
   ·obtain rfl:j=zs.length+1:=by omega
    exact⟨72,by simp[enc]⟩⟩
 have hy:Bytes w (some ⟨g,0,none⟩) zs:=λk hk=>⟨g,0,rfl,by rw[World.cell_blk hg];simp[List.getElem?_append_left,hk,enc]⟩
 have h71:w.cell? ⟨g,zs.length,none⟩=some (.int .u8 71):=by rw[World.cell_blk hg];simp[enc]
 have h72:w.cell? ⟨g,zs.length+1,none⟩=some (.int .u8 72):=by rw[World.cell_blk hg];simp[enc]
 have hfz:∀j,w.frozen? ⟨g,j,none⟩=false:=World.frozen_blk hg;have HM:=Lib.hid hnums;clear hnums;clear hg;obtain⟨n,hl⟩:∃n,zs.length=n:=⟨_,rfl⟩;rw[hl] at hn h71 h72 ⊢;go_enter Tryz.func37,Tryz.ntmps37
 rw[hl] at HM;go_wp2_with (go_at_call 21;refine(same_eq w (some ⟨g,0,none⟩) A _ _ n zs hl (by unfold maxLen;omega) hy hx).mono ?_;rintro e w' ⟨rfl,d,rfl⟩)
 go_loopw [8] (λi wr=>∃k:Nat,k<=n+2/\i=.int .i64 k/\Nums wr g (n+2)/\But g w wr) (λi _=>n+2-(intOf i).toNat)
 case atStart=>exact⟨0,Nat.zero_le _,rfl,HM.out,(But.refl g w).drewN _⟩
 case round=>
  obtain⟨k,hk,rfl,hN,hB⟩:=hrel;by_cases hlt:k<n+2
  ·obtain⟨z,hc,hf⟩:=hN.at_ hlt;have HN:=Lib.hid hN;clear hN;go_wp2
   go_roundw
   case rel=>exact⟨k+1,by omega,by go_num,HN.out.set _ _,hB.set _ _⟩
   case measure=>simp[intOf];omega
  ·go_wp2
   go_ret
   exact⟨rfl,hB⟩
def Piece (w:World)(g:Nat)(zs:List UInt8)(cap:Nat):Prop:=
 ∃cs:Array Value,w.heap[g]? = some (.cells cs 5 (0,0))/\cs.size=cap/\zs.length<=cap/\∀k (h:k<zs.length),cs[k]? = some (enc zs[k])
end Go.Proofs.YtkmgcggoemlaaaaGreatDoor
end
section
/- What roomy and still do on longer slices of bytes. -/
set_option maxHeartbeats 1000000
set_option maxRecDepth 100000
namespace Go.Proofs.YtkmgcggoemlaaaaGreatDoor
open Go.RowKit
theorem roomy_big (w:World)(A:Option Addr)(c:Nat)(zs:List UInt8)(hn:zs.length<=1000000)(hx:Bytes w A zs) :
  Calls Tryz.prog 36 #[.slice A zs.length c] w λe w'=>e=.returned (.slice (some ⟨w.heap.size,0,none⟩) zs.length (zs.length+2))/\Below w.heap.size w w'/\w'.heap[w.heap.size]? = some (.cells (zs.map enc++[Value.int .u8 71,Value.int .u8 72]).toArray 5 (0,0)):=by
 obtain⟨n,hl⟩:∃n,zs.length=n:=⟨_,rfl⟩;rw[hl] at hn ⊢;have hmk:=run_make_u8 (n+2) (by omega);have hcast:((n+2:Nat):Int)=(n:Int)+2:=by omega
 rw[hcast] at hmk;obtain⟨ys,hys⟩:∃ys,ys=zs.map enc:=⟨_,rfl⟩;have hyl:ys.length=n:=by rw[hys];simpa using hl
 obtain⟨rs,hrs⟩:∃rs,rs=List.replicate (n+2) (Value.int .u8 0):=⟨_,rfl⟩;have hrl:rs.length=n+2:=by rw[hrs];simp
 rw[←hrs] at hmk;have HR:=Lib.hid hrs;clear hrs;have hcell:0<ys.length->∃ad,A=some ad/\∀j v,ys[j]? = some v->(w.alloc (.cells rs.toArray 5)).cell? (ad.add j)=some v:=by
  intro h0;obtain⟨b,o,hA,_⟩:=hx 0 (by omega);refine⟨_,hA,λj v hj=>?_⟩;have hjl:j<zs.length:=by have:=(List.getElem?_eq_some_iff.1 hj).1;omega
  obtain⟨b',o',hA',hc⟩:=hx j hjl;rw[hA] at hA';cases hA';have hv:v=.int .u8 (zs[j].toNat:Int):=by rw[hys] at hj;simp[hjl,enc] at hj;exact hj.symm
  rw[hv];have hc':=hc;rw[show (⟨b,o,none⟩:Addr).add j=⟨b,o+j,none⟩ by unfold Addr.add;split<;>simp_all];exact(World.cell?_alloc_lt w _ _ (block_lt_of_cell hc)).trans hc
 have HC:=Lib.hid hcell;clear hcell;have hone:∀v∈ys,v.oneCell'=true:=by rw[hys];intro v hv;obtain⟨z,_,rfl⟩:=List.mem_map.1 hv;rfl
 have HO:=Lib.hid hone;clear hone;have HY:=Lib.hid hys;clear hys;go_enter Tryz.func36,Tryz.ntmps36
 go_wp2_with ((with_reducible show wpList _ _ _ _ _ _);refine wpList_copy_splice (o:=⟨some 12,_,_,_,_,_⟩) ?g1 (.tmp 10) (.tmp 11) 22 22 ?g2 5 ?g3 ?g4 (some ⟨w.heap.size,0,none⟩) A (n+2) (n+2) n c ?g5 ?g6 w.heap.size 0 rs 5 ?g7 ys ?g8 ?g9 ?g10 ?g11 w.heap.size w ?g12 ?g13 ?g14;rotate_right;(intro w2 HG2 hB2;have hG2:=HG2.out;rw[HR.out,splice_made n ys hyl] at hG2;have hc0:w2.cell? ⟨w.heap.size,n,none⟩=some (Value.int .u8 0):=(by rw[World.cell_blk hG2];simp[hyl,enc]);have hc1:w2.cell? ⟨w.heap.size,n+1,none⟩=some (Value.int .u8 0):=(by rw[World.cell_blk hG2];simp[hyl,enc]);have hf0:∀j,w2.frozen? ⟨w.heap.size,j,none⟩=false:=World.frozen_blk hG2;have HG:=Lib.hid hG2;clear hG2 HG2);rotate_left;exact rfl;exact rfl;exact Tryz.underlying22;exact size5;exact rfl;exact rfl;exact heap_alloc_new w _;(rw[hyl];exact(Nat.min_eq_left (by omega)).symm);exact λh=>⟨rfl,HC.out h⟩;omega;exact HO.out;exact(Below.refl _ w).alloc (Nat.le_refl _) _;exact Nat.le_refl _;skip)
 go_ret
 exact⟨rfl,(hB2.setCell (p:=⟨w.heap.size,n,none⟩) (Nat.le_refl _) _).setCell (p:=⟨w.heap.size,n+1,none⟩) (Nat.le_refl _) _,by rw[←HY.out];exact heap_set2 HG.out hyl _ _⟩
theorem still_big (w:World)(g:Nat)(A:Option Addr)(c:Nat)(zs:List UInt8)(hn:zs.length<=1000000)(hg:w.heap[g]? = some (.cells (zs.map enc++[Value.int .u8 71,Value.int .u8 72]).toArray 5 (0,0)))(hx:Bytes w A zs) :
  Calls Tryz.prog 37 #[.slice (some ⟨g,0,none⟩) zs.length (zs.length+2),.slice A zs.length c] w λe w'=>e=.returned (.bool true)/\But g w w':=by
 have hnums:Nums w g (zs.length+2):=⟨_,hg,by simp,λj hj=>by
  rcases Nat.lt_or_ge j zs.length with h|h
  ·exact⟨zs[j].toNat,by simp[List.getElem?_append_left,h,enc]⟩
  ·rcases Nat.eq_or_lt_of_le h with h | h
   ·subst h;exact⟨71,by simp[enc]⟩
   ·obtain rfl:j=zs.length+1:=by omega
    exact⟨72,by simp[enc]⟩⟩
 have hy:Bytes w (some ⟨g,0,none⟩) zs:=λk hk=>⟨g,0,rfl,by rw[World.cell_blk hg];simp[List.getElem?_append_left,hk,enc]⟩
 have h71:w.cell? ⟨g,zs.length,none⟩=some (.int .u8 71):=by rw[World.cell_blk hg];simp[enc]
 have h72:w.cell? ⟨g,zs.length+1,none⟩=some (.int .u8 72):=by rw[World.cell_blk hg];simp[enc]
 have hfz:∀j,w.frozen? ⟨g,j,none⟩=false:=World.frozen_blk hg;have HM:=Lib.hid hnums;clear hnums;clear hg;obtain⟨n,hl⟩:∃n,zs.length=n:=⟨_,rfl⟩;rw[hl] at hn h71 h72 ⊢;go_enter Tryz.func37,Tryz.ntmps37
 rw[hl] at HM;go_wp2_with (go_at_call 21;refine(same_eq w (some ⟨g,0,none⟩) A _ _ n zs hl (by unfold maxLen;omega) hy hx).mono ?_;rintro e w' ⟨rfl,d,rfl⟩)
 go_loopw [8] (λi wr=>∃k:Nat,k<=n+2/\i=.int .i64 k/\Nums wr g (n+2)/\But g w wr) (λi _=>n+2-(intOf i).toNat)
 case atStart=>exact⟨0,Nat.zero_le _,rfl,HM.out,(But.refl g w).drewN _⟩
 case round=>
  obtain⟨k,hk,rfl,hN,hB⟩:=hrel;by_cases hlt:k<n+2
  ·obtain⟨z,hc,hf⟩:=hN.at_ hlt;have HN:=Lib.hid hN;clear hN;go_wp2
   go_roundw
   case rel=>exact⟨k+1,by omega,by go_num,HN.out.set _ _,hB.set _ _⟩
   case measure=>simp[intOf];omega
  ·go_wp2
   go_ret
   exact⟨rfl,hB⟩
end Go.Proofs.YtkmgcggoemlaaaaGreatDoor
end
