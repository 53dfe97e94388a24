/-
  Part 14 of the common ground of this seat: what single parts show stands ahead of each.
  No condition.
-/
import Derived.Test.YtkmgcggoemlaaaaGreatDoorJ13
import Derived.Test.YtkmgcggoemlaaaaGreatDoorJ09
set_option linter.unusedSimpArgs false
set_option linter.unusedVariables false
set_option linter.constructorNameAsVariable false
section
/- The applier's put, flush, more. -/
set_option maxHeartbeats 4000000
set_option maxRecDepth 100000
namespace Go.Proofs.YtkmgcggoemlaaaaGreatDoor
open Go.RowKit Go.Fwm
end Go.Proofs.YtkmgcggoemlaaaaGreatDoor
namespace Go
open Go Go.Fwm Go.RowKit Go.Proofs.YtkmgcggoemlaaaaGreatDoor
def Fwm.Ap.lay (a:Ap)(b:UInt8):Ap:={ a with page:=a.page.set (a.made%64) b,made:=a.made+1 }
end Go
namespace Go.Proofs.YtkmgcggoemlaaaaGreatDoor
open Go.RowKit Go.Fwm
theorem put_full (w:World)(G:Nat->Prop)(pa pf bf be:Nat)(a:Ap)(f:Fl)(h:ARep w G pa pf bf be a f)(b:UInt8)(hm:a.made<4096)(he:f.events.length<999999999)(hz:(a.made+1)%64=0) :
  Calls Tryz.prog 112 #[.pointer (some ⟨pa,0,none⟩),.int .u8 (b.toNat:Int)] w (WTo w G pa pf bf be (a.put f b)):=by
 have e1:a.put f b=(a.lay b).write f ((a.made+1)/64-1) 64:=by unfold Ap.put Ap.lay;simp only[hz,if_true]
 obtain⟨R,hR⟩:∃R,(a.lay b).write f ((a.made+1)/64-1) 64=R:=⟨_,rfl⟩;have HH:=Lib.hid h;have hR':=hR;rw[e1,hR];obtain⟨M,hM⟩:∃M,a.made=M:=⟨_,rfl⟩;obtain⟨j,hj⟩:∃j,M%64=j:=⟨_,rfl⟩;rw[hM] at hm hz;have HM:=Lib.hid hM;have HJ:=Lib.hid hj;have hj64:j<64:=by omega
 clear e1 h hR;have HR:=Lib.hid hR';clear hR';go_enter Tryz.func112,Tryz.ntmps112
 go_wp2
 refine wp_region_still_tail 10 (by kernel_rfl) (by kernel_rfl) ?_;change wpStill _ _ (World.drew _) _ _ _;generalize hw2:World.drew _=w2;have hat2:AAt w G pa pf bf be a f w2 be:=by rw[←hw2];exact(AAt.refl HH.out).drew
 have hF2:=hat2.rep.facts;have y9:=hF2.c9;rw[hM] at y9;have yj:=hF2.pg j hj64;have zj:=hF2.fz (12+j);have z9:=hF2.fz 9;have HW:=Lib.hid hw2;clear hw2;have HA2:=Lib.hid hat2;clear hat2 hF2;simp only[List.take_succ_cons,List.take_zero,List.drop_succ_cons,List.drop_zero];have i1:(0:Int)<=(j:Int):=by omega
 have i2:(j:Int)<64:=by omega
 have i0:(M:Int).tmod 64=(j:Int):=by rw[Int.tmod_eq_emod_of_nonneg (by omega)];omega
 have i3:IntKind.i64.wrap (j:Int)=(j:Int):=IntWalk.i64_in _ (by omega);clear hM hj;repeat still_step
 clear i0 i3;refine wpStill_nil ?_;change wpList _ _ _ _ _ (World.drew _);rw[HW.out];have t1:(((M:Int)+1)%64 == 0)=true:=by simp;omega
 have hat3:=(HA2.out.setPage j hj64 b).setMade (M+1) (by omega);have hlay:({ a with page:=a.page.set j b,made:=M+1 }:Ap)=a.lay b:=by unfold Ap.lay;rw[HM.out,HJ.out]
 rw[show ({ ({ a with page:=a.page.set j b }:Ap) with made:=M+1 }:Ap)=a.lay b from hlay] at hat3;rw[show ((M+1:Nat):Int)=(M:Int)+1 from by omega] at hat3;have hwr:=write_ok _ G pa pf bf be (a.lay b) f hat3.rep ((M+1)/64-1) 64 (Nat.le_refl _) he;have hR':=HR.out;rw[HM.out] at hR';rw[hR'] at hwr;clear hR';have HWR:=Lib.hid hwr;clear hwr;have HA3:=Lib.hid hat3;clear hat3 hlay;go_wp2_with (go_at_call 99;rw[show ((M:Int)+1)/64-1=(((M+1)/64-1:Nat):Int) from by omega];refine HWR.out.mono ?_;rintro e w3 ⟨rfl,hto⟩)
 go_ret
 obtain⟨be3,hat⟩:=hto;exact⟨rfl,be3,HA3.out.then_ hat⟩
theorem put_part (w:World)(G:Nat->Prop)(pa pf bf be:Nat)(a:Ap)(f:Fl)(h:ARep w G pa pf bf be a f)(b:UInt8)(hm:a.made<4096)(he:f.events.length<999999999)(hz:¬(a.made+1)%64=0) :
  Calls Tryz.prog 112 #[.pointer (some ⟨pa,0,none⟩),.int .u8 (b.toNat:Int)] w (WTo w G pa pf bf be (a.put f b)):=by
 have e1:a.put f b = { err:=none,a:=a.lay b,f }:=by unfold Ap.put Ap.lay;simp only[hz,if_false]
 have HH:=Lib.hid h;rw[e1];obtain⟨M,hM⟩:∃M,a.made=M:=⟨_,rfl⟩;obtain⟨j,hj⟩:∃j,M%64=j:=⟨_,rfl⟩;rw[hM] at hm hz;have HM:=Lib.hid hM;have HJ:=Lib.hid hj;have hj64:j<64:=by omega
 clear e1 h;go_enter Tryz.func112,Tryz.ntmps112
 go_wp2
 refine wp_region_still_tail 10 (by kernel_rfl) (by kernel_rfl) ?_;change wpStill _ _ (World.drew _) _ _ _;generalize hw2:World.drew _=w2;have hat2:AAt w G pa pf bf be a f w2 be:=by rw[←hw2];exact(AAt.refl HH.out).drew
 have hF2:=hat2.rep.facts;have y9:=hF2.c9;rw[hM] at y9;have yj:=hF2.pg j hj64;have zj:=hF2.fz (12+j);have z9:=hF2.fz 9;have HW:=Lib.hid hw2;clear hw2;have HA2:=Lib.hid hat2;clear hat2 hF2;simp only[List.take_succ_cons,List.take_zero,List.drop_succ_cons,List.drop_zero];have i1:(0:Int)<=(j:Int):=by omega
 have i2:(j:Int)<64:=by omega
 have i0:(M:Int).tmod 64=(j:Int):=by rw[Int.tmod_eq_emod_of_nonneg (by omega)];omega
 have i3:IntKind.i64.wrap (j:Int)=(j:Int):=IntWalk.i64_in _ (by omega);clear hM hj;repeat still_step
 clear i0 i3;refine wpStill_nil ?_;change wpList _ _ _ _ _ (World.drew _);rw[HW.out];have t1:(((M:Int)+1)%64 == 0)=false:=by simp;omega
 have hat3:=(HA2.out.setPage j hj64 b).setMade (M+1) (by omega);have hlay:({ a with page:=a.page.set j b,made:=M+1 }:Ap)=a.lay b:=by unfold Ap.lay;rw[HM.out,HJ.out]
 rw[show ({ ({ a with page:=a.page.set j b }:Ap) with made:=M+1 }:Ap)=a.lay b from hlay] at hat3;rw[show ((M+1:Nat):Int)=(M:Int)+1 from by omega] at hat3;have HA3:=Lib.hid hat3;clear hat3 hlay;go_wp2
 go_ret
 exact⟨rfl,be,HA3.out⟩
theorem put_ok (w:World)(G:Nat->Prop)(pa pf bf be:Nat)(a:Ap)(f:Fl)(h:ARep w G pa pf bf be a f)(b:UInt8)(hm:a.made<4096)(he:f.events.length<999999999) :
  Calls Tryz.prog 112 #[.pointer (some ⟨pa,0,none⟩),.int .u8 (b.toNat:Int)] w (WTo w G pa pf bf be (a.put f b)):=by
 by_cases hz:(a.made+1)%64=0
 ·exact put_full w G pa pf bf be a f h b hm he hz
 ·exact put_part w G pa pf bf be a f h b hm he hz
theorem flush_no (w:World)(G:Nat->Prop)(pa pf bf be:Nat)(a:Ap)(f:Fl)(h:ARep w G pa pf bf be a f)(hz:a.made%64=0) :
  Calls Tryz.prog 86 #[.pointer (some ⟨pa,0,none⟩)] w (WTo w G pa pf bf be (a.flush f)):=by
 have e1:a.flush f = { err:=none,a,f }:=by unfold Ap.flush;rw[if_neg (by omega)]
 have HH:=Lib.hid h;have c9:=h.facts.c9;have hml:=h.inv.made;rw[e1];obtain⟨M,hM⟩:∃M,a.made=M:=⟨_,rfl⟩;rw[hM] at hz c9 hml;have hz':¬((0:Int)<(M:Int)%64):=by omega
 clear e1 h hM hz;go_enter Tryz.func86,Tryz.ntmps86
 go_wp2
 go_ret
 exact⟨rfl,be,AAt.refl HH.out⟩
theorem flush_yes (w:World)(G:Nat->Prop)(pa pf bf be:Nat)(a:Ap)(f:Fl)(h:ARep w G pa pf bf be a f)(he:f.events.length<999999999)(hz:0<a.made%64) :
  Calls Tryz.prog 86 #[.pointer (some ⟨pa,0,none⟩)] w (WTo w G pa pf bf be (a.flush f)):=by
 have e1:a.flush f=a.write f (a.made/64) (a.made%64):=by unfold Ap.flush;rw[if_pos hz]
 have hwr:=write_ok w G pa pf bf be a f h (a.made/64) (a.made%64) (by omega) he;have HH:=Lib.hid h;have c9:=h.facts.c9;have hml:=h.inv.made;rw[e1];generalize a.write f (a.made/64) (a.made%64)=R at hwr;obtain⟨M,hM⟩:∃M,a.made=M:=⟨_,rfl⟩;rw[hM] at hz c9 hml hwr;have hz':((0:Int)<(M:Int)%64):=by omega
 have HWR:=Lib.hid hwr;clear hwr;clear e1 h hM hz;go_enter Tryz.func86,Tryz.ntmps86
 go_wp2_with (go_at_call 99;rw[show (M:Int)/64=((M/64:Nat):Int) from by omega,show (M:Int)%64=((M%64:Nat):Int) from by omega];refine HWR.out.mono ?_;rintro e w3 ⟨rfl,hto⟩)
 go_ret
 exact⟨rfl,hto⟩
theorem flush_ok (w:World)(G:Nat->Prop)(pa pf bf be:Nat)(a:Ap)(f:Fl)(h:ARep w G pa pf bf be a f)(he:f.events.length<999999999) :
  Calls Tryz.prog 86 #[.pointer (some ⟨pa,0,none⟩)] w (WTo w G pa pf bf be (a.flush f)):=by
 by_cases hz:a.made%64=0
 ·exact flush_no w G pa pf bf be a f h hz
 ·exact flush_yes w G pa pf bf be a f h he (by omega)
def STo (w:World)(G:Nat->Prop)(pa pf bf be:Nat)(r:R)(e:Ending)(w':World):Prop:=
 ∃v,e=.returned (.tuple #[v,errV r.err])/\(r.err=none->v=stV r.st)/\ATo w G pa pf bf be r.a r.f w'
theorem more_ok (w:World)(G:Nat->Prop)(pa pf bf be:Nat)(a:Ap)(f:Fl)(h:ARep w G pa pf bf be a f)(he:f.events.length<999999999) :
  Calls Tryz.prog 80 #[.pointer (some ⟨pa,0,none⟩)] w (STo w G pa pf bf be (a.more f)):=by
 have hF:=h.facts;have c9:=hF.c9;have c8:=hF.c8;have hml:=h.inv.made;have hll:=h.inv.length;have HH:=Lib.hid h;obtain⟨M,hM⟩:∃M,a.made=M:=⟨_,rfl⟩;obtain⟨L,hL⟩:∃L,a.length=L:=⟨_,rfl⟩;rw[hM] at c9 hml;rw[hL] at c8 hll;by_cases hlt:M<L
 ·have e1:a.more f = { err:=none,st:=.step,a,f }:=by unfold Ap.more;rw[if_pos (by omega)]
  rw[e1];have hi:(M:Int)<(L:Int):=by omega
  clear e1 h hM hL hF hlt;go_enter Tryz.func80,Tryz.ntmps80
  go_wp2
  go_quiet (fail)
  go_wp2
  go_ret2
  exact⟨_,rfl,λ_=>rfl,be,(AAt.refl HH.out).drewN _⟩
 ·have e1:a.more f = { err:=(a.flush f).err,st:=.fin,a:=(a.flush f).a,f:=(a.flush f).f }:=by unfold Ap.more;rw[if_neg (by omega)]
  rw[e1];have hi:¬((M:Int)<(L:Int)):=by omega
  have hfl:=λk=>flush_ok (w.drewN k) G pa pf bf be a f ((AAt.refl h).drewN k).rep he
  generalize a.flush f=R at hfl;have HFL:=Lib.hid hfl;clear hfl;clear e1 h hM hL hF hlt;go_enter Tryz.func80,Tryz.ntmps80
  go_wp2
  go_quiet (fail)
  go_wp2_with (go_at_call 86;refine(HFL.out _).mono ?_;rintro e w3 ⟨rfl,hto⟩)
  go_ret2
  obtain⟨be3,hat⟩:=hto;exact⟨_,rfl,λ_=>rfl,be3,((AAt.refl HH.out).drewN _).then_ hat⟩
end Go.Proofs.YtkmgcggoemlaaaaGreatDoor
end
section
/- The applier's read and copy. -/
set_option maxHeartbeats 2000000
namespace Go.Proofs.YtkmgcggoemlaaaaGreatDoor
open Go.RowKit Go.Fwm
theorem AAt.setBuf {w w':World}{G:Nat->Prop}{pa pf bf be be':Nat}{a:Ap}{f:Fl}(h:AAt w G pa pf bf be a f w' be')(A:Option Addr)(c:Nat)(zs:List UInt8)(hb:Bytes w' A zs)
  (haw:Away (AF_ (PX pa G) pf bf be') A) (hlt:∀x,A=some x->x.block<w'.heap.size) (hc:zs.length<=c/\c<=maxLen) :
  AAt w G pa pf bf be { a with buf:=zs } f (w'.setCell ⟨pa,76,none⟩ (.slice A zs.length c)) be':=by
 obtain⟨⟨⟨vf,A0,c0,h1,h2,h3,h4,h5,h6⟩,hfl,ne,ng,hg,hi⟩,hbq,hon⟩:=h;have ho:Only (λb=>b=pa) w' (w'.setCell ⟨pa,76,none⟩ (.slice A zs.length c)):=(Only.refl _ _).set _ (.inl rfl);have hp:=hi.page;refine⟨⟨⟨vf,A,c,?_,?_,hb.only ho λx hx e=>haw x hx (.inl (.inl e)),haw,λx hx=>Nat.lt_of_lt_of_le (hlt x hx) ho.le,hc⟩,hfl.only ho λb x _=>?_,ne,ng,λb hb=>Nat.lt_of_lt_of_le (hg b hb) ho.le,{ hi with }⟩,hbq,hon.set _ (.inl (.inl rfl))⟩
 ·have:=h1.set 76 (.slice A zs.length c);have e:(apCells a pf vf (.slice A0 a.buf.length c0)).set 76 (.slice A zs.length c)=apCells { a with buf:=zs } pf vf (.slice A zs.length c):=by
   unfold apCells;rw[List.set_append_right _ _ (by simp)];rw[List.set_append_right _ _ (by simp;omega)];congr 2;simp[hp]
  rw[e] at this;exact this
 ·cases hf:a.fault with
  | none=>rw[hf] at h2;exact h2
  | errno n=>rw[hf] at h2;exact h2
  | wrapped n=>
   rw[hf] at h2;obtain⟨b,at_,q1,q2,q3⟩:=h2;exact⟨b,at_,q1,q2,q3.setNe _ λe=>q2 (.inl (.inl e))⟩
 ·subst x;exact⟨.inl rfl,ne.1,ne.2.1,ne.2.2⟩
theorem ARep.c76 {w:World}{G:Nat->Prop}{pa pf bf be:Nat}{a:Ap}{f:Fl}(h:ARep w G pa pf bf be a f):∃A c,w.cell? ⟨pa,76,none⟩=some (.slice A a.buf.length c)/\Bytes w A a.buf/\Away (AF_ (PX pa G) pf bf be) A/\(∀x,A=some x->x.block<w.heap.size)/\a.buf.length<=c/\c<=maxLen:=by
 obtain⟨vf,A,c,h1,h2,h3,h4,h5,h6⟩:=h.blk;refine⟨A,c,h1.cell ?_,h3,h4,h5,h6⟩;have hp:=h.inv.page;unfold apCells;rw[List.getElem?_append_right (by simp)];rw[List.getElem?_append_right (by simp;omega)];simp[hp]
theorem RdTo.applier {w w':World}{G:Nat->Prop}{pa pf bf be:Nat}{a:Ap}{f:Fl}{r:RdR}{e:Ending}(h:ARep w G pa pf bf be a f)(k:RdTo w (PX pa G) pf bf be r e w') :
  ∃A c be',e=.returned (.tuple #[.slice A r.buf.length c,errV r.err])/\AAt w G pa pf bf be a r.f w' be'/\AAt w G pa pf bf be { a with buf:=r.buf } r.f (w'.setCell ⟨pa,76,none⟩ (.slice A r.buf.length c)) be':=by
 obtain⟨A,c,be',h1,h2,h3,h4⟩:=k;have hA:=h.flash h2;refine⟨A,c,be',h1,hA,hA.setBuf A c r.buf h3.bytes (λx hx y=>?_) (λx hx=>(h3.new_ x hx).2.1) h3.cap⟩;obtain⟨n1,_⟩:=h3.new_ x hx;obtain⟨m1,m2,m3⟩:=h4 x hx;obtain⟨_,_,_,g1,_⟩:=h.blk;have:=g1.lt;rcases y with(y|y)|y|y|y
 ·omega
 ·have:=h.glt _ y;omega
 ·omega
 ·omega
 ·omega
theorem aread_err (w:World)(G:Nat->Prop)(pa pf bf be:Nat)(a:Ap)(f:Fl)(h:ARep w G pa pf bf be a f)(at_ n:Nat)(ha:at_+min n 64<=f.old.length)(hrd:f.reads<1000000000000)(x:Nat)(hx:(f.read at_ (min n 64)).err=some x) :
  Calls Tryz.prog 70 #[.pointer (some ⟨pa,0,none⟩),.int .i64 (at_:Int),.int .i64 (n:Int)] w (WTo w G pa pf bf be (a.read f at_ n)):=by
 have hr:=read_ok w (PX pa G) pf bf be f h.fl at_ (min n 64) ha hrd;have e1:a.read f at_ n = { err:=some x,a:={ a with buf:=(f.read at_ (min n 64)).buf },f:=(f.read at_ (min n 64)).f }:=by unfold Ap.read;simp only[hx]
 rw[e1];generalize f.read at_ (min n 64)=r at hr hx;obtain⟨m,hm⟩:∃m,min n 64=m:=⟨_,rfl⟩;rw[hm] at hr;have hcs:(m=n/\n<=64)\/(m=64/\64<n):=by omega
 have c0:=h.facts.c0;have z76:=h.facts.fz 76;have HH:=Lib.hid h;have HR:=Lib.hid hr;clear hr;have HX:=Lib.hid hx;clear hx;clear e1 h hm ha;rcases hcs with⟨rfl,hc⟩|⟨rfl,hc⟩
 ·have hi:¬((64:Int)<(m:Int)):=by omega
  go_enter Tryz.func70,Tryz.ntmps70
  go_wp2_with (go_at_call 79;refine HR.out.mono ?_;intro e w1 hto;obtain⟨A,c,be1,rfl,hA,hB⟩:=RdTo.applier HH.out hto;rw[HX.out];unfold errV;obtain⟨A9,c9,y76,_⟩:=hA.rep.c76;have y77:=hA.rep.facts.fz 76;have HB:=Lib.hid hB;clear hto hA hB)
  go_ret
  exact⟨rfl,be1,HB.out⟩
 ·have hi:(64:Int)<(n:Int):=by omega
  go_enter Tryz.func70,Tryz.ntmps70
  go_wp2_with (go_at_call 79;refine HR.out.mono ?_;intro e w1 hto;obtain⟨A,c,be1,rfl,hA,hB⟩:=RdTo.applier HH.out hto;rw[HX.out];unfold errV;obtain⟨A9,c9,y76,_⟩:=hA.rep.c76;have y77:=hA.rep.facts.fz 76;have HB:=Lib.hid hB;clear hto hA hB)
  go_ret
  exact⟨rfl,be1,HB.out⟩
theorem aread_zero (w:World)(G:Nat->Prop)(pa pf bf be:Nat)(a:Ap)(f:Fl)(h:ARep w G pa pf bf be a f)(at_ n:Nat)(ha:at_+min n 64<=f.old.length)(hrd:f.reads<1000000000000)(hx:(f.read at_ (min n 64)).err=none/\(f.read at_ (min n 64)).buf.length=0) :
  Calls Tryz.prog 70 #[.pointer (some ⟨pa,0,none⟩),.int .i64 (at_:Int),.int .i64 (n:Int)] w (WTo w G pa pf bf be (a.read f at_ n)):=by
 have hr:=read_ok w (PX pa G) pf bf be f h.fl at_ (min n 64) ha hrd;have e1:a.read f at_ n = { err:=some 2,a:={ a with buf:=(f.read at_ (min n 64)).buf },f:=(f.read at_ (min n 64)).f }:=by unfold Ap.read;simp[hx]
 rw[e1];generalize f.read at_ (min n 64)=r at hr hx;obtain⟨m,hm⟩:∃m,min n 64=m:=⟨_,rfl⟩;rw[hm] at hr;have hcs:(m=n/\n<=64)\/(m=64/\64<n):=by omega
 have c0:=h.facts.c0;have z76:=h.facts.fz 76;have HH:=Lib.hid h;have HR:=Lib.hid hr;clear hr;have HX:=Lib.hid hx;clear hx;clear e1 h hm ha;rcases hcs with⟨rfl,hc⟩|⟨rfl,hc⟩
 ·have hi:¬((64:Int)<(m:Int)):=by omega
  go_enter Tryz.func70,Tryz.ntmps70
  go_wp2_with (go_at_call 79;refine HR.out.mono ?_;intro e w1 hto;obtain⟨A,c,be1,rfl,hA,hB⟩:=RdTo.applier HH.out hto;rw[HX.out.1,HX.out.2];unfold errV;obtain⟨A9,c9,y76,_⟩:=hA.rep.c76;have y77:=hA.rep.facts.fz 76;rw[HX.out.2] at hB;have HB:=Lib.hid hB;clear hto hA hB)
  go_ret
  exact⟨rfl,be1,HB.out⟩
 ·have hi:(64:Int)<(n:Int):=by omega
  go_enter Tryz.func70,Tryz.ntmps70
  go_wp2_with (go_at_call 79;refine HR.out.mono ?_;intro e w1 hto;obtain⟨A,c,be1,rfl,hA,hB⟩:=RdTo.applier HH.out hto;rw[HX.out.1,HX.out.2];unfold errV;obtain⟨A9,c9,y76,_⟩:=hA.rep.c76;have y77:=hA.rep.facts.fz 76;rw[HX.out.2] at hB;have HB:=Lib.hid hB;clear hto hA hB)
  go_ret
  exact⟨rfl,be1,HB.out⟩
theorem aread_some (w:World)(G:Nat->Prop)(pa pf bf be:Nat)(a:Ap)(f:Fl)(h:ARep w G pa pf bf be a f)(at_ n:Nat)(ha:at_+min n 64<=f.old.length)(hrd:f.reads<1000000000000)(hx:(f.read at_ (min n 64)).err=none/\(f.read at_ (min n 64)).buf.length≠0) :
  Calls Tryz.prog 70 #[.pointer (some ⟨pa,0,none⟩),.int .i64 (at_:Int),.int .i64 (n:Int)] w (WTo w G pa pf bf be (a.read f at_ n)):=by
 have hr:=read_ok w (PX pa G) pf bf be f h.fl at_ (min n 64) ha hrd;have e1:a.read f at_ n = { err:=none,a:={ a with buf:=(f.read at_ (min n 64)).buf },f:=(f.read at_ (min n 64)).f }:=by unfold Ap.read;simp[hx]
 rw[e1];generalize f.read at_ (min n 64)=r at hr hx;obtain⟨m,hm⟩:∃m,min n 64=m:=⟨_,rfl⟩;rw[hm] at hr;have hcs:(m=n/\n<=64)\/(m=64/\64<n):=by omega
 have c0:=h.facts.c0;have z76:=h.facts.fz 76;have HH:=Lib.hid h;have HR:=Lib.hid hr;clear hr;have HX:=Lib.hid hx;clear hx;clear e1 h hm ha;rcases hcs with⟨rfl,hc⟩|⟨rfl,hc⟩
 ·have hi:¬((64:Int)<(m:Int)):=by omega
  go_enter Tryz.func70,Tryz.ntmps70
  go_wp2_with (go_at_call 79;refine HR.out.mono ?_;intro e w1 hto;obtain⟨A,c,be1,rfl,hA,hB⟩:=RdTo.applier HH.out hto;rw[HX.out.1];unfold errV;have hbl:((r.buf.length:Int) == 0)=false:=(by have:=HX.out.2;simpa using this);obtain⟨A9,c9,y76,_⟩:=hA.rep.c76;have y77:=hA.rep.facts.fz 76;have HB:=Lib.hid hB;clear hto hA hB)
  go_ret
  exact⟨rfl,be1,HB.out⟩
 ·have hi:(64:Int)<(n:Int):=by omega
  go_enter Tryz.func70,Tryz.ntmps70
  go_wp2_with (go_at_call 79;refine HR.out.mono ?_;intro e w1 hto;obtain⟨A,c,be1,rfl,hA,hB⟩:=RdTo.applier HH.out hto;rw[HX.out.1];unfold errV;have hbl:((r.buf.length:Int) == 0)=false:=(by have:=HX.out.2;simpa using this);obtain⟨A9,c9,y76,_⟩:=hA.rep.c76;have y77:=hA.rep.facts.fz 76;have HB:=Lib.hid hB;clear hto hA hB)
  go_ret
  exact⟨rfl,be1,HB.out⟩
theorem aread_ok (w:World)(G:Nat->Prop)(pa pf bf be:Nat)(a:Ap)(f:Fl)(h:ARep w G pa pf bf be a f)(at_ n:Nat)(ha:at_+min n 64<=f.old.length)(hrd:f.reads<1000000000000) :
  Calls Tryz.prog 70 #[.pointer (some ⟨pa,0,none⟩),.int .i64 (at_:Int),.int .i64 (n:Int)] w (WTo w G pa pf bf be (a.read f at_ n)):=by
 cases hx:(f.read at_ (min n 64)).err with
 | some x=>exact aread_err w G pa pf bf be a f h at_ n ha hrd x hx
 | none=>
  by_cases hl:(f.read at_ (min n 64)).buf.length=0
  ·exact aread_zero w G pa pf bf be a f h at_ n ha hrd ⟨hx,hl⟩
  ·exact aread_some w G pa pf bf be a f h at_ n ha hrd ⟨hx,hl⟩
end Go.Proofs.YtkmgcggoemlaaaaGreatDoor
end
section
/- The applier's copy. -/
set_option maxHeartbeats 4000000
set_option maxRecDepth 100000
namespace Go.Proofs.YtkmgcggoemlaaaaGreatDoor
open Go.RowKit Go.Fwm
theorem copy_bad (w:World)(G:Nat->Prop)(pa pf bf be:Nat)(a:Ap)(f:Fl)(h:ARep w G pa pf bf be a f)(at_ n:Nat)(hat:at_<=100000)(hn:n<=100000)(hs:a.size<at_+n) :
  Calls Tryz.prog 108 #[.pointer (some ⟨pa,0,none⟩),.int .i64 (at_:Int),.int .i64 (n:Int)] w (WTo w G pa pf bf be (a.copy f at_ n)):=by
 have e1:a.copy f at_ n = { err:=some 2,a,f }:=by unfold Ap.copy;rw[if_pos hs]
 have c7:=h.facts.c7;have HH:=Lib.hid h;rw[e1];have hi:(a.size:Int)<(at_:Int)+(n:Int):=by omega
 clear e1 h hs;go_enter Tryz.func108,Tryz.ntmps108
 go_wp2
 go_ret
 exact⟨rfl,be,AAt.refl HH.out⟩
structure Cp (w:World) (G:Nat->Prop) (pa pf bf be:Nat) (res:AR) (E Rd:Nat) (at' n':Nat) (wr:World):Prop where
 ex:∃be' a' f' k,AAt w G pa pf bf be a' f' wr be'/\n'<=k/\res=a'.copyL f' at' k n'/\at'+n'<=f'.old.length/\a'.made+n'<=4096/\f'.events.length+2*n'<=E/\f'.reads+n'<=Rd/\f'.old.length<=4096
structure Cq (w:World) (G:Nat->Prop) (pa pf bf be:Nat) (a:Ap) (f:Fl) (A:Option Addr) (j:Nat) (wr:World):Prop where
 ex:∃be' a' f',AAt w G pa pf bf be a' f' wr be'/\a.puts f a.buf=a'.puts f' (a.buf.drop j)/\a'.buf=a.buf/\a'.made=a.made+j/\f'.events.length<=f.events.length+2*j
 bytes:Bytes wr A a.buf
theorem copyL_err {a:Ap}{f:Fl}{i k n x:Nat}(hn:0<n)(h:(a.read f i n).err=some x):a.copyL f i (k+1) n = { err:=some x,a:=(a.read f i n).a,f:=(a.read f i n).f }:=by
 unfold Ap.copyL;rw[if_neg (by omega)];simp only[h]
theorem copyL_puts {a:Ap}{f:Fl}{i k n:Nat}(hn:0<n)(h:(a.read f i n).err=none):a.copyL f i (k+1) n =
  match ((a.read f i n).a.puts (a.read f i n).f (a.read f i n).a.buf).err with
  | some e=>{ err:=some e,a:=((a.read f i n).a.puts (a.read f i n).f (a.read f i n).a.buf).a,f:=((a.read f i n).a.puts (a.read f i n).f (a.read f i n).a.buf).f }
  | none=>((a.read f i n).a.puts (a.read f i n).f (a.read f i n).a.buf).a.copyL ((a.read f i n).a.puts (a.read f i n).f (a.read f i n).a.buf).f (i+(a.read f i n).a.buf.length) k (n-(a.read f i n).a.buf.length):=by
 conv=>lhs;unfold Ap.copyL
 rw[if_neg (by omega)];simp only[h];rfl
theorem copyL_zero {a:Ap}{f:Fl}{i k:Nat}:a.copyL f i k 0 = { err:=none,a,f }:=by
 cases k<;>simp[Ap.copyL]
theorem puts_cons_err {a:Ap}{f:Fl}{b:UInt8}{l:List UInt8}{x:Nat}(h:(a.put f b).err=some x):a.puts f (b :: l) = { err:=some x,a:=(a.put f b).a,f:=(a.put f b).f }:=by
 conv=>lhs;unfold Ap.puts
 simp only[h]
theorem puts_cons {a:Ap}{f:Fl}{b:UInt8}{l:List UInt8}(h:(a.put f b).err=none):a.puts f (b :: l)=(a.put f b).a.puts (a.put f b).f l:=by
 conv=>lhs;unfold Ap.puts
 simp only[h]
theorem copy_good (w:World)(G:Nat->Prop)(pa pf bf be:Nat)(a:Ap)(f:Fl)(h:ARep w G pa pf bf be a f)(at_ n:Nat)(hs:at_+n<=a.size)(hsz:a.size=f.old.length)(hm:a.made+n<=4096)(he:f.events.length+2*n<999999999)(hrd:f.reads+n<1000000000000) :
  Calls Tryz.prog 108 #[.pointer (some ⟨pa,0,none⟩),.int .i64 (at_:Int),.int .i64 (n:Int)] w (WTo w G pa pf bf be (a.copy f at_ n)):=by
 have e1:a.copy f at_ n=a.copyL f at_ n n:=by unfold Ap.copy;rw[if_neg (by omega)]
 rw[e1];obtain⟨res,hres⟩:∃res,a.copyL f at_ n n=res:=⟨_,rfl⟩;rw[hres];have c7:=h.facts.c7;have hsl:=h.inv.size;obtain⟨E,hE⟩:∃E,f.events.length+2*n=E:=⟨_,rfl⟩;obtain⟨Rd,hRd⟩:∃Rd,f.reads+n=Rd:=⟨_,rfl⟩;have hcp:Cp w G pa pf bf be res E Rd at_ n w:=⟨⟨be,a,f,n,AAt.refl h,Nat.le_refl _,hres.symm,by omega,hm,by omega,by omega,by omega⟩⟩;have hi:¬((a.size:Int)<(at_:Int)+(n:Int)):=by omega
 rw[hE] at he;rw[hRd] at hrd;have HCP:=Lib.hid hcp;clear hcp;have b1:at_+n<=4096:=by omega
 clear e1 h hs hsz hm hE hRd hres;go_enter Tryz.func108,Tryz.ntmps108
 go_wp2
 go_loopw [1,2] (λx y wr=>∃at' n':Nat,x=.int .i64 at'/\y=.int .i64 n'/\at'+n'<=4096/\Cp w G pa pf bf be res E Rd at' n' wr) (λ_ y _=>(intOf y).toNat)
 case atStart=>exact⟨at_,n,rfl,rfl,b1,HCP.out⟩
 case round=>
  obtain⟨at',n',rfl,rfl,hb,⟨be1,a1,f1,k,hat,hk,hr,h1,h2,h3,h4,h5⟩⟩:=hrel;by_cases hn0:0<n'
  ·have hrd:=aread_ok wr G pa pf bf be1 a1 f1 hat.rep at' n' (by omega) (by omega);obtain⟨r,hrr⟩:∃r,a1.read f1 at' n'=r:=⟨_,rfl⟩;rw[hrr] at hrd;have HRD:=Lib.hid hrd;clear hrd;have HRR:=Lib.hid hrr;clear hrr;have HAT:=Lib.hid hat;clear hat;have HR:=Lib.hid hr;clear hr;obtain⟨k0,rfl⟩:∃k0,k=k0+1:=⟨k-1,by omega⟩;cases herr:r.err with
   | some x=>
    have HX:=Lib.hid herr;clear herr;go_wp2_with (go_at_call 70;refine HRD.out.mono ?_;rintro e w1 ⟨rfl,hto⟩;rw[HX.out];unfold errV)
    go_ret
    obtain⟨be2,hat2⟩:=hto;have hx:=HX.out;rw[←HRR.out] at hx;have hr:=HR.out;rw[copyL_err hn0 hx] at hr;rw[hr];refine⟨rfl,be2,?_⟩;rw[HRR.out];exact HAT.out.then_ hat2
   | none=>
    obtain⟨wo,rfl⟩:∃wo:World,wo=wr:=⟨_,rfl⟩;have hkr:=Ap.read_keep a1 f1 at' n';rw[HRR.out] at hkr;obtain⟨hk1,hk2,hk3⟩:=hkr;obtain⟨hk3,hk4⟩:=hk3 herr;obtain⟨L,hL⟩:∃L,r.a.buf.length=L:=⟨_,rfl⟩;have hLm:L=min n' 64:=by rw[←hL,hk3];simp;omega
    have hL1:L<=n':=by omega
    have hL0:0<L:=by omega
    have hLs:L<=64:=by omega
    have hmade:=hk2;have hevs:=hk1.events;have HL:=Lib.hid hL;clear hL hLm;have HK1:=Lib.hid hk1;clear hk1;have HK2:=Lib.hid hk2;clear hk2 hmade;have HK3:=Lib.hid hk3;clear hk3 hk4;have HX:=Lib.hid herr;clear herr;clear hevs;go_wp2_with (go_at_call 70;refine HRD.out.mono ?_;rintro e w1 ⟨rfl,hto⟩;rw[HX.out];unfold errV;obtain⟨be2,hat2⟩:=hto;obtain⟨A,c,y76,hby,haw,hlt,hcc⟩:=hat2.rep.c76;rw[HL.out] at y76;have HB:=Lib.hid hby;have HAW:=Lib.hid haw;have HLT:=Lib.hid hlt;have HA2:=Lib.hid hat2;clear hat2 hby haw hlt hcc)
    go_loopw [34] (λi wr=>∃j:Nat,j<=L/\i=.int .i64 j/\Cq w1 G pa pf bf be2 r.a r.f A j wr) (λi _=>L-(intOf i).toNat)
    case atStart=>exact⟨0,Nat.zero_le _,rfl,⟨be2,r.a,r.f,AAt.refl HA2.out.rep,rfl,rfl,rfl,Nat.le_refl _⟩,HB.out⟩
    case round=>
     obtain⟨j,hj,rfl,⟨be3,a3,f3,hat3,hp3,hb3,hm3,hev3⟩,hby⟩:=hrel;by_cases hjl:j<L
     ·have hjb:j<r.a.buf.length:=by rw[HL.out];exact hjl
      have hdrop:r.a.buf.drop j=r.a.buf[j] :: r.a.buf.drop (j+1):=List.drop_eq_getElem_cons hjb;have haw3:Away (AO pa pf bf be3) A:=by
       intro x hx y;rcases y with y|y|y|y
       ·exact HAW.out x hx (.inl (.inl y))
       ·exact HAW.out x hx (.inr (.inl y))
       ·exact HAW.out x hx (.inr (.inr (.inl y)))
       ·rcases hat3.bq with z | z
        ·exact HAW.out x hx (.inr (.inr (.inr (y.trans z))))
        ·have:=HLT.out x hx;omega
      obtain⟨b8,o8,rfl,hc8⟩:=hby j hjb;obtain⟨x,hx8⟩:∃x,r.a.buf[j]=x:=⟨_,rfl⟩;rw[hx8] at hc8 hdrop;have hput:=put_ok wr G pa pf bf be3 a3 f3 hat3.rep x (by rw[hm3,HK2.out];omega) (by have:=HK1.out.events;omega);have hpk:=Ap.put_keep a3 f3 x;obtain⟨q,hq⟩:∃q,a3.put f3 x=q:=⟨_,rfl⟩;rw[hq] at hput hpk;have HPUT:=Lib.hid hput;clear hput;have HPK:=Lib.hid hpk;clear hpk;have HQ:=Lib.hid hq;clear hq;have HD:=Lib.hid hdrop;clear hdrop;have HA3:=Lib.hid hat3;clear hat3;have HP3:=Lib.hid hp3;clear hp3;have HM3:=Lib.hid hm3;clear hm3;have HB3:=Lib.hid hb3;clear hb3;have HBY:=Lib.hid hby;clear hby;have HAW3:=Lib.hid haw3;clear haw3 hx8;cases hqe:q.err with
      | some y=>
       have HY:=Lib.hid hqe;clear hqe;go_wp2_with (go_at_call 112;refine HPUT.out.mono ?_;rintro e w4 ⟨rfl,hto⟩;rw[HY.out];unfold errV)
       go_ret
       obtain⟨be4,hat4⟩:=hto;have hx:=HX.out;rw[←HRR.out] at hx;have hr:=HR.out;have hy:=HY.out;rw[←HQ.out] at hy;rw[copyL_puts hn0 hx,HRR.out,HP3.out,HD.out,puts_cons_err hy] at hr;simp only at hr;rw[hr,HQ.out];exact⟨rfl,be4,((HAT.out.then_ HA2.out).then_ HA3.out).then_ hat4⟩
      | none=>
       have HY:=Lib.hid hqe;clear hqe;go_wp2_with (go_at_call 112;refine HPUT.out.mono ?_;rintro e w4 ⟨rfl,hto⟩;rw[HY.out];unfold errV;obtain⟨be4,hat4⟩:=hto;have HA4:=Lib.hid hat4;clear hat4)
       go_roundw
       case rel=>
        obtain⟨p1,p2,p3⟩:=HPK.out;have hy:=HY.out;rw[←HQ.out] at hy;refine⟨j+1,by omega,by go_num,⟨be4,q.a,q.f,HA3.out.then_ HA4.out,?_,p3.trans HB3.out,?_,?_⟩,HBY.out.only HA4.out.on HAW3.out⟩
        ·rw[HP3.out,HD.out,puts_cons hy,HQ.out]
        ·rw[p2,HM3.out];omega
        ·have:=p1.events;omega
       case measure=>simp[intOf];omega
     ·have hjL:j=L:=by omega
      obtain⟨A5,c5,y5,_,_,_,_⟩:=hat3.rep.c76;rw[hb3,HL.out] at y5;have hputs:r.a.puts r.f r.a.buf = { err:=none,a:=a3,f:=f3 }:=by
       rw[hp3,hjL,List.drop_of_length_le (by rw[HL.out];exact Nat.le_refl _)];rfl
      have HPU:=Lib.hid hputs;clear hputs;have HA3:=Lib.hid hat3;clear hat3;have HM3:=Lib.hid hm3;clear hm3;clear hp3 hb3 hby hjL hev3;go_wp2
      go_roundw
      case rel=>
       have hx:=HX.out;rw[←HRR.out] at hx;have hr:=HR.out;rw[copyL_puts hn0 hx,HRR.out,HPU.out] at hr;simp only at hr;rw[HL.out] at hr;have hpk:=Ap.puts_keep r.a.buf r.a r.f;rw[HPU.out] at hpk;obtain⟨p1,p2,_,p4⟩:=hpk;have p4:=p4 rfl;simp only at p1 p4;rw[HL.out] at p1 p4;have q1:=HK1.out;have m1:=HK2.out;refine⟨at'+L,n'-L,by go_num,by rw[show ((n'-L:Nat):Int)=(n':Int)-(L:Int) by omega],by omega,⟨be3,a3,f3,k0,(HAT.out.then_ HA2.out).then_ HA3.out,by omega,hr,?_,?_,?_,?_,?_⟩⟩
       ·rw[p1.old,q1.old];omega
       ·omega
       ·have:=p1.events;have:=q1.events;omega
       ·have:=p1.reads;have:=q1.reads;omega
       ·rw[p1.old,q1.old];exact h5
      case measure=>simp[intOf];omega
  ·obtain rfl:n'=0:=by omega
   rw[copyL_zero] at hr;have HAT:=Lib.hid hat;clear hat;have HR:=Lib.hid hr;clear hr;go_wp2
   go_ret
   rw[HR.out];exact⟨rfl,be1,HAT.out⟩
theorem copy_ok (w:World)(G:Nat->Prop)(pa pf bf be:Nat)(a:Ap)(f:Fl)(h:ARep w G pa pf bf be a f)(at_ n:Nat)(hat:at_<=100000)(hsz:a.size=f.old.length)(hm:a.made+n<=4096)(he:f.events.length+2*n<999999999)(hrd:f.reads+n<1000000000000) :
  Calls Tryz.prog 108 #[.pointer (some ⟨pa,0,none⟩),.int .i64 (at_:Int),.int .i64 (n:Int)] w (WTo w G pa pf bf be (a.copy f at_ n)):=by
 by_cases hs:a.size<at_+n
 ·exact copy_bad w G pa pf bf be a f h at_ n hat (by omega) hs
 ·exact copy_good w G pa pf bf be a f h at_ n (by omega) hsz hm he hrd
end Go.Proofs.YtkmgcggoemlaaaaGreatDoor
end
section
/- What takes a byte: over, end, step, own, beside. -/
set_option maxHeartbeats 2000000
namespace Go.Proofs.YtkmgcggoemlaaaaGreatDoor
open Go.RowKit Go.Fwm
theorem over_ok (w:World)(G:Nat->Prop)(pa pf bf be:Nat)(a:Ap)(f:Fl)(h:ARep w G pa pf bf be a f)(b:UInt8)(hst:a.st=.over) :
  Calls Tryz.prog 98 #[.pointer (some ⟨pa,0,none⟩),.int .u8 (b.toNat:Int)] w (STo w G pa pf bf be (a.stepB f b)):=by
 have e1:a.stepB f b = { err:=some 6,st:=.over,a,f }:=by unfold Ap.stepB;rw[hst]
 rw[e1];have HH:=Lib.hid h;clear e1 h hst;go_enter Tryz.func98,Tryz.ntmps98
 go_wp2
 go_ret2
 exact⟨_,rfl,λh=>(by cases h),be,AAt.refl HH.out⟩
theorem fin_ok (w:World)(G:Nat->Prop)(pa pf bf be:Nat)(a:Ap)(f:Fl)(h:ARep w G pa pf bf be a f)(b:UInt8)(hst:a.st=.fin)(hd:0<=a.digits/\a.digits<=3) :
  Calls Tryz.prog 85 #[.pointer (some ⟨pa,0,none⟩),.int .u8 (b.toNat:Int)] w (STo w G pa pf bf be (a.stepB f b)):=by
 have hfx:=fixed_ok w G pa pf bf be a f h b hd;obtain⟨r,hr⟩:∃r,a.fixed b=r:=⟨_,rfl⟩;have HH:=Lib.hid h;have e0:a.stepB f b=if r.whole then (if r.a.value≠r.a.sum then { err:=some 2,st:=.fin,a:=r.a,f } else { err:=none,st:=.over,a:={ r.a with digits:=-1 },f }) else { err:=none,st:=.fin,a:=r.a,f }:=by
  unfold Ap.stepB;rw[hst];simp only[hr]
 rw[hr] at hfx;rw[e0];have HF:=Lib.hid hfx;clear hfx;clear e0 h hst hr hd;cases hw:r.whole with
 | false=>
  have HW:=Lib.hid hw;clear hw;simp only[Bool.false_eq_true,if_false];go_enter Tryz.func85,Tryz.ntmps85
  go_wp2_with (go_at_call 68;refine HF.out.mono ?_;rintro e w1 ⟨rfl,hto⟩;rw[HW.out])
  go_ret2
  exact⟨_,rfl,λ_=>rfl,hto⟩
 | true=>
  have HW:=Lib.hid hw;clear hw;simp only[if_true];obtain⟨V,hV⟩:∃V,r.a.value=V:=⟨_,rfl⟩;obtain⟨S,hS⟩:∃S,r.a.sum=S:=⟨_,rfl⟩;by_cases hvs:r.a.value=r.a.sum
  ·rw[if_neg (by simpa using hvs)];rw[hV,hS] at hvs;have hi:((V:Int) != (S:Int))=false:=by simp;omega
   have HV:=Lib.hid hV;clear hV;have HS:=Lib.hid hS;clear hS;clear hvs;go_enter Tryz.func85,Tryz.ntmps85
   go_wp2_with (go_at_call 68;refine HF.out.mono ?_;rintro e w1 ⟨rfl,hto⟩;rw[HW.out];obtain⟨be1,hat⟩:=hto;have HA:=Lib.hid hat;have y5:=hat.rep.facts.c5;have y3:=hat.rep.facts.c3;have y6:=hat.rep.facts.c6;have z6:=hat.rep.facts.fz 6;rw[HV.out] at y5;rw[HS.out] at y3;clear hat)
   go_quiet (fail)
   go_wp2
   go_ret2
   exact⟨_,rfl,λ_=>rfl,be1,(HA.out.drewN _).setDigits (-1) (by omega)⟩
  ·rw[if_pos (by simpa using hvs)];rw[hV,hS] at hvs;have hi:((V:Int) != (S:Int))=true:=by simp;omega
   have HV:=Lib.hid hV;clear hV;have HS:=Lib.hid hS;clear hS;clear hvs;go_enter Tryz.func85,Tryz.ntmps85
   go_wp2_with (go_at_call 68;refine HF.out.mono ?_;rintro e w1 ⟨rfl,hto⟩;rw[HW.out];obtain⟨be1,hat⟩:=hto;have HA:=Lib.hid hat;have y5:=hat.rep.facts.c5;have y3:=hat.rep.facts.c3;have y6:=hat.rep.facts.c6;have z6:=hat.rep.facts.fz 6;rw[HV.out] at y5;rw[HS.out] at y3;clear hat)
   go_quiet (fail)
   go_wp2
   go_ret2
   exact⟨_,rfl,λh=>(by cases h),be1,HA.out.drewN _⟩
theorem sum_step {w:World}{G:Nat->Prop}{pa pf bf be:Nat}{a:Ap}{f:Fl}(h:ARep w G pa pf bf be a f)(b:UInt8) :
  Calls Tryz.prog 50 #[.int .u32 (a.sum:Int),.slice (some ⟨w.heap.size,0,none⟩) 1 1] (w.alloc (.cells #[.int .u8 (b.toNat:Int)] 5)) (λe w'=>e=.returned (.int .u32 ((a.addSum b).sum:Nat))/\(w.alloc (.cells #[.int .u8 (b.toNat:Int)] 5))=w')/\
  AAt w G pa pf bf be (a.addSum b) f ((w.setCell ⟨pa,3,none⟩ (.int .u32 ((a.addSum b).sum:Nat))).alloc (.cells #[.int .u8 (b.toNat:Int)] 5)) be:=
 ⟨add_ok (w.alloc (.cells #[.int .u8 (b.toNat:Int)] 5)) a.sum h.inv.sum (some ⟨w.heap.size,0,none⟩) 1 1 [b] rfl (by simp[maxLen]) (bytes_one w b),((AAt.refl h).setSum _ (sumAdd_lt _ _)).alloc _⟩
theorem step_ok (w:World)(G:Nat->Prop)(pa pf bf be:Nat)(a:Ap)(f:Fl)(h:ARep w G pa pf bf be a f)(b:UInt8)(hst:a.st=.step) :
  Calls Tryz.prog 84 #[.pointer (some ⟨pa,0,none⟩),.int .u8 (b.toNat:Int)] w (STo w G pa pf bf be (a.stepB f b)):=by
 obtain⟨hadd,hat⟩:=sum_step h b;have hF:=h.facts;have c3:=hF.c3;have z3:=hF.fz 3;have c11:=hF.c11;have z11:=hF.fz 11;have hlt:pa<w.heap.size:=block_lt_of_cell c3;have hb:=b.toNat_lt;by_cases h2:2<b.toNat
 ·have e1:a.stepB f b = { err:=some 2,st:=.step,a:={ a.addSum b with op:=b.toNat },f }:=by unfold Ap.stepB;rw[hst];simp only[if_pos h2]
  have hat2:AAt w G pa pf bf be { a.addSum b with op:=b.toNat } f (((w.setCell ⟨pa,3,none⟩ (.int .u32 ((a.addSum b).sum:Nat))).setCell ⟨pa,11,none⟩ (.int .u8 (b.toNat:Int))).alloc (.cells #[.int .u8 (b.toNat:Int)] 5)) be:=
   (((AAt.refl h).setSum _ (sumAdd_lt _ _)).setOp b.toNat hb).alloc _
  rw[e1];have hi:(2:Int)<(b.toNat:Int):=by omega
  have HA:=Lib.hid hat2;clear hat2 hat;generalize (a.addSum b).sum=S at hadd HA;clear e1 h hst hF;go_enter Tryz.func84,Tryz.ntmps84
  go_wp2_with (go_at_call 50;refine hadd.mono ?_;rintro e w' ⟨rfl,rfl⟩)
  go_ret2
  exact⟨_,rfl,λh=>(by cases h),be,HA.out⟩
 ·have e1:a.stepB f b = { err:=none,st:=.counted,a:={ a.addSum b with op:=b.toNat },f }:=by unfold Ap.stepB;rw[hst];simp only[if_neg h2]
  have hat2:AAt w G pa pf bf be { a.addSum b with op:=b.toNat } f (((w.setCell ⟨pa,3,none⟩ (.int .u32 ((a.addSum b).sum:Nat))).setCell ⟨pa,11,none⟩ (.int .u8 (b.toNat:Int))).alloc (.cells #[.int .u8 (b.toNat:Int)] 5)) be:=
   (((AAt.refl h).setSum _ (sumAdd_lt _ _)).setOp b.toNat hb).alloc _
  rw[e1];have hi:¬((2:Int)<(b.toNat:Int)):=by omega
  have HA:=Lib.hid hat2;clear hat2 hat;generalize (a.addSum b).sum=S at hadd HA;clear e1 h hst hF;go_enter Tryz.func84,Tryz.ntmps84
  go_wp2_with (go_at_call 50;refine hadd.mono ?_;rintro e w' ⟨rfl,rfl⟩)
  go_ret2
  exact⟨_,rfl,λ_=>rfl,be,HA.out⟩
end Go.Proofs.YtkmgcggoemlaaaaGreatDoor
end
section
/- What takes a byte: own, beside, place. -/
set_option maxHeartbeats 4000000
namespace Go.Proofs.YtkmgcggoemlaaaaGreatDoor
open Go.RowKit Go.Fwm
theorem STo.from {w w1:World}{G:Nat->Prop}{pa pf bf be be1:Nat}{a1:Ap}{f1:Fl}{r:R}{e:Ending}{w':World}(h:AAt w G pa pf bf be a1 f1 w1 be1)(k:STo w1 G pa pf bf be1 r e w'):STo w G pa pf bf be r e w':=by
 obtain⟨v,h1,h2,be2,h3⟩:=k;exact⟨v,h1,h2,be2,h.then_ h3⟩
theorem STo.tuple {w:World}{G:Nat->Prop}{pa pf bf be:Nat}{r:R}{e:Ending}{w':World}(k:STo w G pa pf bf be r e w'):∃v,e=.returned (.tuple #[v,errV r.err])/\STo w G pa pf bf be r e w':=by
 obtain⟨v,h1,h2⟩:=k;exact⟨v,h1,v,h1,h2⟩
theorem own_ok (w:World)(G:Nat->Prop)(pa pf bf be:Nat)(a:Ap)(f:Fl)(h:ARep w G pa pf bf be a f)(b:UInt8)(hst:a.st=.own)(hm:a.made<4096)(hc:0<a.count)(he:f.events.length<999999000) :
  Calls Tryz.prog 105 #[.pointer (some ⟨pa,0,none⟩),.int .u8 (b.toNat:Int)] w (STo w G pa pf bf be (a.stepB f b)):=by
 obtain⟨hadd,hat⟩:=sum_step h b;have hput:=put_ok _ G pa pf bf be (a.addSum b) f hat.rep b hm (by omega);have hpk:=(Ap.put_keep (a.addSum b) f b).1;obtain⟨r,hr⟩:∃r,(a.addSum b).put f b=r:=⟨_,rfl⟩;have hF:=h.facts;have c3:=hF.c3;have z3:=hF.fz 3;have hlt:pa<w.heap.size:=block_lt_of_cell c3;have e1:a.stepB f b=match r.err with
  | some e=>{ err:=some e,st:=.own,a:=r.a,f:=r.f }
  | none=>if 0<r.a.count-1 then { err:=none,st:=.own,a:={ r.a with count:=r.a.count-1 },f:=r.f } else ({ r.a with count:=r.a.count-1 }:Ap).more r.f:=by
  unfold Ap.stepB;rw[hst];simp only[hr];rfl
 rw[hr] at hput hpk;have hrc:r.a.count=a.count:=hpk.count;have hrv:r.f.events.length<=f.events.length+2:=hpk.events;rw[e1];obtain⟨C,hC⟩:∃C,a.count=C:=⟨_,rfl⟩;rw[hC] at hc hrc;have hcl:=h.inv.count;rw[hC] at hcl;have HA:=Lib.hid hat;clear hat;have HP:=Lib.hid hput;clear hput;have HRC:=Lib.hid hrc;clear hrc;generalize (a.addSum b).sum=S at hadd HA HP;clear e1 h hst hF hr hpk hC hm;cases hre:r.err with
 | some x=>
  have HX:=Lib.hid hre;clear hre;simp only;go_enter Tryz.func105,Tryz.ntmps105
  go_wp2_with (first | (go_at_call 50;refine hadd.mono ?_;rintro e w' ⟨rfl,rfl⟩) | (go_at_call 112;refine HP.out.mono ?_;rintro e w2 ⟨rfl,hto⟩;rw[HX.out];unfold errV))
  go_ret2
  obtain⟨be2,hat2⟩:=hto;exact⟨_,rfl,λh=>(by cases h),be2,HA.out.then_ hat2⟩
 | none=>
  have HX:=Lib.hid hre;clear hre;simp only;by_cases hgo:0<C-1
  ·rw[if_pos (by rw[HRC.out];exact hgo)];have hi:(0:Int)<(C:Int)-1:=by omega
   clear hgo;go_enter Tryz.func105,Tryz.ntmps105
   go_wp2_with (first | (go_at_call 50;refine hadd.mono ?_;rintro e w' ⟨rfl,rfl⟩) | (go_at_call 112;refine HP.out.mono ?_;rintro e w2 ⟨rfl,hto⟩;rw[HX.out];unfold errV;obtain⟨be2,hat2⟩:=hto;have y10:=hat2.rep.facts.c10;have z10:=hat2.rep.facts.fz 10;rw[HRC.out] at y10;have HA2:=Lib.hid hat2;clear hat2))
   go_ret2
   refine⟨_,rfl,λ_=>rfl,be2,HA.out.then_ ?_⟩;have:=HA2.out.setCount (C-1) (by omega);rw[show ((C-1:Nat):Int)=(C:Int)-1 from by omega] at this;rw[HRC.out];exact this
  ·rw[if_neg (by rw[HRC.out];exact hgo)];have hi:¬((0:Int)<(C:Int)-1):=by omega
   clear hgo;go_enter Tryz.func105,Tryz.ntmps105
   go_wp2_with (first | (go_at_call 50;refine hadd.mono ?_;rintro e w' ⟨rfl,rfl⟩) | (go_at_call 112;refine HP.out.mono ?_;rintro e w2 ⟨rfl,hto⟩;rw[HX.out];unfold errV;obtain⟨be2,hat2⟩:=hto;have y10:=hat2.rep.facts.c10;have z10:=hat2.rep.facts.fz 10;rw[HRC.out] at y10;have hat3:=hat2.setCount (C-1) (by omega);rw[show ((C-1:Nat):Int)=(C:Int)-1 from by omega] at hat3;have hmo:=more_ok _ G pa pf bf be2 _ r.f hat3.rep (by omega);have HM:=Lib.hid hmo;have HA3:=Lib.hid hat3;clear hat2 hat3 hmo) | (go_at_call 80;refine HM.out.mono ?_;intro e w4 hk;obtain⟨v,rfl,hk⟩:=hk.tuple))
   go_ret2
   have:=(STo.from (HA.out.then_ HA3.out) hk);rw[HRC.out];exact this
end Go.Proofs.YtkmgcggoemlaaaaGreatDoor
end
section
/- What takes a byte: beside, place. -/
set_option maxHeartbeats 4000000
set_option maxRecDepth 100000
namespace Go.Proofs.YtkmgcggoemlaaaaGreatDoor
open Go.RowKit Go.Fwm
theorem beside_ok (w:World)(G:Nat->Prop)(pa pf bf be:Nat)(a:Ap)(f:Fl)(h:ARep w G pa pf bf be a f)(b:UInt8)(hst:a.st=.beside)(hm:a.made<=a.length)(he:f.events.length<999999000) :
  Calls Tryz.prog 107 #[.pointer (some ⟨pa,0,none⟩),.int .u8 (b.toNat:Int)] w (STo w G pa pf bf be (a.stepB f b)):=by
 obtain⟨hadd,hat⟩:=sum_step h b;have hF:=h.facts;have c3:=hF.c3;have z3:=hF.fz 3;have c9:=hF.c9;have c8:=hF.c8;have hlt:pa<w.heap.size:=block_lt_of_cell c3;have hll:=h.inv.length;obtain⟨M,hM⟩:∃M,a.made=M:=⟨_,rfl⟩;obtain⟨L,hL⟩:∃L,a.length=L:=⟨_,rfl⟩;by_cases hml:a.made=a.length
 ·have e1:a.stepB f b = { err:=some 2,st:=.beside,a:=a.addSum b,f }:=by unfold Ap.stepB;rw[hst];simp only;rw[if_pos (show (a.addSum b).made=(a.addSum b).length from hml)]
  rw[e1];rw[hM] at c9 hml;rw[hL] at c8 hml;have hi:((M:Int) == (L:Int))=true:=by simp;omega
  have HA:=Lib.hid hat;clear hat;generalize (a.addSum b).sum=S at hadd HA;clear e1 h hst hF hm hM hL hml;go_enter Tryz.func107,Tryz.ntmps107
  go_wp2_with (go_at_call 50;refine hadd.mono ?_;rintro e w' ⟨rfl,rfl⟩)
  go_quiet (fail)
  go_wp2
  go_ret2
  exact⟨_,rfl,λh=>(by cases h),be,HA.out.drewN _⟩
 ·have hput:=λk=>put_ok _ G pa pf bf be (a.addSum b) f (hat.drewN k).rep b (by show a.made<4096;omega) (by omega)
  have hpk:=(Ap.put_keep (a.addSum b) f b).1;obtain⟨r,hr⟩:∃r,(a.addSum b).put f b=r:=⟨_,rfl⟩;have e1:a.stepB f b=match r.err with
   | some e=>{ err:=some e,st:=.beside,a:=r.a,f:=r.f }
   | none=>r.a.more r.f:=by unfold Ap.stepB;rw[hst];simp only;rw[if_neg (show ¬(a.addSum b).made=(a.addSum b).length from hml),hr];rfl
  rw[hr] at hput hpk;have hrv:r.f.events.length<=f.events.length+2:=hpk.events;rw[e1];rw[hM] at c9 hml;rw[hL] at c8 hml;have hi:((M:Int) == (L:Int))=false:=by simp;omega
  have HA:=Lib.hid hat;clear hat;have HP:=Lib.hid hput;clear hput;generalize (a.addSum b).sum=S at hadd HA HP;clear e1 h hst hF hm hM hL hml hr hpk;cases hre:r.err with
  | some x=>
   have HX:=Lib.hid hre;clear hre;simp only;go_enter Tryz.func107,Tryz.ntmps107
   go_wp2_with (go_at_call 50;refine hadd.mono ?_;rintro e w' ⟨rfl,rfl⟩)
   go_quiet (fail)
   go_wp2_with (go_at_call 112;refine(HP.out _).mono ?_;rintro e w2 ⟨rfl,hto⟩;rw[HX.out];unfold errV)
   go_ret2
   obtain⟨be2,hat2⟩:=hto;exact⟨_,rfl,λh=>(by cases h),be2,(HA.out.drewN _).then_ hat2⟩
  | none=>
   have HX:=Lib.hid hre;clear hre;simp only;go_enter Tryz.func107,Tryz.ntmps107
   go_wp2_with (go_at_call 50;refine hadd.mono ?_;rintro e w' ⟨rfl,rfl⟩)
   go_quiet (fail)
   go_wp2_with (first | (go_at_call 112;refine(HP.out _).mono ?_;rintro e w2 ⟨rfl,hto⟩;rw[HX.out];unfold errV;obtain⟨be2,hat2⟩:=hto;have hmo:=more_ok _ G pa pf bf be2 _ r.f hat2.rep (by omega);have HM:=Lib.hid hmo;have HA3:=Lib.hid hat2;clear hat2 hmo) | (go_at_call 80;refine HM.out.mono ?_;intro e w4 hk;obtain⟨v,rfl,hk⟩:=hk.tuple))
   go_ret2
   exact STo.from ((HA.out.drewN _).then_ HA3.out) hk
theorem place_not (w:World)(G:Nat->Prop)(pa pf bf be:Nat)(a:Ap)(f:Fl)(h:ARep w G pa pf bf be a f)(b:UInt8)(hst:a.st=.place)(hd:a.digits=0\/a.digits=1)(hw:(a.number b).whole=false) :
  Calls Tryz.prog 106 #[.pointer (some ⟨pa,0,none⟩),.int .u8 (b.toNat:Int)] w (STo w G pa pf bf be (a.stepB f b)):=by
 have hnu:=number_ok w G pa pf bf be a f h b hd;have e1:a.stepB f b = { err:=(a.number b).err,st:=.place,a:=(a.number b).a,f }:=by unfold Ap.stepB;rw[hst];simp only[hw];rfl
 rw[hw] at hnu;rw[e1];generalize a.number b=r at hnu;have HN:=Lib.hid hnu;clear hnu;clear e1 h hst hw hd;go_enter Tryz.func106,Tryz.ntmps106
 go_wp2_with (go_at_call 58;refine HN.out.mono ?_;rintro e w1 ⟨rfl,hto⟩)
 go_ret2
 exact⟨_,rfl,λ_=>rfl,hto⟩
theorem place_yes (w:World)(G:Nat->Prop)(pa pf bf be:Nat)(a:Ap)(f:Fl)(h:ARep w G pa pf bf be a f)(b:UInt8)(hst:a.st=.place)(hd:a.digits=0\/a.digits=1)(hw:(a.number b).whole=true)
  (hsz:a.size=f.old.length) (hm:a.made+a.count<=4096) (he:f.events.length<999980000) (hrd:f.reads<999999990000) :
  Calls Tryz.prog 106 #[.pointer (some ⟨pa,0,none⟩),.int .u8 (b.toNat:Int)] w (STo w G pa pf bf be (a.stepB f b)):=by
 have hnu:=number_ok w G pa pf bf be a f h b hd;obtain⟨hnk,hwh,_⟩:=Ap.number_keep a b;obtain⟨hn1,hn2,hn3⟩:=hwh hw;obtain⟨r,hr⟩:∃r,a.number b=r:=⟨_,rfl⟩;obtain⟨q,hq⟩:∃q,r.a.copy f r.a.value r.a.count=q:=⟨_,rfl⟩;have e1:a.stepB f b=match q.err with
  | some e=>{ err:=some e,st:=.place,a:=q.a,f:=q.f }
  | none=>q.a.more q.f:=by
  rw[hr] at hw;unfold Ap.stepB;rw[hst];simp only[hr,hw,if_true,hq];rfl
 rw[hr] at hnu hnk hn1 hn2 hw;rw[hw,hn1] at hnu;obtain⟨RES,hRES⟩:∃RES,a.stepB f b=RES:=⟨_,rfl⟩;rw[hRES] at e1 ⊢;have hq1:∀x,q.err=some x->RES = { err:=some x,st:=.place,a:=q.a,f:=q.f }:=λx hx=>by rw[e1,hx]
 have hq2:q.err=none->RES=q.a.more q.f:=λhx=>by rw[e1,hx]
 have HQ1:=Lib.hid hq1;clear hq1;have HQ2:=Lib.hid hq2;clear hq2 hRES;obtain⟨V,hV⟩:∃V,r.a.value=V:=⟨_,rfl⟩;obtain⟨C,hC⟩:∃C,r.a.count=C:=⟨_,rfl⟩;have hcm:r.a.made+C<=4096:=by rw[←hC,hnk.made,hnk.count];exact hm
 have hrs:r.a.size=f.old.length:=by rw[hnk.size];exact hsz
 rw[hV] at hn2;have hcp:∀(w1:World) (be1:Nat),ARep w1 G pa pf bf be1 r.a f->Calls Tryz.prog 108 #[.pointer (some ⟨pa,0,none⟩),.int .i64 (V:Int),.int .i64 (C:Int)] w1 (WTo w1 G pa pf bf be1 q):=by
  intro w1 be1 hrep;have:=copy_ok w1 G pa pf bf be1 r.a f hrep V C (by omega) hrs (by omega) (by omega) (by omega);rw[←hV,←hC,hq] at this;rw[←hV,←hC];exact this
 have hcpe:q.f.events.length<=f.events.length+8192:=by
  have:=(Ap.copy_keep r.a f r.a.value r.a.count).1.events;rw[hq] at this;omega
 have HCP:=Lib.hid hcp;clear hcp;have HN:=Lib.hid hnu;clear hnu;have HV:=Lib.hid hV;clear hV;have HC:=Lib.hid hC;clear hC;clear e1 h hst hw hd hsz hm hnk hn1 hn3 hr hq hcm hrs;go_enter Tryz.func106,Tryz.ntmps106
 go_wp2_with (go_at_call 58;refine HN.out.mono ?_;rintro e w1 ⟨rfl,hto⟩;unfold errV;obtain⟨be1,hat⟩:=hto;have y0:=hat.rep.facts.c5;have HA:=Lib.hid hat;clear hat)
 refine wp_region_still_tail 10 (by kernel_rfl) (by kernel_rfl) ?_;change wpStill _ _ (World.drew _) _ _ _;generalize hw2:World.drew _=w2;have hat2:AAt w G pa pf bf be r.a f w2 be1:=by rw[←hw2];exact HA.out.drew
 have y5:=hat2.rep.facts.c5;have y10:=hat2.rep.facts.c10;rw[HV.out] at y5;rw[HC.out] at y10;have hcp2:=HCP.out w2 be1 hat2.rep;have HCP2:=Lib.hid hcp2;clear hcp2;have HW:=Lib.hid hw2;clear hw2;have HA2:=Lib.hid hat2;clear hat2;simp only[List.take_succ_cons,List.take_zero,List.drop_succ_cons,List.drop_zero];have j0:IntKind.i64.wrap (V:Int)=(V:Int):=IntWalk.i64_in _ (by omega);repeat still_step
 clear j0;refine wpStill_nil ?_;change wpList _ _ _ _ _ (World.drew _);rw[HW.out];cases hqe:q.err with
 | some x=>
  have HX:=Lib.hid hqe;clear hqe;go_wp2_with (go_at_call 108;refine HCP2.out.mono ?_;rintro e w3 ⟨rfl,hto⟩;rw[HX.out];unfold errV)
  go_ret2
  obtain⟨be3,hat3⟩:=hto;rw[HQ1.out x HX.out];exact⟨_,rfl,λh=>(by cases h),be3,HA2.out.then_ hat3⟩
 | none=>
  have HX:=Lib.hid hqe;clear hqe;go_wp2_with (first | (go_at_call 108;refine HCP2.out.mono ?_;rintro e w3 ⟨rfl,hto⟩;rw[HX.out];unfold errV;obtain⟨be3,hat3⟩:=hto;have hmo:=more_ok _ G pa pf bf be3 _ q.f hat3.rep (by omega);have HM:=Lib.hid hmo;have HA3:=Lib.hid hat3;clear hat3 hmo) | (go_at_call 80;refine HM.out.mono ?_;intro e w4 hk;obtain⟨v,rfl,hk⟩:=hk.tuple))
  go_ret2
  rw[HQ2.out HX.out];exact STo.from (HA2.out.then_ HA3.out) hk
end Go.Proofs.YtkmgcggoemlaaaaGreatDoor
end
