/-
  Part 15 of the common ground of this seat: what single parts show stands ahead of each.
  No condition.
-/
import Derived.Test.YtkmgcggoemlaaaaGreatDoorJ14
import Derived.LaidEql
import Derived.Stop.Asserts
import Derived.RowKitTokens
set_option linter.unusedSimpArgs false
set_option linter.unusedVariables false
set_option linter.constructorNameAsVariable false
section
/- What takes a byte: counted. -/
set_option maxHeartbeats 4000000
set_option maxRecDepth 100000
namespace Go.Proofs.YtkmgcggoemlaaaaGreatDoor
open Go.RowKit Go.Fwm
theorem counted_not (w:World)(G:Nat->Prop)(pa pf bf be:Nat)(a:Ap)(f:Fl)(h:ARep w G pa pf bf be a f)(b:UInt8)(hst:a.st=.counted)(hd:a.digits=0\/a.digits=1)(hw:(a.number b).whole=false) :
  Calls Tryz.prog 97 #[.pointer (some ⟨pa,0,none⟩),.int .u8 (b.toNat:Int)] w (STo w G pa pf bf be (a.stepB f b)):=by
 have hnu:=number_ok w G pa pf bf be a f h b hd;have e1:a.stepB f b = { err:=(a.number b).err,st:=.counted,a:=(a.number b).a,f }:=by unfold Ap.stepB;rw[hst];simp only[hw];rfl
 rw[hw] at hnu;rw[e1];generalize a.number b=r at hnu;have HN:=Lib.hid hnu;clear hnu;clear e1 h hst hw hd;go_enter Tryz.func97,Tryz.ntmps97
 go_wp2_with (go_at_call 58;refine HN.out.mono ?_;rintro e w1 ⟨rfl,hto⟩)
 go_ret2
 exact⟨_,rfl,λ_=>rfl,hto⟩
theorem counted_T1 (w:World)(G:Nat->Prop)(pa pf bf be:Nat)(a:Ap)(f:Fl)(h:ARep w G pa pf bf be a f)(b:UInt8)(hd:a.digits=0\/a.digits=1)(hw:(a.number b).whole=true)(hm:a.made<=a.length)
  (RES:R) (hRES:RES = { err:=some 2,st:=.counted,a:={ (a.number b).a with count:=(a.number b).a.value },f }) (h1:(a.length:Int)-(a.made:Int)<((a.number b).a.value:Int)) :
  Calls Tryz.prog 97 #[.pointer (some ⟨pa,0,none⟩),.int .u8 (b.toNat:Int)] w (STo w G pa pf bf be RES):=by
 have hnu:=number_ok w G pa pf bf be a f h b hd;obtain⟨hnk,hwh,_⟩:=Ap.number_keep a b;obtain⟨hn1,hn2,hn3⟩:=hwh hw;generalize a.number b=r at hnu hnk hn1 hn2 hw h1 hRES hn3;rw[hw,hn1] at hnu;obtain⟨V,hV⟩:∃V,r.a.value=V:=⟨_,rfl⟩;obtain⟨L,hL⟩:∃L,a.length=L:=⟨_,rfl⟩;obtain⟨M,hM⟩:∃M,a.made=M:=⟨_,rfl⟩;have hll:=h.inv.length;rw[hV] at hn2 h1;rw[hL] at h1 hm hll;rw[hM] at h1 hm;have hrl:r.a.length=L:=by rw[hnk.length,hL]
 have hrm:r.a.made=M:=by rw[hnk.made,hM]
 have HN:=Lib.hid hnu;clear hnu;have HV:=Lib.hid hV;clear hV;have HL:=Lib.hid hrl;clear hrl hL;have HM:=Lib.hid hrm;clear hrm hM;have HRES:=Lib.hid hRES;clear hRES;clear h hd hw hnk hn1 hn3 hwh;go_enter Tryz.func97,Tryz.ntmps97
 go_wp2_with (go_at_call 58;refine HN.out.mono ?_;rintro e w1 ⟨rfl,hto⟩;unfold errV;obtain⟨be1,hat⟩:=hto;have y5:=hat.rep.facts.c5;have y8:=hat.rep.facts.c8;have y9:=hat.rep.facts.c9;have y10:=hat.rep.facts.c10;have y11:=hat.rep.facts.c11;have z10:=hat.rep.facts.fz 10;rw[HV.out] at y5;rw[HL.out] at y8;rw[HM.out] at y9;have HA:=Lib.hid hat;clear hat)
 have t1:decide ((L:Int)-(M:Int)<(V:Int))=true:=by simp;omega
 have j1:IntKind.i64.wrap ((L:Int)-(M:Int))=(L:Int)-(M:Int):=IntWalk.i64_in _ (by omega);go_quiet (fail)
 clear j1 t1;go_wp2
 go_ret2
 rw[HRES.out];have:=HA.out.setCount r.a.value (by rw[HV.out];omega);rw[show ((r.a.value:Nat):Int)=(V:Int) by rw[HV.out]] at this;exact⟨_,rfl,λh=>(by cases h),be1,this.drewN _⟩
theorem counted_T2 (w:World)(G:Nat->Prop)(pa pf bf be:Nat)(a:Ap)(f:Fl)(h:ARep w G pa pf bf be a f)(b:UInt8)(hd:a.digits=0\/a.digits=1)(hw:(a.number b).whole=true)(hm:a.made<=a.length)
  (RES:R) (hRES:RES = { err:=some 2,st:=.counted,a:={ (a.number b).a with count:=(a.number b).a.value },f }) (h1:¬(a.length:Int)-(a.made:Int)<((a.number b).a.value:Int)) (h2:a.op≠2) (h3:(a.number b).a.value=0) :
  Calls Tryz.prog 97 #[.pointer (some ⟨pa,0,none⟩),.int .u8 (b.toNat:Int)] w (STo w G pa pf bf be RES):=by
 have hnu:=number_ok w G pa pf bf be a f h b hd;obtain⟨hnk,hwh,_⟩:=Ap.number_keep a b;obtain⟨hn1,hn2,hn3⟩:=hwh hw;generalize a.number b=r at hnu hnk hn1 hn2 hw h1 h3 hRES hn3;rw[hw,hn1] at hnu;obtain⟨V,hV⟩:∃V,r.a.value=V:=⟨_,rfl⟩;obtain⟨L,hL⟩:∃L,a.length=L:=⟨_,rfl⟩;obtain⟨M,hM⟩:∃M,a.made=M:=⟨_,rfl⟩;have hll:=h.inv.length;rw[hV] at hn2 h1 h3;obtain⟨O,hO⟩:∃O,a.op=O:=⟨_,rfl⟩;rw[hO] at h2;have hro:r.a.op=O:=by rw[hnk.op,hO]
 have HO:=Lib.hid hro;clear hro hO;rw[hL] at h1 hm hll;rw[hM] at h1 hm;have hrl:r.a.length=L:=by rw[hnk.length,hL]
 have hrm:r.a.made=M:=by rw[hnk.made,hM]
 have HN:=Lib.hid hnu;clear hnu;have HV:=Lib.hid hV;clear hV;have HL:=Lib.hid hrl;clear hrl hL;have HM:=Lib.hid hrm;clear hrm hM;have HRES:=Lib.hid hRES;clear hRES;clear h hd hw hnk hn1 hn3 hwh;go_enter Tryz.func97,Tryz.ntmps97
 go_wp2_with (go_at_call 58;refine HN.out.mono ?_;rintro e w1 ⟨rfl,hto⟩;unfold errV;obtain⟨be1,hat⟩:=hto;have y5:=hat.rep.facts.c5;have y8:=hat.rep.facts.c8;have y9:=hat.rep.facts.c9;have y10:=hat.rep.facts.c10;have y11:=hat.rep.facts.c11;have z10:=hat.rep.facts.fz 10;rw[HV.out] at y5;rw[HL.out] at y8;rw[HM.out] at y9;rw[HO.out] at y11;have HA:=Lib.hid hat;clear hat)
 have t1:decide ((L:Int)-(M:Int)<(V:Int))=false:=by simp;omega
 have t2:((O:Int) != 2)=true:=by simp;omega
 have t3:((V:Int) == 0)=true:=by simp;omega
 have HZ:=Lib.hid h3;clear h2 h3;have j1:IntKind.i64.wrap ((L:Int)-(M:Int))=(L:Int)-(M:Int):=IntWalk.i64_in _ (by omega);go_quiet (fail)
 clear j1 t1 t2 t3;go_wp2
 go_ret2
 rw[HRES.out];have:=HA.out.setCount r.a.value (by rw[HV.out];omega);rw[show ((r.a.value:Nat):Int)=0 by rw[HV.out,HZ.out];rfl] at this;exact⟨_,rfl,λh=>(by cases h),be1,this.drewN _⟩
theorem counted_own (w:World)(G:Nat->Prop)(pa pf bf be:Nat)(a:Ap)(f:Fl)(h:ARep w G pa pf bf be a f)(b:UInt8)(hd:a.digits=0\/a.digits=1)(hw:(a.number b).whole=true)(hm:a.made<=a.length)
  (RES:R) (hRES:RES = { err:=none,st:=.own,a:={ (a.number b).a with count:=(a.number b).a.value },f }) (h1:¬(a.length:Int)-(a.made:Int)<((a.number b).a.value:Int)) (h2:a.op=0) (h3:(a.number b).a.value≠0) :
  Calls Tryz.prog 97 #[.pointer (some ⟨pa,0,none⟩),.int .u8 (b.toNat:Int)] w (STo w G pa pf bf be RES):=by
 have hnu:=number_ok w G pa pf bf be a f h b hd;obtain⟨hnk,hwh,_⟩:=Ap.number_keep a b;obtain⟨hn1,hn2,hn3⟩:=hwh hw;generalize a.number b=r at hnu hnk hn1 hn2 hw h1 h3 hRES hn3;rw[hw,hn1] at hnu;obtain⟨V,hV⟩:∃V,r.a.value=V:=⟨_,rfl⟩;obtain⟨L,hL⟩:∃L,a.length=L:=⟨_,rfl⟩;obtain⟨M,hM⟩:∃M,a.made=M:=⟨_,rfl⟩;have hll:=h.inv.length;rw[hV] at hn2 h1 h3;have hro:r.a.op=0:=by rw[hnk.op,h2]
 have HO:=Lib.hid hro;clear hro h2;rw[hL] at h1 hm hll;rw[hM] at h1 hm;have hrl:r.a.length=L:=by rw[hnk.length,hL]
 have hrm:r.a.made=M:=by rw[hnk.made,hM]
 have HN:=Lib.hid hnu;clear hnu;have HV:=Lib.hid hV;clear hV;have HL:=Lib.hid hrl;clear hrl hL;have HM:=Lib.hid hrm;clear hrm hM;have HRES:=Lib.hid hRES;clear hRES;clear h hd hw hnk hn1 hn3 hwh;go_enter Tryz.func97,Tryz.ntmps97
 go_wp2_with (go_at_call 58;refine HN.out.mono ?_;rintro e w1 ⟨rfl,hto⟩;unfold errV;obtain⟨be1,hat⟩:=hto;have y5:=hat.rep.facts.c5;have y8:=hat.rep.facts.c8;have y9:=hat.rep.facts.c9;have y10:=hat.rep.facts.c10;have y11:=hat.rep.facts.c11;have z10:=hat.rep.facts.fz 10;rw[HV.out] at y5;rw[HL.out] at y8;rw[HM.out] at y9;rw[HO.out] at y11;have HA:=Lib.hid hat;clear hat)
 have t1:decide ((L:Int)-(M:Int)<(V:Int))=false:=by simp;omega
 have t3:((V:Int) == 0)=false:=by simp;omega
 clear h3;have j1:IntKind.i64.wrap ((L:Int)-(M:Int))=(L:Int)-(M:Int):=IntWalk.i64_in _ (by omega);go_quiet (fail)
 clear j1 t1 t3;go_wp2
 go_ret2
 rw[HRES.out];have:=HA.out.setCount r.a.value (by rw[HV.out];omega);rw[show ((r.a.value:Nat):Int)=(V:Int) by rw[HV.out]] at this;exact⟨_,rfl,λ_=>rfl,be1,this.drewN _⟩
theorem counted_place (w:World)(G:Nat->Prop)(pa pf bf be:Nat)(a:Ap)(f:Fl)(h:ARep w G pa pf bf be a f)(b:UInt8)(hd:a.digits=0\/a.digits=1)(hw:(a.number b).whole=true)(hm:a.made<=a.length)
  (RES:R) (hRES:RES = { err:=none,st:=.place,a:={ (a.number b).a with count:=(a.number b).a.value },f }) (h1:¬(a.length:Int)-(a.made:Int)<((a.number b).a.value:Int)) (h2:a.op=1) (h3:(a.number b).a.value≠0) :
  Calls Tryz.prog 97 #[.pointer (some ⟨pa,0,none⟩),.int .u8 (b.toNat:Int)] w (STo w G pa pf bf be RES):=by
 have hnu:=number_ok w G pa pf bf be a f h b hd;obtain⟨hnk,hwh,_⟩:=Ap.number_keep a b;obtain⟨hn1,hn2,hn3⟩:=hwh hw;generalize a.number b=r at hnu hnk hn1 hn2 hw h1 h3 hRES hn3;rw[hw,hn1] at hnu;obtain⟨V,hV⟩:∃V,r.a.value=V:=⟨_,rfl⟩;obtain⟨L,hL⟩:∃L,a.length=L:=⟨_,rfl⟩;obtain⟨M,hM⟩:∃M,a.made=M:=⟨_,rfl⟩;have hll:=h.inv.length;rw[hV] at hn2 h1 h3;have hro:r.a.op=1:=by rw[hnk.op,h2]
 have HO:=Lib.hid hro;clear hro h2;rw[hL] at h1 hm hll;rw[hM] at h1 hm;have hrl:r.a.length=L:=by rw[hnk.length,hL]
 have hrm:r.a.made=M:=by rw[hnk.made,hM]
 have HN:=Lib.hid hnu;clear hnu;have HV:=Lib.hid hV;clear hV;have HL:=Lib.hid hrl;clear hrl hL;have HM:=Lib.hid hrm;clear hrm hM;have HRES:=Lib.hid hRES;clear hRES;clear h hd hw hnk hn1 hn3 hwh;go_enter Tryz.func97,Tryz.ntmps97
 go_wp2_with (go_at_call 58;refine HN.out.mono ?_;rintro e w1 ⟨rfl,hto⟩;unfold errV;obtain⟨be1,hat⟩:=hto;have y5:=hat.rep.facts.c5;have y8:=hat.rep.facts.c8;have y9:=hat.rep.facts.c9;have y10:=hat.rep.facts.c10;have y11:=hat.rep.facts.c11;have z10:=hat.rep.facts.fz 10;rw[HV.out] at y5;rw[HL.out] at y8;rw[HM.out] at y9;rw[HO.out] at y11;have HA:=Lib.hid hat;clear hat)
 have t1:decide ((L:Int)-(M:Int)<(V:Int))=false:=by simp;omega
 have t3:((V:Int) == 0)=false:=by simp;omega
 clear h3;have j1:IntKind.i64.wrap ((L:Int)-(M:Int))=(L:Int)-(M:Int):=IntWalk.i64_in _ (by omega);go_quiet (fail)
 clear j1 t1 t3;go_wp2
 go_ret2
 rw[HRES.out];have:=HA.out.setCount r.a.value (by rw[HV.out];omega);rw[show ((r.a.value:Nat):Int)=(V:Int) by rw[HV.out]] at this;exact⟨_,rfl,λ_=>rfl,be1,this.drewN _⟩
theorem counted_beside (w:World)(G:Nat->Prop)(pa pf bf be:Nat)(a:Ap)(f:Fl)(h:ARep w G pa pf bf be a f)(b:UInt8)(hd:a.digits=0\/a.digits=1)(hw:(a.number b).whole=true)(hm:a.made<=a.length)
  (hsz:a.size=f.old.length) (he:f.events.length<999980000) (hrd:f.reads<999999990000)
  (q:AR) (hq:({ (a.number b).a with count:=(a.number b).a.value }:Ap).copy f (a.number b).a.made (a.number b).a.value=q) (h1:¬(a.length:Int)-(a.made:Int)<((a.number b).a.value:Int)) (h2:a.op=2) :
  Calls Tryz.prog 97 #[.pointer (some ⟨pa,0,none⟩),.int .u8 (b.toNat:Int)] w (STo w G pa pf bf be { err:=q.err,st:=.beside,a:=q.a,f:=q.f }):=by
 have hnu:=number_ok w G pa pf bf be a f h b hd;obtain⟨hnk,hwh,_⟩:=Ap.number_keep a b;obtain⟨hn1,hn2,hn3⟩:=hwh hw;generalize a.number b=r at hnu hnk hn1 hn2 hw h1 hq hn3;rw[hw,hn1] at hnu;obtain⟨V,hV⟩:∃V,r.a.value=V:=⟨_,rfl⟩;obtain⟨L,hL⟩:∃L,a.length=L:=⟨_,rfl⟩;obtain⟨M,hM⟩:∃M,a.made=M:=⟨_,rfl⟩;have hll:=h.inv.length;rw[hV] at hn2 h1;rw[hL] at h1 hm hll;rw[hM] at h1 hm;have hrl:r.a.length=L:=by rw[hnk.length,hL]
 have hrm:r.a.made=M:=by rw[hnk.made,hM]
 have hro:r.a.op=2:=by rw[hnk.op,h2]
 have hcp:∀(w1:World) (be1:Nat),ARep w1 G pa pf bf be1 { r.a with count:=r.a.value } f->Calls Tryz.prog 108 #[.pointer (some ⟨pa,0,none⟩),.int .i64 (M:Int),.int .i64 (V:Int)] w1 (WTo w1 G pa pf bf be1 q):=by
  intro w1 be1 hrep;have:=copy_ok w1 G pa pf bf be1 { r.a with count:=r.a.value } f hrep r.a.made r.a.value (by omega) (by show r.a.size=_;rw[hnk.size,hsz]) (by show r.a.made+_<=_;omega) (by omega) (by omega);rw[hq,show ((r.a.made:Nat):Int)=(M:Int) by rw[hrm],show ((r.a.value:Nat):Int)=(V:Int) by rw[hV]] at this;exact this
 have HCP:=Lib.hid hcp;clear hcp;have HN:=Lib.hid hnu;clear hnu;have HV:=Lib.hid hV;clear hV;have HL:=Lib.hid hrl;clear hrl hL;have HM:=Lib.hid hrm;clear hrm hM;have HO:=Lib.hid hro;clear hro h2;clear h hd hw hnk hn1 hn3 hwh hq hsz he hrd;go_enter Tryz.func97,Tryz.ntmps97
 go_wp2_with (go_at_call 58;refine HN.out.mono ?_;rintro e w1 ⟨rfl,hto⟩;unfold errV;obtain⟨be1,hat⟩:=hto;have y5:=hat.rep.facts.c5;have y8:=hat.rep.facts.c8;have y9:=hat.rep.facts.c9;have y10:=hat.rep.facts.c10;have y11:=hat.rep.facts.c11;have z10:=hat.rep.facts.fz 10;rw[HV.out] at y5;rw[HL.out] at y8;rw[HM.out] at y9;rw[HO.out] at y11;have HA:=Lib.hid hat;clear hat)
 have t1:decide ((L:Int)-(M:Int)<(V:Int))=false:=by simp;omega
 have j1:IntKind.i64.wrap ((L:Int)-(M:Int))=(L:Int)-(M:Int):=IntWalk.i64_in _ (by omega);go_quiet (fail)
 clear j1 t1;go_wp2
 refine wp_region_still_tail 9 (by kernel_rfl) (by kernel_rfl) ?_;change wpStill _ _ (World.drew _) _ _ _;generalize hw2:World.drew _=w2;have hat2:AAt w G pa pf bf be { r.a with count:=r.a.value } f w2 be1:=by
  rw[←hw2];have:=HA.out.setCount r.a.value (by rw[HV.out];omega);rw[show ((r.a.value:Nat):Int)=(V:Int) by rw[HV.out]] at this;exact(this.drewN _).drew
 have y9':=hat2.rep.facts.c9;have y10':=hat2.rep.facts.c10;rw[show ((({ r.a with count:=r.a.value }:Ap).made:Nat):Int)=(M:Int) by show ((r.a.made:Nat):Int)=_;rw[HM.out]] at y9';rw[show ((({ r.a with count:=r.a.value }:Ap).count:Nat):Int)=(V:Int) by show ((r.a.value:Nat):Int)=_;rw[HV.out]] at y10';have hcp2:=HCP.out w2 be1 hat2.rep;have HCP2:=Lib.hid hcp2;clear hcp2;have HW:=Lib.hid hw2;clear hw2;have HA2:=Lib.hid hat2;clear hat2;simp only[List.take_succ_cons,List.take_zero,List.drop_succ_cons,List.drop_zero];repeat still_step
 refine wpStill_nil ?_;change wpList _ _ _ _ _ (World.drew _);rw[HW.out];go_wp2_with (go_at_call 108;refine HCP2.out.mono ?_;rintro e w3 ⟨rfl,hto⟩)
 go_ret2
 obtain⟨be3,hat3⟩:=hto;exact⟨_,rfl,λ_=>rfl,be3,HA2.out.then_ hat3⟩
theorem counted_ok (w:World)(G:Nat->Prop)(pa pf bf be:Nat)(a:Ap)(f:Fl)(h:ARep w G pa pf bf be a f)(b:UInt8)(hst:a.st=.counted)(hd:a.digits=0\/a.digits=1)(hm:a.made<=a.length)(hop:a.op<=2)
  (hsz:a.size=f.old.length) (he:f.events.length<999980000) (hrd:f.reads<999999990000) :
  Calls Tryz.prog 97 #[.pointer (some ⟨pa,0,none⟩),.int .u8 (b.toNat:Int)] w (STo w G pa pf bf be (a.stepB f b)):=by
 cases hw:(a.number b).whole with
 | false=>exact counted_not w G pa pf bf be a f h b hst hd hw
 | true=>
  obtain⟨hnk,_⟩:=Ap.number_keep a b;have hl:=hnk.length;have hmd:=hnk.made;have ho:=hnk.op;have e0:a.stepB f b=if ((a.number b).a.length:Int)-(a.number b).a.made<(a.number b).a.value\/((a.number b).a.op≠2/\(a.number b).a.value=0) then { err:=some 2,st:=.counted,a:={ (a.number b).a with count:=(a.number b).a.value },f }
    else if (a.number b).a.op=0 then { err:=none,st:=.own,a:={ (a.number b).a with count:=(a.number b).a.value },f }
    else if (a.number b).a.op=1 then { err:=none,st:=.place,a:={ (a.number b).a with count:=(a.number b).a.value },f }
    else { err:=(({ (a.number b).a with count:=(a.number b).a.value }:Ap).copy f (a.number b).a.made (a.number b).a.value).err,st:=.beside,a:=(({ (a.number b).a with count:=(a.number b).a.value }:Ap).copy f (a.number b).a.made (a.number b).a.value).a,f:=(({ (a.number b).a with count:=(a.number b).a.value }:Ap).copy f (a.number b).a.made (a.number b).a.value).f }:=by
   unfold Ap.stepB;rw[hst];simp only[hw,if_true]
  rw[e0];by_cases h1:(a.length:Int)-(a.made:Int)<((a.number b).a.value:Int)
  ·rw[if_pos (.inl (by rw[hl,hmd];exact h1))];exact counted_T1 w G pa pf bf be a f h b hd hw hm _ rfl h1
  ·by_cases h2:a.op=2
   ·rw[if_neg (by rw[hl,hmd,ho];omega),if_neg (by rw[ho];omega),if_neg (by rw[ho];omega)];exact counted_beside w G pa pf bf be a f h b hd hw hm hsz he hrd _ rfl h1 h2
   ·by_cases h3:(a.number b).a.value=0
    ·rw[if_pos (.inr ⟨by rw[ho];exact h2,h3⟩)];exact counted_T2 w G pa pf bf be a f h b hd hw hm _ rfl h1 h2 h3
    ·rw[if_neg (by rw[hl,hmd,ho];omega)];by_cases h4:a.op=0
     ·rw[if_pos (by rw[ho];exact h4)];exact counted_own w G pa pf bf be a f h b hd hw hm _ rfl h1 h4 h3
     ·rw[if_neg (by rw[ho];exact h4),if_pos (by rw[ho];omega)];exact counted_place w G pa pf bf be a f h b hd hw hm _ rfl h1 (by omega) h3
end Go.Proofs.YtkmgcggoemlaaaaGreatDoor
end
section
/- What takes a byte: oldSize, newSize. -/
set_option maxHeartbeats 4000000
namespace Go.Proofs.YtkmgcggoemlaaaaGreatDoor
open Go.RowKit Go.Fwm
theorem oldSize_ok (w:World)(G:Nat->Prop)(pa pf bf be:Nat)(a:Ap)(f:Fl)(h:ARep w G pa pf bf be a f)(b:UInt8)(hst:a.st=.oldSize)(hd:a.digits=0\/a.digits=1) :
  Calls Tryz.prog 43 #[.pointer (some ⟨pa,0,none⟩),.int .u8 (b.toNat:Int)] w (STo w G pa pf bf be (a.stepB f b)):=by
 have hnu:=number_ok w G pa pf bf be a f h b hd;obtain⟨hnk,hwh,_⟩:=Ap.number_keep a b;cases hw:(a.number b).whole with
 | false=>
  have e1:a.stepB f b = { err:=(a.number b).err,st:=.oldSize,a:=(a.number b).a,f }:=by unfold Ap.stepB;rw[hst];simp only[hw];rfl
  rw[hw] at hnu;rw[e1];generalize a.number b=r at hnu;have HN:=Lib.hid hnu;clear hnu;clear e1 h hst hw hd hnk hwh;go_enter Tryz.func43,Tryz.ntmps43
  go_wp2_with (go_at_call 58;refine HN.out.mono ?_;rintro e w1 ⟨rfl,hto⟩)
  go_ret2
  exact⟨_,rfl,λ_=>rfl,hto⟩
 | true=>
  have e1:a.stepB f b = { err:=none,st:=.oldSum,a:={ (a.number b).a with size:=(a.number b).a.value },f }:=by unfold Ap.stepB;rw[hst];simp only[hw];rfl
  obtain⟨hn1,hn2,hn3⟩:=hwh hw;rw[hw,hn1] at hnu;rw[e1];generalize a.number b=r at hnu hn2;obtain⟨V,hV⟩:∃V,r.a.value=V:=⟨_,rfl⟩;rw[hV] at hn2;have HN:=Lib.hid hnu;clear hnu;have HV:=Lib.hid hV;clear hV;clear e1 h hst hw hd hnk hwh hn1 hn3;go_enter Tryz.func43,Tryz.ntmps43
  go_wp2_with (go_at_call 58;refine HN.out.mono ?_;rintro e w1 ⟨rfl,hto⟩;unfold errV;obtain⟨be1,hat⟩:=hto;have y5:=hat.rep.facts.c5;have y7:=hat.rep.facts.c7;have z7:=hat.rep.facts.fz 7;rw[HV.out] at y5;have HA:=Lib.hid hat;clear hat)
  go_ret2
  have:=HA.out.setSize r.a.value (by rw[HV.out];omega);rw[show ((r.a.value:Nat):Int)=(V:Int) by rw[HV.out]] at this;exact⟨_,rfl,λ_=>rfl,be1,this⟩
theorem newSize_ok (w:World)(G:Nat->Prop)(pa pf bf be:Nat)(a:Ap)(f:Fl)(h:ARep w G pa pf bf be a f)(b:UInt8)(hst:a.st=.newSize)(hd:a.digits=0\/a.digits=1)(he:f.events.length<999980000) :
  Calls Tryz.prog 71 #[.pointer (some ⟨pa,0,none⟩),.int .u8 (b.toNat:Int)] w (STo w G pa pf bf be (a.stepB f b)):=by
 have hnu:=number_ok w G pa pf bf be a f h b hd;obtain⟨hnk,hwh,_⟩:=Ap.number_keep a b;have hfl:=h.fl.fresh_le;cases hw:(a.number b).whole with
 | false=>
  have e1:a.stepB f b = { err:=(a.number b).err,st:=.newSize,a:=(a.number b).a,f }:=by unfold Ap.stepB;rw[hst];simp only[hw];rfl
  rw[hw] at hnu;rw[e1];generalize a.number b=r at hnu;have HN:=Lib.hid hnu;clear hnu;clear e1 h hst hw hd hnk hwh;go_enter Tryz.func71,Tryz.ntmps71
  go_wp2_with (go_at_call 58;refine HN.out.mono ?_;rintro e w1 ⟨rfl,hto⟩)
  go_ret2
  exact⟨_,rfl,λ_=>rfl,hto⟩
 | true=>
  have e1:a.stepB f b=if f.pages*64<(a.number b).a.value then { err:=some 4,st:=.newSize,a:={ (a.number b).a with length:=(a.number b).a.value },f } else ({ (a.number b).a with length:=(a.number b).a.value }:Ap).more f:=by unfold Ap.stepB;rw[hst];simp only[hw];rfl
  obtain⟨hn1,hn2,hn3⟩:=hwh hw;rw[hw,hn1] at hnu;rw[e1];generalize a.number b=r at hnu hn2;obtain⟨V,hV⟩:∃V,r.a.value=V:=⟨_,rfl⟩;obtain⟨Pg,hP⟩:∃Pg,f.pages=Pg:=⟨_,rfl⟩;have hpl:Pg<=64:=by rw[←hP];unfold Fl.pages;omega
  rw[hV] at hn2;have hpg:∀(w2:World) (be1:Nat) (a2:Ap),ARep w2 G pa pf bf be1 a2 f->∀k,Calls Tryz.prog 30 #[.pointer (some ⟨pf,0,none⟩)] (w2.drewN k) λe w'=>e=.returned (.int .i64 (Pg:Int))/\w'=w2.drewN k:=by
   intro w2 be1 a2 hrep k;have:=pages_ok (w2.drewN k) (PX pa G) pf bf be1 f (((AAt.refl hrep).drewN k).rep.fl);rw[hP] at this;exact this.mono λe w' ⟨x1,x2⟩=>⟨x1,x2.symm⟩
  by_cases hbig:f.pages*64<r.a.value
  ·rw[if_pos hbig];rw[hP,hV] at hbig;have hi:(Pg:Int)*64<(V:Int):=by omega
   have HPG:=Lib.hid hpg;clear hpg;have HN:=Lib.hid hnu;clear hnu;have HV:=Lib.hid hV;clear hV;clear e1 h hst hw hd hnk hwh hn1 hn3 hP hbig;go_enter Tryz.func71,Tryz.ntmps71
   go_wp2_with (go_at_call 58;refine HN.out.mono ?_;rintro e w1 ⟨rfl,hto⟩;unfold errV;obtain⟨be1,hat⟩:=hto;have y5:=hat.rep.facts.c5;have y8:=hat.rep.facts.c8;have y0:=hat.rep.facts.c0;have z8:=hat.rep.facts.fz 8;rw[HV.out] at y5;have hat2:=hat.setLength r.a.value (by rw[HV.out];omega);rw[show ((r.a.value:Nat):Int)=(V:Int) by rw[HV.out]] at hat2;have HA:=Lib.hid hat2;clear hat hat2)
   have j1:IntKind.i64.wrap ((Pg:Int)*64)=(Pg:Int)*64:=IntWalk.i64_in _ (by omega);go_quiet ((go_at_call 30;exact Calls.quiet_of_same (HPG.out _ be1 _ HA.out.rep _)))
   clear j1;go_wp2
   go_ret2
   exact⟨_,rfl,λh=>(by cases h),be1,HA.out.drewN _⟩
  ·rw[if_neg hbig];rw[hP,hV] at hbig;have hi:¬((Pg:Int)*64<(V:Int)):=by omega
   have HPG:=Lib.hid hpg;clear hpg;have HN:=Lib.hid hnu;clear hnu;have HV:=Lib.hid hV;clear hV;clear e1 h hst hw hd hnk hwh hn1 hn3 hP hbig;go_enter Tryz.func71,Tryz.ntmps71
   go_wp2_with (go_at_call 58;refine HN.out.mono ?_;rintro e w1 ⟨rfl,hto⟩;unfold errV;obtain⟨be1,hat⟩:=hto;have y5:=hat.rep.facts.c5;have y8:=hat.rep.facts.c8;have y0:=hat.rep.facts.c0;have z8:=hat.rep.facts.fz 8;rw[HV.out] at y5;have hat2:=hat.setLength r.a.value (by rw[HV.out];omega);rw[show ((r.a.value:Nat):Int)=(V:Int) by rw[HV.out]] at hat2;have HA:=Lib.hid hat2;clear hat hat2)
   have j1:IntKind.i64.wrap ((Pg:Int)*64)=(Pg:Int)*64:=IntWalk.i64_in _ (by omega);go_quiet ((go_at_call 30;exact Calls.quiet_of_same (HPG.out _ be1 _ HA.out.rep _)))
   clear j1;have hmo:=λk=>more_ok _ G pa pf bf be1 _ f (HA.out.drewN k).rep (by omega)
   have HM:=Lib.hid hmo;clear hmo;go_wp2_with (go_at_call 80;refine(HM.out _).mono ?_;intro e w4 hk;obtain⟨v,rfl,hk⟩:=hk.tuple)
   go_ret2
   exact STo.from (HA.out.drewN _) hk
end Go.Proofs.YtkmgcggoemlaaaaGreatDoor
end
section
/- What takes a byte: oldSum. -/
set_option maxHeartbeats 8000000
set_option maxRecDepth 100000
namespace Go.Proofs.YtkmgcggoemlaaaaGreatDoor
open Go.RowKit Go.Fwm
theorem oldSum_part (w:World)(G:Nat->Prop)(pa pf bf be:Nat)(a:Ap)(f:Fl)(h:ARep w G pa pf bf be a f)(b:UInt8)(hst:a.st=.oldSum)(hd:0<=a.digits/\a.digits<=3)(hw:((a.addSum b).fixed b).whole=false) :
  Calls Tryz.prog 59 #[.pointer (some ⟨pa,0,none⟩),.int .u8 (b.toNat:Int)] w (STo w G pa pf bf be (a.stepB f b)):=by
 obtain⟨hadd,hat⟩:=sum_step h b;have hfx:=fixed_ok _ G pa pf bf be (a.addSum b) f hat.rep b hd;have e1:a.stepB f b = { err:=none,st:=.oldSum,a:=((a.addSum b).fixed b).a,f }:=by unfold Ap.stepB;rw[hst];simp only[hw];rfl
 have hF:=h.facts;have c3:=hF.c3;have z3:=hF.fz 3;have hlt:pa<w.heap.size:=block_lt_of_cell c3;rw[hw] at hfx;rw[e1];generalize (a.addSum b).fixed b=r at hfx;have HA:=Lib.hid hat;clear hat;have HF:=Lib.hid hfx;clear hfx;generalize (a.addSum b).sum=S at hadd HA HF;clear e1 h hst hF hw hd;go_enter Tryz.func59,Tryz.ntmps59
 go_wp2_with (first | (go_at_call 50;refine hadd.mono ?_;rintro e w' ⟨rfl,rfl⟩) | (go_at_call 68;refine HF.out.mono ?_;rintro e w2 ⟨rfl,hto⟩))
 go_ret2
 obtain⟨be2,hat2⟩:=hto;exact⟨_,rfl,λ_=>rfl,be2,HA.out.then_ hat2⟩
structure Cm (w:World) (G:Nat->Prop) (pa pf bf be:Nat) (res:SumR) (Sz Rd g i:Nat) (wr:World):Prop where
 ex:∃be' a' f' k,AAt w G pa pf bf be a' f' wr be'/\a'.size-i<k/\res=a'.sumOld f' g k i/\a'.size=Sz/\f'.old.length=Sz/\f'.reads+(Sz-i)<=Rd
theorem sumOld_end {a:Ap}{f:Fl}{g k i:Nat}(h:a.size<=i):a.sumOld f g (k+1) i = { err:=none,got:=g,a,f }:=by
 unfold Ap.sumOld;rw[if_pos h]
theorem sumOld_err {a:Ap}{f:Fl}{g k i x:Nat}(h:¬a.size<=i)(hx:(a.read f i (a.size-i)).err=some x):a.sumOld f g (k+1) i = { err:=some x,got:=g,a:=(a.read f i (a.size-i)).a,f:=(a.read f i (a.size-i)).f }:=by
 conv=>lhs;unfold Ap.sumOld
 rw[if_neg h];simp only[hx]
theorem sumOld_next {a:Ap}{f:Fl}{g k i:Nat}(h:¬a.size<=i)(hx:(a.read f i (a.size-i)).err=none):a.sumOld f g (k+1) i=(a.read f i (a.size-i)).a.sumOld (a.read f i (a.size-i)).f (sumAdd g (a.read f i (a.size-i)).a.buf) k (i+(a.read f i (a.size-i)).a.buf.length):=by
 conv=>lhs;unfold Ap.sumOld
 rw[if_neg h];simp only[hx]
theorem oldSum_other (w:World)(G:Nat->Prop)(pa pf bf be:Nat)(a:Ap)(f:Fl)(h:ARep w G pa pf bf be a f)(b:UInt8)(hst:a.st=.oldSum)(hd:0<=a.digits/\a.digits<=3)(hw:((a.addSum b).fixed b).whole=true)(hs:a.size≠f.old.length) :
  Calls Tryz.prog 59 #[.pointer (some ⟨pa,0,none⟩),.int .u8 (b.toNat:Int)] w (STo w G pa pf bf be (a.stepB f b)):=by
 obtain⟨hadd,hat⟩:=sum_step h b;have hfx:=fixed_ok _ G pa pf bf be (a.addSum b) f hat.rep b hd;obtain⟨kk,_⟩:=Ap.fixed_keep (a.addSum b) b;have e1:a.stepB f b = { err:=some 3,st:=.oldSum,a:=((a.addSum b).fixed b).a,f }:=by
  unfold Ap.stepB;rw[hst];simp only[hw,if_true];rw[if_pos (by rw[kk.size];exact hs)]
 have hF:=h.facts;have c3:=hF.c3;have z3:=hF.fz 3;have hlt:pa<w.heap.size:=block_lt_of_cell c3;rw[hw] at hfx;rw[e1];have hrs:((a.addSum b).fixed b).a.size=a.size:=kk.size;have hsl:=h.inv.size;have hol:=h.fl.old_le;generalize (a.addSum b).fixed b=r at hfx hrs;obtain⟨Z,hZ⟩:∃Z,a.size=Z:=⟨_,rfl⟩;obtain⟨O,hO⟩:∃O,f.old.length=O:=⟨_,rfl⟩;obtain⟨V,hV⟩:∃V,r.a.value=V:=⟨_,rfl⟩;rw[hZ] at hrs hsl hs;rw[hO] at hol hs;have hsz:∀(w2:World) (be1:Nat) (a2:Ap),ARep w2 G pa pf bf be1 a2 f->∀k,Calls Tryz.prog 69 #[.pointer (some ⟨pf,0,none⟩)] (w2.drewN k) λe w'=>e=.returned (.int .i64 (O:Int))/\w'=w2.drewN k:=by
  intro w2 be1 a2 hrep k;have:=size_ok (w2.drewN k) (PX pa G) pf bf be1 f (((AAt.refl hrep).drewN k).rep.fl);rw[hO] at this;exact this.mono λe w' ⟨x1,x2⟩=>⟨x1,x2.symm⟩
 have hi:((Z:Int) == (O:Int))=false:=by simp;omega
 have HA:=Lib.hid hat;clear hat;have HF:=Lib.hid hfx;clear hfx;have HSZ:=Lib.hid hsz;clear hsz;have HRS:=Lib.hid hrs;clear hrs;have HV:=Lib.hid hV;clear hV;generalize (a.addSum b).sum=S at hadd HA HF;clear e1 h hst hF hw hd hZ hO kk hs;go_enter Tryz.func59,Tryz.ntmps59
 go_wp2_with (first | (go_at_call 50;refine hadd.mono ?_;rintro e w' ⟨rfl,rfl⟩) | (go_at_call 68;refine HF.out.mono ?_;rintro e w2 ⟨rfl,hto⟩;obtain⟨be2,hat2⟩:=hto;have y5:=hat2.rep.facts.c5;have y7:=hat2.rep.facts.c7;have y0:=hat2.rep.facts.c0;rw[HV.out] at y5;rw[HRS.out] at y7;have HA2:=Lib.hid hat2;clear hat2))
 go_quiet ((go_at_call 69;exact Calls.quiet_of_same (HSZ.out _ be2 _ HA2.out.rep _)))
 go_wp2
 go_ret2
 exact⟨_,rfl,λh=>(by cases h),be2,HA.out.then_ (HA2.out.drewN _)⟩
theorem oldSum_same (w:World)(G:Nat->Prop)(pa pf bf be:Nat)(a:Ap)(f:Fl)(h:ARep w G pa pf bf be a f)(b:UInt8)(hst:a.st=.oldSum)(hd:0<=a.digits/\a.digits<=3)(hw:((a.addSum b).fixed b).whole=true)(hs:a.size=f.old.length)(hrd:f.reads<999999990000) :
  Calls Tryz.prog 59 #[.pointer (some ⟨pa,0,none⟩),.int .u8 (b.toNat:Int)] w (STo w G pa pf bf be (a.stepB f b)):=by
 obtain⟨hadd,hat⟩:=sum_step h b;have hfx:=fixed_ok _ G pa pf bf be (a.addSum b) f hat.rep b hd;obtain⟨kk,_⟩:=Ap.fixed_keep (a.addSum b) b;obtain⟨RES,hRES⟩:∃RES,a.stepB f b=RES:=⟨_,rfl⟩;obtain⟨q,hq⟩:∃q,((a.addSum b).fixed b).a.sumOld f 0 (((a.addSum b).fixed b).a.size+1) 0=q:=⟨_,rfl⟩;have e1:RES=match q.err with
   | some e=>{ err:=some e,st:=.oldSum,a:=q.a,f:=q.f }
   | none=>if q.got≠((a.addSum b).fixed b).a.value then { err:=some 3,st:=.oldSum,a:=q.a,f:=q.f } else { err:=none,st:=.newSize,a:=q.a,f:=q.f }:=by
  rw[←hRES];unfold Ap.stepB;rw[hst];simp only[hw,if_true];rw[if_neg (by rw[kk.size];show ¬a.size≠_;simpa using hs),hq];rfl
 have hF:=h.facts;have c3:=hF.c3;have z3:=hF.fz 3;have hlt:pa<w.heap.size:=block_lt_of_cell c3;rw[hw] at hfx;rw[hRES];have hrs:((a.addSum b).fixed b).a.size=a.size:=kk.size;have hsl:=h.inv.size;generalize hr:(a.addSum b).fixed b=r at hfx hrs hq e1;obtain⟨Z,hZ⟩:∃Z,a.size=Z:=⟨_,rfl⟩;obtain⟨V,hV⟩:∃V,r.a.value=V:=⟨_,rfl⟩;rw[hZ] at hrs hsl;have hO:f.old.length=Z:=by rw[←hs,hZ]
 have hsz:∀(w2:World) (be1:Nat) (a2:Ap),ARep w2 G pa pf bf be1 a2 f->∀k,Calls Tryz.prog 69 #[.pointer (some ⟨pf,0,none⟩)] (w2.drewN k) λe w'=>e=.returned (.int .i64 (Z:Int))/\w'=w2.drewN k:=by
  intro w2 be1 a2 hrep k;have:=size_ok (w2.drewN k) (PX pa G) pf bf be1 f (((AAt.refl hrep).drewN k).rep.fl);rw[hO] at this;exact this.mono λe w' ⟨x1,x2⟩=>⟨x1,x2.symm⟩
 have hi:((Z:Int) == (Z:Int))=true:=by simp
 rw[hV] at e1;have hq1:∀x,q.err=some x->RES = { err:=some x,st:=.oldSum,a:=q.a,f:=q.f }:=λx hx=>by rw[e1,hx]
 have hq2:q.err=none->q.got≠V->RES = { err:=some 3,st:=.oldSum,a:=q.a,f:=q.f }:=λhx hv=>by rw[e1,hx];simp only;rw[if_pos hv]
 have hq3:q.err=none->q.got=V->RES = { err:=none,st:=.newSize,a:=q.a,f:=q.f }:=λhx hv=>by rw[e1,hx];simp only;rw[if_neg (by simpa using hv)]
 have hcm0:∀w2 be2,AAt w G pa pf bf be r.a f w2 be2->Cm w G pa pf bf be q Z (f.reads+Z) 0 0 w2:=λw2 be2 hx=>⟨be2,r.a,f,r.a.size+1,hx,by omega,hq.symm,hrs,hO,by omega⟩
 obtain⟨Rd,hRd⟩:∃Rd,f.reads+Z=Rd:=⟨_,rfl⟩;rw[hRd] at hcm0;have hrd2:Rd<1000000000000:=by omega
 have HA:=Lib.hid hat;clear hat;have HF:=Lib.hid hfx;clear hfx;have HSZ:=Lib.hid hsz;clear hsz;have HRS:=Lib.hid hrs;clear hrs;have HV:=Lib.hid hV;clear hV;have HQ1:=Lib.hid hq1;clear hq1;have HQ2:=Lib.hid hq2;clear hq2;have HQ3:=Lib.hid hq3;clear hq3;have HCM:=Lib.hid hcm0;clear hcm0;generalize (a.addSum b).sum=S at hadd HA HF;clear e1 h hst hF hw hd hZ hO kk hs hr hq hRES hRd hrd;go_enter Tryz.func59,Tryz.ntmps59
 go_wp2_with (first | (go_at_call 50;refine hadd.mono ?_;rintro e w' ⟨rfl,rfl⟩) | (go_at_call 68;refine HF.out.mono ?_;rintro e w2 ⟨rfl,hto⟩;obtain⟨be2,hat2⟩:=hto;have y5:=hat2.rep.facts.c5;have y7:=hat2.rep.facts.c7;have y0:=hat2.rep.facts.c0;rw[HV.out] at y5;rw[HRS.out] at y7;have HA2:=Lib.hid hat2;clear hat2))
 go_quiet ((go_at_call 69;exact Calls.quiet_of_same (HSZ.out _ be2 _ HA2.out.rep _)))
 go_wp2
 have hcm:=λk=>HCM.out _ be2 (HA.out.then_ (HA2.out.drewN k))
 have HCP:=Lib.hid hcm;clear hcm;go_loopw [7,8] (λx y wr=>∃g i:Nat,x=.int .u32 g/\y=.int .i64 i/\i<=Z/\g<4294967296/\Cm w G pa pf bf be q Z Rd g i wr) (λ_ y _=>Z-(intOf y).toNat)
 case atStart=>exact⟨0,0,rfl,rfl,Nat.zero_le _,by omega,HCP.out _⟩
 case round=>
  obtain⟨g,i,rfl,rfl,hiZ,hg,⟨be1,a1,f1,k,hat1,hk,hr1,hs1,ho1,hr2⟩⟩:=hrel;obtain⟨k0,rfl⟩:∃k0,k=k0+1:=⟨k-1,by omega⟩;have y7:=hat1.rep.facts.c7;rw[hs1] at y7;by_cases hlt2:i<Z
  ·have hn:¬a1.size<=i:=by omega
   have hrdc:=aread_ok wr G pa pf bf be1 a1 f1 hat1.rep i (Z-i) (by omega) (by omega);rw[show ((Z-i:Nat):Int)=(Z:Int)-(i:Int) by omega] at hrdc;have hn2:a1.size-i=Z-i:=by omega
   have hkr:=Ap.read_keep a1 f1 i (Z-i);obtain⟨r,hrr⟩:∃r,a1.read f1 i (Z-i)=r:=⟨_,rfl⟩;rw[hrr] at hrdc hkr;have HRD:=Lib.hid hrdc;clear hrdc;have HAT:=Lib.hid hat1;clear hat1;cases herr:r.err with
   | some x=>
    have hsx:=sumOld_err (g:=g) (k:=k0) hn (x:=x) (by rw[hn2,hrr];exact herr);rw[hn2,hrr] at hsx;rw[hsx] at hr1;have HX:=Lib.hid herr;clear herr;have HR:=Lib.hid hr1;clear hr1 hsx hrr hkr hn hn2 hs1 ho1 hr2 hk;go_wp2_with (go_at_call 70;refine HRD.out.mono ?_;rintro e w1 ⟨rfl,hto⟩;rw[HX.out];unfold errV)
    go_ret2
    obtain⟨be3,hat3⟩:=hto;have:=HQ1.out x (by rw[HR.out]);rw[HR.out] at this;rw[this];exact⟨_,rfl,λh=>(by cases h),be3,HAT.out.then_ hat3⟩
   | none=>
    have hsx:=sumOld_next (g:=g) (k:=k0) hn (by rw[hn2,hrr];exact herr);rw[hn2,hrr] at hsx;rw[hsx] at hr1;obtain⟨hk1,hk2,hk3⟩:=hkr;obtain⟨hk3,hk4⟩:=hk3 herr;obtain⟨L,hL⟩:∃L,r.a.buf.length=L:=⟨_,rfl⟩;have hLm:L=min (Z-i) 64:=by rw[←hL,hk3];simp;omega
    have hL1:L<=Z-i:=by omega
    have hL0:0<L:=by omega
    have hLs:L<=64:=by omega
    have hrest:∀w3 be3,AAt w G pa pf bf be r.a r.f w3 be3->Cm w G pa pf bf be q Z Rd (sumAdd g r.a.buf) (i+L) w3:=λw3 be3 hx=>⟨be3,r.a,r.f,k0,hx,by rw[hk1.size];omega,by rw[hr1,hL],by rw[hk1.size];exact hs1,by rw[hk1.old];exact ho1,by have:=hk1.reads;omega⟩
    obtain⟨buf,hbuf⟩:∃buf,r.a.buf=buf:=⟨_,rfl⟩;rw[hbuf] at hrest hL;have HX:=Lib.hid herr;clear herr;have HREST:=Lib.hid hrest;clear hrest;have HB:=Lib.hid hbuf;clear hbuf;have HL:=Lib.hid hL;clear hL;clear hr1 hsx hrr hn hn2 hs1 ho1 hr2 hk hk1 hk2 hk3 hk4 hLm;go_wp2_with (first | (go_at_call 70;refine HRD.out.mono ?_;rintro e w1 ⟨rfl,hto⟩;rw[HX.out];unfold errV;obtain⟨be3,hat3⟩:=hto;obtain⟨A,c,y76,hby,haw,hlt3,hcc⟩:=hat3.rep.c76;rw[HB.out,HL.out] at y76;rw[HB.out] at hby;have hadd2:=add_ok w1 g hg A L c buf HL.out (by unfold maxLen;omega) hby;have HADD:=Lib.hid hadd2;have HAT3:=Lib.hid hat3;clear hat3 hby haw hlt3 hcc hadd2) | (go_at_call 50;refine HADD.out.mono ?_;rintro e w' ⟨rfl,rfl⟩))
    go_roundw
    case rel=>exact⟨sumAdd g buf,i+L,rfl,by go_num,by omega,sumAdd_lt _ _,HREST.out _ be3 (HAT.out.then_ HAT3.out)⟩
    case measure=>simp[intOf];omega
  ·rw[sumOld_end (by omega)] at hr1;have HAT:=Lib.hid hat1;clear hat1;have HR:=Lib.hid hr1;clear hr1 hs1 ho1 hr2 hk;by_cases hgv:g=V
   ·subst hgv;go_wp2
    go_ret2
    have:=HQ3.out (by rw[HR.out]) (by rw[HR.out]);rw[HR.out] at this;rw[this];exact⟨_,rfl,λ_=>rfl,be1,HAT.out⟩
   ·have hgi:((g:Int) == (V:Int))=false:=by simp;omega
    have HG:=Lib.hid hgv;clear hgv;go_wp2
    go_ret2
    have:=HQ2.out (by rw[HR.out]) (by rw[HR.out];exact HG.out);rw[HR.out] at this;rw[this];exact⟨_,rfl,λh=>(by cases h),be1,HAT.out⟩
theorem oldSum_ok (w:World)(G:Nat->Prop)(pa pf bf be:Nat)(a:Ap)(f:Fl)(h:ARep w G pa pf bf be a f)(b:UInt8)(hst:a.st=.oldSum)(hd:0<=a.digits/\a.digits<=3)(hrd:f.reads<999999990000) :
  Calls Tryz.prog 59 #[.pointer (some ⟨pa,0,none⟩),.int .u8 (b.toNat:Int)] w (STo w G pa pf bf be (a.stepB f b)):=by
 cases hw:((a.addSum b).fixed b).whole with
 | false=>exact oldSum_part w G pa pf bf be a f h b hst hd hw
 | true=>
  by_cases hs:a.size=f.old.length
  ·exact oldSum_same w G pa pf bf be a f h b hst hd hw hs hrd
  ·exact oldSum_other w G pa pf bf be a f h b hst hd hw hs
end Go.Proofs.YtkmgcggoemlaaaaGreatDoor
end
section
/- What api.Tell answers: an Errno's number; the number of the Errno within a Fault. (errors.As at a concrete target; turned from the kit's worked example of it.) -/
set_option maxHeartbeats 8000000
set_option maxRecDepth 100000
namespace Go.Proofs.YtkmgcggoemlaaaaGreatDoor
open Go.RowKit Go.Fwm Go.Extern.Stop Go.Stop Go.Extern
theorem valueOf72 (t:Addr)(w:World):(ReflectliteValue.unpack (.iface 72 (.pointer (some t)))).run Tryz.prog w
  = .ok (.agg #[.pointer (some ⟨2,72,none⟩),.pointer (some ⟨w.heap.size,0,none⟩),.int .u64 150]) (w.alloc (.cells #[.pointer (some t)] 72)):=by kernel_rfl
theorem type72 (a:Addr)(w:World):(ReflectliteValue.methodAny (ReflectliteValue.valueError "reflectlite.Value.Type" 0) (λt _ _ _=>ReflectliteType.toType t) #[.agg #[.pointer (some ⟨2,72,none⟩),.pointer (some a),.int .u64 150]]).run Tryz.prog w
  = .ok (.iface 133 (.agg #[.pointer (some ⟨2,72,none⟩)])) w:=by kernel_rfl
theorem methodKind (h:Value)(w:World):(Go.method 309 133 (.agg #[h]) "Kind").run Tryz.prog w=.ok (128,h) w:=by kernel_rfl
theorem kind72 (w:World):((ReflectliteType.abiMethod λt=>(λa:Nat=>Value.int IntKind.u8 (a:Int)) <$> Rtype.kind t) #[.pointer (some ⟨2,72,none⟩)]).run Tryz.prog w=.ok (.int .u8 22) w:=by kernel_rfl
theorem kind30 (w:World):((ReflectliteType.abiMethod λt=>(λa:Nat=>Value.int IntKind.u8 (a:Int)) <$> Rtype.kind t) #[.pointer (some ⟨2,30,none⟩)]).run Tryz.prog w=.ok (.int .u8 2) w:=by kernel_rfl
theorem rlm (z:Sem Value)(f:TypeId->Addr->Nat->Nat->Sem Value)(v:Value) :
  ReflectliteValue.method z f #[v]=(do match ←ReflectliteValue.parts v with | none=>z | some (t,a,fl)=>f t a fl (fl%32)):=rfl
theorem parts72 (a:Addr)(w:World):(ReflectliteValue.parts (.agg #[.pointer (some ⟨2,72,none⟩),.pointer (some a),.int .u64 150])).run Tryz.prog w=.ok (some (72,a,150)) w:=by kernel_rfl
theorem isNil72 (a p:Addr)(W:World)(ha:W.cell? a=some (.pointer (some p))) :
  (ReflectliteValue.method (ReflectliteValue.valueError "reflectlite.Value.IsNil" 0) ReflectliteValue.isNil #[.agg #[.pointer (some ⟨2,72,none⟩),.pointer (some a),.int .u64 150]]).run Tryz.prog W=.ok (.bool false) W:=by
 rw[rlm];simp only[Sem.run_bind,parts72,Result.andThen];simp[ReflectliteValue.isNil,loadVar,isAgg,underlying,Tryz.underlying72,ha,Result.andThen]
theorem methodElem (h:Value)(w:World):(Go.method 309 133 (.agg #[h]) "Elem").run Tryz.prog w=.ok (140,.agg #[h]) w:=by kernel_rfl
theorem methodImplements (h:Value)(w:World):(Go.method 309 133 (.agg #[h]) "Implements").run Tryz.prog w=.ok (141,.agg #[h]) w:=by kernel_rfl
theorem methodAssignableTo (h:Value)(w:World):(Go.method 309 133 (.agg #[h]) "AssignableTo").run Tryz.prog w=.ok (138,.agg #[h]) w:=by kernel_rfl
theorem methodUnwrap (h:Value)(w:World):(Go.method 309 96 h "Unwrap").run Tryz.prog w=.ok (133,h) w:=by kernel_rfl
theorem elem72 (w:World):(ReflectliteType.method ReflectliteType.elem #[.agg #[.pointer (some ⟨2,72,none⟩)]]).run Tryz.prog w=.ok (.iface 133 (.agg #[.pointer (some ⟨2,30,none⟩)])) w:=by kernel_rfl
theorem implements30 (w:World):(ReflectliteType.relation "Implements" ReflectliteType.implements_ #[.agg #[.pointer (some ⟨2,30,none⟩)],.iface 133 (.agg #[.pointer (some ⟨2,27,none⟩)])]).run Tryz.prog w=.ok (.bool true) w:=by kernel_rfl
theorem typeOf30 (v:Value)(w:World):(ReflectliteType.typeOf #[.iface 30 v]).run Tryz.prog w=.ok (.iface 133 (.agg #[.pointer (some ⟨2,30,none⟩)])) w:=by kernel_rfl
theorem typeOf96 (v:Value)(w:World):(ReflectliteType.typeOf #[.iface 96 v]).run Tryz.prog w=.ok (.iface 133 (.agg #[.pointer (some ⟨2,96,none⟩)])) w:=by kernel_rfl
theorem assignable30 (w:World):(ReflectliteType.relation "AssignableTo" ReflectliteType.assignableTo #[.agg #[.pointer (some ⟨2,30,none⟩)],.iface 133 (.agg #[.pointer (some ⟨2,30,none⟩)])]).run Tryz.prog w=.ok (.bool true) w:=by kernel_rfl
theorem assignable96 (w:World):(ReflectliteType.relation "AssignableTo" ReflectliteType.assignableTo #[.agg #[.pointer (some ⟨2,96,none⟩)],.iface 133 (.agg #[.pointer (some ⟨2,30,none⟩)])]).run Tryz.prog w=.ok (.bool false) w:=by kernel_rfl
theorem valueOf30 (n:Int)(w:World):(ReflectliteValue.unpack (.iface 30 (.int .i64 n))).run Tryz.prog w
  = .ok (.agg #[.pointer (some ⟨2,30,none⟩),.pointer (some ⟨w.heap.size,0,none⟩),.int .u64 130]) (w.alloc (.cells #[.int .i64 n] 30)):=by kernel_rfl
theorem elemOf72 (w:World):(Rtype.elem? 72).run Tryz.prog w=.ok (some 30) w:=by kernel_rfl
theorem mk30 (p:Addr)(w:World):(ReflectliteValue.mk 30 p ReflectliteValue.flagAddr).run Tryz.prog w=.ok (.agg #[.pointer (some ⟨2,30,none⟩),.pointer (some p),.int .u64 386]) w:=by kernel_rfl
theorem elemV72 (a p:Addr)(W:World)(ha:W.cell? a=some (.pointer (some p))) :
  (ReflectliteValue.method (ReflectliteValue.valueError "reflectlite.Value.Elem" 0) ReflectliteValue.elem #[.agg #[.pointer (some ⟨2,72,none⟩),.pointer (some a),.int .u64 150]]).run Tryz.prog W
   = .ok (.agg #[.pointer (some ⟨2,30,none⟩),.pointer (some p),.int .u64 386]) W:=by
 rw[rlm];simp only[Sem.run_bind,parts72,Result.andThen];simp[ReflectliteValue.elem,loadVar,isAgg,underlying,Tryz.underlying72,ha,Result.andThen,elemOf72,mk30]
theorem rls (v x:Value):ReflectliteValue.set #[v,x]=(do
  let (some (dst,a,fl),some (src,b,_)):=(←ReflectliteValue.parts v,←ReflectliteValue.parts x)
   | unsupported (.noEntry "extern/(internal/reflectlite.Value).Set.zeroValue")
  if fl/ReflectliteValue.flagAddr%2 == 0 then unsupported (.noEntry "extern/(internal/reflectlite.Value).Set.unaddressable")
  let val ←loadVar src b
  if ←Rtype.directlyAssignable dst src then storeVar dst a val
  else if ←Rtype.implements dst src then
   if (←Rtype.kind src) == 20 then
    match val with
    | .nilIface=>unsupported (.noEntry "extern/reflectlite: a nil value of one interface type handed on as a value of another")
    | _=>storeVar dst a val
   else storeVar dst a (.iface src val)
  else panicString ("reflectlite.Set: value of type " ++ (←Rtype.spelt src)++ " is not assignable to type " ++ (←Rtype.spelt dst))
  pure (.tuple #[])):=rfl
theorem parts30a (a:Addr)(w:World):(ReflectliteValue.parts (.agg #[.pointer (some ⟨2,30,none⟩),.pointer (some a),.int .u64 386])).run Tryz.prog w=.ok (some (30,a,386)) w:=by kernel_rfl
theorem parts30 (a:Addr)(w:World):(ReflectliteValue.parts (.agg #[.pointer (some ⟨2,30,none⟩),.pointer (some a),.int .u64 130])).run Tryz.prog w=.ok (some (30,a,130)) w:=by kernel_rfl
theorem direct30 (w:World):(Rtype.directlyAssignable 30 30).run Tryz.prog w=.ok true w:=by kernel_rfl
theorem set30 (ta b:Addr)(n:Int)(old:Value)(W:World)(hb:W.cell? b=some (.int .i64 n))(ht:W.cell? ta=some old)(hf:W.frozen? ta=false) :
  (ReflectliteValue.set #[.agg #[.pointer (some ⟨2,30,none⟩),.pointer (some ta),.int .u64 386],.agg #[.pointer (some ⟨2,30,none⟩),.pointer (some b),.int .u64 130]]).run Tryz.prog W
   = .ok (.tuple #[]) (W.setCell ta (.int .i64 n)):=by
 rw[rls];simp only[Sem.run_bind,parts30a,parts30,Result.andThen];simp[ReflectliteValue.flagAddr,loadVar,isAgg,underlying,Tryz.underlying30,hb,Result.andThen,direct30,storeVar,Value.cells,storeCells,Addr.add];rw[run_store Tryz.prog W ta _ _ (by rfl)];simp[ht,hf]
theorem noAs96 (v:Value)(xT:TypeId)(w:World):(Instr.typeAssert (.iface 96 v) xT 138 true).run Tryz.prog w=.ok (.tuple #[.nilIface,.bool false]) w:=run_typeAssert_lacksB Tryz.underlying138 (by kernel_rfl) (by kernel_rfl) v xT w
theorem unwraps96 (v:Value)(xT:TypeId)(w:World):(Instr.typeAssert (.iface 96 v) xT 141 true).run Tryz.prog w=.ok (.tuple #[.iface 96 v,.bool true]) w:=run_typeAssert_hasB Tryz.underlying141 (by kernel_rfl) v xT w
def GV (w:World):Prop:=w.cell? ⟨0,0,none⟩=some (.iface 133 (.agg #[.pointer (some ⟨2,27,none⟩)]))
theorem GV.lt {w:World}(h:GV w):0<w.heap.size:=block_lt_of_cell h
theorem as_errno (n:Int)(t:Addr)(old:Value)(w:World)(hg:GV w)(ht0:w.cell? t=some old)(hf0:w.frozen? t=false) :
  Calls Tryz.prog 35 #[.iface 30 (.int .i64 n),.iface 72 (.pointer (some t))] w λev w'=>ev=.returned (.bool true)/\w'=((((w.alloc (.cells #[.pointer (some t)] 72)).alloc (.cells #[.pointer (some ⟨2,72,none⟩),.pointer (some ⟨w.heap.size,0,none⟩),.int .u64 150] 109)).alloc (.cells #[.pointer (some ⟨2,72,none⟩),.pointer (some ⟨w.heap.size,0,none⟩),.int .u64 150] 109)).alloc (.cells #[.int .i64 n] 30)).setCell t (.int .i64 n):=by
 have h51:=@run_callFunc_extern Tryz.prog 51 _ (λargs=>ReflectliteValue.unpack (args.getD 0 (.tuple #[]))) Tryz.func51 (by kernel_rfl) (by kernel_rfl) (by kernel_rfl) (by kernel_rfl);have h52:=@run_callFunc_extern Tryz.prog 52 _ (ReflectliteValue.methodAny (ReflectliteValue.valueError "reflectlite.Value.Type" 0) (λt _ _ _=>ReflectliteType.toType t)) Tryz.func52 (by kernel_rfl) (by kernel_rfl) (by kernel_rfl) (by kernel_rfl);have h53:=@run_callFunc_extern Tryz.prog 53 _ (ReflectliteValue.method (ReflectliteValue.valueError "reflectlite.Value.IsNil" 0) ReflectliteValue.isNil) Tryz.func53 (by kernel_rfl) (by kernel_rfl) (by kernel_rfl) (by kernel_rfl);have h128:=@run_callFunc_extern Tryz.prog 128 _ (ReflectliteType.abiMethod λt=>do pure (.int .u8 (←Rtype.kind t))) Tryz.func128 (by kernel_rfl) (by kernel_rfl) (by kernel_rfl) (by kernel_rfl);have h140:=@run_callFunc_extern Tryz.prog 140 _ (ReflectliteType.method ReflectliteType.elem) Tryz.func140 (by kernel_rfl) (by kernel_rfl) (by kernel_rfl) (by kernel_rfl);have h141:=@run_callFunc_extern Tryz.prog 141 _ (ReflectliteType.relation "Implements" ReflectliteType.implements_) Tryz.func141 (by kernel_rfl) (by kernel_rfl) (by kernel_rfl) (by kernel_rfl);have h64:=@run_callFunc_extern Tryz.prog 64 _ ReflectliteType.typeOf Tryz.func64 (by kernel_rfl) (by kernel_rfl) (by kernel_rfl) (by kernel_rfl);have h138:=@run_callFunc_extern Tryz.prog 138 _ (ReflectliteType.relation "AssignableTo" ReflectliteType.assignableTo) Tryz.func138 (by kernel_rfl) (by kernel_rfl) (by kernel_rfl) (by kernel_rfl);have h65:=@run_callFunc_extern Tryz.prog 65 _ (ReflectliteValue.method (ReflectliteValue.valueError "reflectlite.Value.Elem" 0) ReflectliteValue.elem) Tryz.func65 (by kernel_rfl) (by kernel_rfl) (by kernel_rfl) (by kernel_rfl);have h66:=@run_callFunc_extern Tryz.prog 66 _ ReflectliteValue.set Tryz.func66 (by kernel_rfl) (by kernel_rfl) (by kernel_rfl) (by kernel_rfl);have tO:=typeOf30;have mA:=methodAssignableTo;have a25:=assignable30;have v25:=valueOf30;have f6:=valueOf72;have f7:=type72;have mK:=methodKind;have mE:=methodElem;have mI:=methodImplements;have k27:=kind72;have k25:=kind30;have e27:=elem72;have i25:=implements30;have n8:=isNil72 ⟨w.heap.size,0,none⟩ t ((w.alloc (.cells #[.pointer (some t)] 72)).alloc (.cells #[.pointer (some ⟨2,72,none⟩),.pointer (some ⟨w.heap.size,0,none⟩),.int .u64 150] 109)) (by simp);have hlt:0<w.heap.size:=hg.lt;have hg2:((w.alloc (.cells #[.pointer (some t)] 72)).alloc (.cells #[.pointer (some ⟨2,72,none⟩),.pointer (some ⟨w.heap.size,0,none⟩),.int .u64 150] 109)).cell? ⟨0,0,none⟩=some (.iface 133 (.agg #[.pointer (some ⟨2,27,none⟩)])):=by
  rw[World.cell?_alloc_lt _ _ ⟨0,0,none⟩ (by simp),World.cell?_alloc_lt _ _ ⟨0,0,none⟩ hlt];exact hg
 have htl:t.block<w.heap.size:=block_lt_of_cell ht0;have el:=elemV72 ⟨w.heap.size,0,none⟩ t (((w.alloc (.cells #[.pointer (some t)] 72)).alloc (.cells #[.pointer (some ⟨2,72,none⟩),.pointer (some ⟨w.heap.size,0,none⟩),.int .u64 150] 109)).alloc (.cells #[.pointer (some ⟨2,72,none⟩),.pointer (some ⟨w.heap.size,0,none⟩),.int .u64 150] 109)) (by rw[World.cell?_alloc_lt _ _ ⟨w.heap.size,0,none⟩ (by simp;omega)];simp);have st:=set30 t ⟨w.heap.size+1+1+1,0,none⟩ n old ((((w.alloc (.cells #[.pointer (some t)] 72)).alloc (.cells #[.pointer (some ⟨2,72,none⟩),.pointer (some ⟨w.heap.size,0,none⟩),.int .u64 150] 109)).alloc (.cells #[.pointer (some ⟨2,72,none⟩),.pointer (some ⟨w.heap.size,0,none⟩),.int .u64 150] 109)).alloc (.cells #[.int .i64 n] 30))
  (by rw[World.cell?_alloc_at _ _ _ _ (by simp)];rfl)
  (by rw[World.cell?_alloc_lt _ _ t (by simp;omega),World.cell?_alloc_lt _ _ t (by simp;omega),World.cell?_alloc_lt _ _ t (by simp;omega),World.cell?_alloc_lt _ _ t htl];exact ht0)
  (by rw[World.frozen?_alloc_old _ _ t (by simp;omega),World.frozen?_alloc_old _ _ t (by simp;omega),World.frozen?_alloc_old _ _ t (by simp;omega),World.frozen?_alloc_old _ _ t (Nat.ne_of_lt htl)];exact hf0)
 go_enter Tryz.func35,Tryz.ntmps35
 go_wp2
 refine wp_loop_rounds 1 ?_;rw[rounds_succ];go_wp2
 go_ret
 exact⟨rfl,rfl⟩
/- What api.Tell answers: the number of the Errno within a Fault. (errors.As at a concrete target; turned from the kit's worked example of it.) -/
theorem as_fault (fb:Nat)(n:Int)(t:Addr)(old:Value)(w:World)(hg:GV w)(ht0:w.cell? t=some old)(hf0:w.frozen? t=false)(hfb:w.cell? ⟨fb,1,none⟩=some (.int .i64 n)) :
  Calls Tryz.prog 35 #[.iface 96 (.pointer (some ⟨fb,0,none⟩)),.iface 72 (.pointer (some t))] w λev w'=>ev=.returned (.bool true)/\w'=((((w.alloc (.cells #[.pointer (some t)] 72)).alloc (.cells #[.pointer (some ⟨2,72,none⟩),.pointer (some ⟨w.heap.size,0,none⟩),.int .u64 150] 109)).alloc (.cells #[.pointer (some ⟨2,72,none⟩),.pointer (some ⟨w.heap.size,0,none⟩),.int .u64 150] 109)).alloc (.cells #[.int .i64 n] 30)).setCell t (.int .i64 n):=by
 have h51:=@run_callFunc_extern Tryz.prog 51 _ (λargs=>ReflectliteValue.unpack (args.getD 0 (.tuple #[]))) Tryz.func51 (by kernel_rfl) (by kernel_rfl) (by kernel_rfl) (by kernel_rfl);have h52:=@run_callFunc_extern Tryz.prog 52 _ (ReflectliteValue.methodAny (ReflectliteValue.valueError "reflectlite.Value.Type" 0) (λt _ _ _=>ReflectliteType.toType t)) Tryz.func52 (by kernel_rfl) (by kernel_rfl) (by kernel_rfl) (by kernel_rfl);have h53:=@run_callFunc_extern Tryz.prog 53 _ (ReflectliteValue.method (ReflectliteValue.valueError "reflectlite.Value.IsNil" 0) ReflectliteValue.isNil) Tryz.func53 (by kernel_rfl) (by kernel_rfl) (by kernel_rfl) (by kernel_rfl);have h128:=@run_callFunc_extern Tryz.prog 128 _ (ReflectliteType.abiMethod λt=>do pure (.int .u8 (←Rtype.kind t))) Tryz.func128 (by kernel_rfl) (by kernel_rfl) (by kernel_rfl) (by kernel_rfl);have h140:=@run_callFunc_extern Tryz.prog 140 _ (ReflectliteType.method ReflectliteType.elem) Tryz.func140 (by kernel_rfl) (by kernel_rfl) (by kernel_rfl) (by kernel_rfl);have h141:=@run_callFunc_extern Tryz.prog 141 _ (ReflectliteType.relation "Implements" ReflectliteType.implements_) Tryz.func141 (by kernel_rfl) (by kernel_rfl) (by kernel_rfl) (by kernel_rfl);have h64:=@run_callFunc_extern Tryz.prog 64 _ ReflectliteType.typeOf Tryz.func64 (by kernel_rfl) (by kernel_rfl) (by kernel_rfl) (by kernel_rfl);have h138:=@run_callFunc_extern Tryz.prog 138 _ (ReflectliteType.relation "AssignableTo" ReflectliteType.assignableTo) Tryz.func138 (by kernel_rfl) (by kernel_rfl) (by kernel_rfl) (by kernel_rfl);have h65:=@run_callFunc_extern Tryz.prog 65 _ (ReflectliteValue.method (ReflectliteValue.valueError "reflectlite.Value.Elem" 0) ReflectliteValue.elem) Tryz.func65 (by kernel_rfl) (by kernel_rfl) (by kernel_rfl) (by kernel_rfl);have h66:=@run_callFunc_extern Tryz.prog 66 _ ReflectliteValue.set Tryz.func66 (by kernel_rfl) (by kernel_rfl) (by kernel_rfl) (by kernel_rfl);have tO:=typeOf30;have tF:=typeOf96;have a96:=assignable96;have nA:=noAs96;have uA:=unwraps96;have mU:=methodUnwrap;have mA:=methodAssignableTo;have a25:=assignable30;have v25:=valueOf30;have f6:=valueOf72;have f7:=type72;have mK:=methodKind;have mE:=methodElem;have mI:=methodImplements;have k27:=kind72;have k25:=kind30;have e27:=elem72;have i25:=implements30;have n8:=isNil72 ⟨w.heap.size,0,none⟩ t ((w.alloc (.cells #[.pointer (some t)] 72)).alloc (.cells #[.pointer (some ⟨2,72,none⟩),.pointer (some ⟨w.heap.size,0,none⟩),.int .u64 150] 109)) (by simp);have hlt:0<w.heap.size:=hg.lt;have hg2:((w.alloc (.cells #[.pointer (some t)] 72)).alloc (.cells #[.pointer (some ⟨2,72,none⟩),.pointer (some ⟨w.heap.size,0,none⟩),.int .u64 150] 109)).cell? ⟨0,0,none⟩=some (.iface 133 (.agg #[.pointer (some ⟨2,27,none⟩)])):=by
  rw[World.cell?_alloc_lt _ _ ⟨0,0,none⟩ (by simp),World.cell?_alloc_lt _ _ ⟨0,0,none⟩ hlt];exact hg
 have htl:t.block<w.heap.size:=block_lt_of_cell ht0;have el:=elemV72 ⟨w.heap.size,0,none⟩ t (((w.alloc (.cells #[.pointer (some t)] 72)).alloc (.cells #[.pointer (some ⟨2,72,none⟩),.pointer (some ⟨w.heap.size,0,none⟩),.int .u64 150] 109)).alloc (.cells #[.pointer (some ⟨2,72,none⟩),.pointer (some ⟨w.heap.size,0,none⟩),.int .u64 150] 109)) (by rw[World.cell?_alloc_lt _ _ ⟨w.heap.size,0,none⟩ (by simp;omega)];simp);have st:=set30 t ⟨w.heap.size+1+1+1,0,none⟩ n old ((((w.alloc (.cells #[.pointer (some t)] 72)).alloc (.cells #[.pointer (some ⟨2,72,none⟩),.pointer (some ⟨w.heap.size,0,none⟩),.int .u64 150] 109)).alloc (.cells #[.pointer (some ⟨2,72,none⟩),.pointer (some ⟨w.heap.size,0,none⟩),.int .u64 150] 109)).alloc (.cells #[.int .i64 n] 30))
  (by rw[World.cell?_alloc_at _ _ _ _ (by simp)];rfl)
  (by rw[World.cell?_alloc_lt _ _ t (by simp;omega),World.cell?_alloc_lt _ _ t (by simp;omega),World.cell?_alloc_lt _ _ t (by simp;omega),World.cell?_alloc_lt _ _ t htl];exact ht0)
  (by rw[World.frozen?_alloc_old _ _ t (by simp;omega),World.frozen?_alloc_old _ _ t (by simp;omega),World.frozen?_alloc_old _ _ t (by simp;omega),World.frozen?_alloc_old _ _ t (Nat.ne_of_lt htl)];exact hf0)
 have hbl:fb<w.heap.size:=block_lt_of_cell hfb;have hfb3:(((w.alloc (.cells #[.pointer (some t)] 72)).alloc (.cells #[.pointer (some ⟨2,72,none⟩),.pointer (some ⟨w.heap.size,0,none⟩),.int .u64 150] 109)).alloc (.cells #[.pointer (some ⟨2,72,none⟩),.pointer (some ⟨w.heap.size,0,none⟩),.int .u64 150] 109)).cell? ⟨fb,1,none⟩=some (.int .i64 n):=by
  rw[World.cell?_alloc_lt _ _ ⟨fb,1,none⟩ (by simp;omega),World.cell?_alloc_lt _ _ ⟨fb,1,none⟩ (by simp;omega),World.cell?_alloc_lt _ _ ⟨fb,1,none⟩ hbl];exact hfb
 go_enter Tryz.func35,Tryz.ntmps35
 go_wp2
 refine wp_loop_rounds 2 ?_;rw[rounds_succ];go_wp2
 rw[rounds_succ];go_wp2
 go_ret
 exact⟨rfl,rfl⟩
end Go.Proofs.YtkmgcggoemlaaaaGreatDoor
end
