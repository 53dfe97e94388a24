/-
  Part 13 of the common ground of this seat: what single parts show stands ahead of each.
  No condition.
-/
import Derived.Test.YtkmgcggoemlaaaaGreatDoorJ12
import Derived.IntWalk
import Derived.Laws.BitsAllLaws
import Derived.Outline
import Derived.Lib.SliceRun
set_option linter.unusedSimpArgs false
set_option linter.unusedVariables false
set_option linter.constructorNameAsVariable false
section
/- Commit, Cut, Restore and Read of a flash. -/
set_option maxHeartbeats 2000000
set_option maxRecDepth 100000
namespace Go.Proofs.YtkmgcggoemlaaaaGreatDoor
open Go.RowKit Go.Fwm
theorem FRep.field {w:World}{X:Nat->Prop}{pf bf be:Nat}{f:Fl}(h:FRep w X pf bf be f)(i:Nat)(v:Value)(f':Fl)(e:∀ao co cf ve,flCells f' ao co bf cf ve=(flCells f ao co bf cf ve).set i v)
  (e1:f'.old=f.old) (e2:f'.fresh=f.fresh) (e3:f'.events=f.events) (b1:f'.length<=f.fresh.length) (b2:f'.wait<=1000000000/\-1<=f'.wait) (b3:f'.reads<=1000000000000) (b4:f'.longest<=1000000) :
  FRep (w.setCell ⟨pf,i,none⟩ v) X pf bf be f':=by
 obtain⟨⟨ao,co,cf,ve,h1,h2,h3,h4,h5,h6⟩,hfr,ne1,ne2,ne3,hb,o1,o2,o3,o4,o5,o6,o7⟩:=h;have hon:Only (λb=>b=pf) w (w.setCell ⟨pf,i,none⟩ v):=(Only.refl _ w).set _ (.inl rfl);refine⟨⟨ao,co,cf,ve,?_,?_,h3,λa ha=>Nat.lt_of_lt_of_le (h4 a ha) hon.le,⟨?_,h5.2⟩,by rw[e1,e2];exact h6⟩,?_,ne1,ne2,ne3,Nat.lt_of_lt_of_le hb hon.le,by rw[e1];exact o1,by rw[e2];exact o2,by rw[e3];exact o3,by rw[e2];exact b1,b2,b3,b4⟩
 ·rw[e];exact h1.set i v
 ·rw[e1];exact h2.only hon λa ha e=>h3 a ha (.inr (.inl e))
 ·rw[e3];exact h5.1.kept (row:=some pf) ⟨rfl,rfl,rfl,hon.le,λk hk hne=>hon.keep k hk λe=>hne (by rw[e])⟩ (by
   cases hv:ve.ownBlock with
   | none=>exact .inl rfl
   | some k=>exact .inr λe=>by cases e;exact ne2 (h5.2 _ hv))
 ·rw[e2];exact hfr.setNe _ (Ne.symm ne1)
theorem FAt.field {w w':World}{X:Nat->Prop}{pf bf be be':Nat}{f:Fl}(h:FAt w X pf bf be f w' be')(i:Nat)(v:Value)(f':Fl)(e:∀ao co cf ve,flCells f' ao co bf cf ve=(flCells f ao co bf cf ve).set i v)
  (e1:f'.old=f.old) (e2:f'.fresh=f.fresh) (e3:f'.events=f.events) (b1:f'.length<=f.fresh.length) (b2:f'.wait<=1000000000/\-1<=f'.wait) (b3:f'.reads<=1000000000000) (b4:f'.longest<=1000000) :
  FAt w X pf bf be f' (w'.setCell ⟨pf,i,none⟩ v) be':=⟨h.rep.field i v f' e e1 e2 e3 b1 b2 b3 b4,h.bq,h.on.set _ (.inl (.inl rfl))⟩
theorem FRep.only {w w':World}{X:Nat->Prop}{pf bf be:Nat}{f:Fl}(h:FRep w X pf bf be f){F:Nat->Prop}(hon:Only F w w')(hF:∀b,F b->b<w.heap.size->X b/\b≠pf/\b≠bf/\b≠be):FRep w' X pf bf be f:=by
 obtain⟨⟨ao,co,cf,ve,h1,h2,h3,h4,h5,h6⟩,hfr,ne1,ne2,ne3,hb,o1,o2,o3,o4,o5,o6,o7⟩:=h;refine⟨⟨ao,co,cf,ve,h1.only hon λx=>(hF _ x h1.lt).2.1 rfl,h2.keep λa ha hlt=>hon.keep _ hlt λx=>h3 a ha (.inl (hF _ x hlt).1),h3,λa ha=>Nat.lt_of_lt_of_le (h4 a ha) hon.le,⟨?_,h5.2⟩,h6⟩,hfr.only hon λx=>(hF _ x hfr.lt).2.2.1 rfl,ne1,ne2,ne3,Nat.lt_of_lt_of_le hb hon.le,o1,o2,o3,o4,o5,o6,o7⟩;refine⟨h5.1.1,?_⟩;rcases h5.1.2 with hn|⟨g,cap,cur,rfl,hbb,hgg,rest⟩
 ·exact .inl hn
 ·have hg:g=be:=h5.2 g rfl;subst hg;refine .inr ⟨g,cap,cur,rfl,hbb,?_,rest⟩;rw[hon.keep g hb λx=>(hF _ x hb).2.2.2 rfl];exact hgg
theorem FAt.only {w w' w'':World}{X:Nat->Prop}{pf bf be be':Nat}{f:Fl}(h:FAt w X pf bf be f w' be')(k:Only (λ_=>False) w' w''):FAt w X pf bf be f w'' be':=
 ⟨h.rep.only k λb x=>x.elim,h.bq,h.on.trans k λb _ x=>x.elim⟩
theorem commit_bad (w:World)(X:Nat->Prop)(pf bf be:Nat)(f:Fl)(h:FRep w X pf bf be f)(n:Nat)(hn:f.fresh.length<n) :
  Calls Tryz.prog 44 #[.pointer (some ⟨pf,0,none⟩),.int .i64 (n:Int)] w λe w'=>e=.returned (errV (f.commit n).err)/\FTo w X pf bf be (f.commit n).f w':=by
 have e1:f.commit n = { err:=some 4,f }:=by unfold Fl.commit;rw[if_pos hn]
 obtain⟨cf,q1,_⟩:=h.facts;have hR:FTo w X pf bf be f w:=⟨be,h,.inl rfl,Only.refl _ _⟩;rw[e1];clear e1 h;go_enter Tryz.func44,Tryz.ntmps44
 go_wp2
 go_ret
 exact⟨rfl,hR⟩
theorem commit_cut (w:World)(X:Nat->Prop)(pf bf be:Nat)(f:Fl)(h:FRep w X pf bf be f)(n:Nat)(hn:¬f.fresh.length<n)(hc:f.cutB=true) :
  Calls Tryz.prog 44 #[.pointer (some ⟨pf,0,none⟩),.int .i64 (n:Int)] w λe w'=>e=.returned (errV (f.commit n).err)/\FTo w X pf bf be (f.commit n).f w':=by
 have e1:f.commit n = { err:=some 7,f:=f.cut }:=by unfold Fl.commit;rw[if_neg hn,hc];rfl
 obtain⟨cf,q1,_⟩:=h.facts;have hcut:=cut_ok w X pf bf be f h;rw[hc] at hcut;rw[e1];clear e1 h hc;go_enter Tryz.func44,Tryz.ntmps44
 go_wp2_with (go_at_call 60;refine hcut.mono ?_;rintro e w' ⟨rfl,hto⟩)
 go_ret
 exact⟨rfl,hto⟩
theorem commit_good (w:World)(X:Nat->Prop)(pf bf be:Nat)(f:Fl)(h:FRep w X pf bf be f)(n:Nat)(hn:¬f.fresh.length<n)(hc:f.cutB=false)(he:f.events.length<1000000000) :
  Calls Tryz.prog 44 #[.pointer (some ⟨pf,0,none⟩),.int .i64 (n:Int)] w λe w'=>e=.returned (errV (f.commit n).err)/\FTo w X pf bf be (f.commit n).f w':=by
 have e1:f.commit n = { err:=none,f:={ (f.cut.ev 2 n) with length:=n,committed:=true } }:=by
  have hev:f.cut.events=f.events:=by unfold Fl.cut;split<;>rfl
  unfold Fl.commit Fl.ev;rw[if_neg hn,hc,hev];rfl
 have hfl:=h.fresh_le;obtain⟨cf,q1,_⟩:=h.facts;have hcut:=cut_ok w X pf bf be f h;rw[hc] at hcut;rw[e1];have hcf:f.cut.fresh.length=f.fresh.length:=by rw[Fl.cut_fresh]
 have hce:f.cut.events.length=f.events.length:=by unfold Fl.cut;split<;>rfl
 obtain⟨i0,hi,hz0,hz1,hz2⟩:=info_parts info80;have HCF:=Lib.hid hcf;clear hcf;have HCE:=Lib.hid hce;clear hce;clear e1 h hc;go_enter Tryz.func44,Tryz.ntmps44
 go_wp2_with (first | (go_at_call 60;refine hcut.mono ?_;rintro e w' ⟨rfl,hto⟩;obtain⟨be1,hat⟩:=FAt.of hto;obtain⟨ve,hc2,hfz2⟩:∃ve,w'.cell? ⟨pf,2,none⟩=some ve/\w'.frozen? ⟨pf,2,none⟩=false:=(by obtain⟨ao,co,cf,ve,h1,_⟩:=hat.rep.blk;exact⟨ve,h1.cell rfl,h1.free 2⟩);obtain⟨ho,hst⟩:=event_step w' X pf bf be1 f.cut hat.rep 2 n (by rw[HCE.out];exact he) hc2;have HS:=Lib.hid hst;clear hst;have HO:=Lib.hid ho;clear ho;have HA:=Lib.hid hat;clear hat hto) | (at_builtin;refine wpList_append_where ?g1 (.tmp 24) (.tmp 27) 74 ?g2 80 i0 (.agg #[.int .i64 0,.int .i64 0]) 2 16 ?g3 ?g4 ?g5 ?g6 ?g7 ?g8 ?g9 ve f.cut.events.length (evCells f.cut.events) ?g10 ?g11 ⟨w'.heap.size,0,none⟩ 1 1 [.int .i64 2,.int .i64 (n:Int)] ?g12 ?g13 ?g14 ?g15 ?g16 ?g17 ?g18))
 case g1=>exact rfl
 case g2=>exact rfl
 case g3=>exact Tryz.underlying74
 case g4=>exact hi
 case g5=>exact hz0
 case g6=>exact hz1
 case g7=>exact hz2
 case g8=>exact rfl
 case g9=>exact Nat.two_pos
 case g10=>exact rfl
 case g11=>exact HO.out
 case g12=>exact rfl
 case g13=>exact rfl
 case g14=>exact news_new w' #[.int .i64 2,.int .i64 (n:Int)] 80
 case g15=>intro u hu;simp at hu;rcases hu with rfl | rfl<;>rfl
 case g16=>rw[HCE.out];simp only[maxLen];omega
 case g17=>rw[HCE.out];omega
 case g18=>
  intro v' w1 h1 h2 h3;obtain⟨⟨be2,hat⟩,k1,k2,A',n',c',rfl⟩:=HS.out v' w1 h1 h2 (by simpa using h3);have H2:=Lib.hid (HA.out.then_ hat);obtain⟨x3,y3,hf3⟩:(∃x,w1.cell? ⟨pf,3,none⟩=some x)/\(∃x,w1.cell? ⟨pf,4,none⟩=some x)/\∀i,w1.frozen? ⟨pf,i,none⟩=false:=(by
   obtain⟨ao,co,cf,ve,g1,_⟩:=hat.rep.blk;have e3:(w1.setCell ⟨pf,2,none⟩ (.slice A' n' c')).cell? ⟨pf,3,none⟩=w1.cell? ⟨pf,3,none⟩:=World.cell?_setCell_other _ _ _ _ (by simp);have e4:(w1.setCell ⟨pf,2,none⟩ (.slice A' n' c')).cell? ⟨pf,4,none⟩=w1.cell? ⟨pf,4,none⟩:=World.cell?_setCell_other _ _ _ _ (by simp);exact⟨⟨_,e3 ▸ g1.cell rfl⟩,⟨_,e4 ▸ g1.cell rfl⟩,λi=>by simpa using g1.free i⟩)
  have y4:=hf3 4;have y5:=hf3 3;obtain⟨x4,y3⟩:=y3;obtain⟨x5,x3⟩:=x3;clear hat h1 h2 h3 hf3;go_wp2
  go_ret
  refine⟨rfl,FAt.to (be':=be2) ?_⟩;refine FAt.field (f:={ (f.cut.ev 2 n) with length:=n }) ?_ 4 _ _ (λ_ _ _ _=>rfl) rfl rfl rfl ?_ ?_ ?_ ?_
  ·refine FAt.field (f:=f.cut.ev 2 n) H2.out 3 _ _ (λ_ _ _ _=>rfl) rfl rfl rfl ?_ H2.out.rep.wait_le H2.out.rep.reads_le H2.out.rep.longest_le;show n<=f.cut.fresh.length;rw[HCF.out];omega
  ·show n<=f.cut.fresh.length;rw[HCF.out];omega
  ·exact H2.out.rep.wait_le
  ·exact H2.out.rep.reads_le
  ·exact H2.out.rep.longest_le
theorem commit_ok (w:World)(X:Nat->Prop)(pf bf be:Nat)(f:Fl)(h:FRep w X pf bf be f)(n:Nat)(he:f.events.length<1000000000) :
  Calls Tryz.prog 44 #[.pointer (some ⟨pf,0,none⟩),.int .i64 (n:Int)] w λe w'=>e=.returned (errV (f.commit n).err)/\FTo w X pf bf be (f.commit n).f w':=by
 by_cases hn:f.fresh.length<n
 ·exact commit_bad w X pf bf be f h n hn
 ·cases hc:f.cutB with
  | true=>exact commit_cut w X pf bf be f h n hn hc
  | false=>exact commit_good w X pf bf be f h n hn hc he
end Go.Proofs.YtkmgcggoemlaaaaGreatDoor
end
section
/- Read, Cut, Restore of a flash; NewFlash. -/
set_option maxHeartbeats 4000000
set_option maxRecDepth 100000
namespace Go.Proofs.YtkmgcggoemlaaaaGreatDoor
open Go.RowKit Go.Fwm
theorem slice_bytes {w:World}{ao:Option Addr}{old:List UInt8}{co at_ n:Nat}(h:Bytes w ao old)(h1:at_+n<=old.length)(h2:old.length<=co) :
  Bytes w (if co=at_ then ao else Option.map (λx=>x.add at_) ao) ((old.drop at_).take n):=by
 by_cases hn:n=0
 ·subst hn;rw[List.take_zero];exact Bytes.nil _ _
 ·obtain⟨b,o,rfl,_⟩:=h 0 (by omega);rw[if_neg (by omega)];have e:(⟨b,o,none⟩:Addr).add at_=⟨b,o+at_,none⟩:=by unfold Addr.add;split<;>simp_all
  show Bytes w (some ((⟨b,o,none⟩:Addr).add at_)) _;rw[e];exact(h.drop at_).take n
theorem Fresh.none_ (w w':World):Fresh w w' none 0 0 []:=⟨Bytes.nil _ _,rfl,λa h=>(by cases h),⟨Nat.le_refl _,Nat.zero_le _⟩,λ_=>⟨rfl,rfl⟩,λa h=>by cases h⟩
def RdTo (w:World)(X:Nat->Prop)(pf bf be:Nat)(r:RdR)(e:Ending)(w':World):Prop:=
 ∃A c be',e=.returned (.tuple #[.slice A r.buf.length c,errV r.err])/\FAt w X pf bf be r.f w' be'/\Fresh w w' A r.buf.length c r.buf/\∀a,A=some a->pf<a.block/\bf<a.block/\be'<a.block
theorem read_cut (w:World)(X:Nat->Prop)(pf bf be:Nat)(f:Fl)(h:FRep w X pf bf be f)(at_ n:Nat)(hc:f.cutB=true) :
  Calls Tryz.prog 79 #[.pointer (some ⟨pf,0,none⟩),.int .i64 (at_:Int),.int .i64 (n:Int)] w (RdTo w X pf bf be (f.read at_ n)):=by
 have e1:f.read at_ n = { err:=some 7,buf:=[],f:=f.cut }:=by unfold Fl.read;rw[hc];rfl
 have hcut:=cut_ok w X pf bf be f h;rw[hc] at hcut;rw[e1];clear e1 h hc;go_enter Tryz.func79,Tryz.ntmps79
 go_wp2_with (go_at_call 60;refine hcut.mono ?_;rintro e w' ⟨rfl,hto⟩)
 go_ret2
 obtain⟨be1,hat⟩:=FAt.of hto;exact⟨none,0,be1,rfl,hat,Fresh.none_ _ _,λa h=>by cases h⟩
theorem read_goodA (w:World)(X:Nat->Prop)(pf bf be:Nat)(f:Fl)(h:FRep w X pf bf be f)(at_ n:Nat)(ha:at_+n<=f.old.length)(hrd:f.reads<1000000000000)(hc:f.cutB=false)(hL:f.longest<n) :
  Calls Tryz.prog 79 #[.pointer (some ⟨pf,0,none⟩),.int .i64 (at_:Int),.int .i64 (n:Int)] w (RdTo w X pf bf be (f.read at_ n)):=by
 have e1:f.read at_ n = { err:=none,buf:=(f.old.drop at_).take n,f:={ f.cut with reads:=f.reads+1,longest:=n } }:=by unfold Fl.read;rw[hc,show max f.longest n=n by omega];rfl
 have hcut:=cut_ok w X pf bf be f h;rw[hc] at hcut;rw[e1];have hcr:f.cut.reads=f.reads/\f.cut.longest=f.longest/\f.cut.old=f.old:=by unfold Fl.cut;split<;>exact⟨rfl,rfl,rfl⟩
 have hol:=h.old_le;have hll:=h.longest_le;have hbl:((f.old.drop at_).take n).length=n:=by simp;omega
 have HCR:=Lib.hid hcr;clear hcr;have HBL:=Lib.hid hbl;clear hbl;obtain⟨N,hN⟩:∃N,f.old.length=N:=⟨_,rfl⟩;have HN:=Lib.hid hN;rw[hN] at ha hol;clear hN;clear e1 h hc;go_enter Tryz.func79,Tryz.ntmps79
 go_wp2_with (go_at_call 60;refine hcut.mono ?_;rintro e w1 ⟨rfl,hto⟩;obtain⟨be1,hat⟩:=FAt.of hto;obtain⟨ao,co,q7,q8,q0,z7,z8,z0,z1,z2⟩:∃ao co,w1.cell? ⟨pf,7,none⟩=some (.int .i64 (f.reads:Int))/\w1.cell? ⟨pf,8,none⟩=some (.int .i64 (f.longest:Int))/\w1.cell? ⟨pf,0,none⟩=some (.slice ao N co)/\w1.frozen? ⟨pf,7,none⟩=false/\w1.frozen? ⟨pf,8,none⟩=false/\(N<=co/\co<=maxLen)/\Bytes w1 ao f.old/\(Away (AF_ X pf bf be1) ao/\(ao=none->co=0)):=(by obtain⟨g1,g2,g3⟩:=HCR.out;obtain⟨ao,co,cf,ve,h1,h2,h3,h4,h5,h6,h7,h8,h9,h10⟩:=hat.rep.blk;rw[g3] at h2 h8;rw[HN.out] at h8;exact⟨ao,co,g1 ▸ h1.cell rfl,g2 ▸ h1.cell rfl,HN.out ▸ g3 ▸ h1.cell rfl,h1.free 7,h1.free 8,⟨h8,h9⟩,h2,h3,h10⟩);have HA:=Lib.hid hat;have HB:=Lib.hid z1;have HZ:=Lib.hid z2;have d0:∀v u,((w1.setCell ⟨pf,7,none⟩ v).setCell ⟨pf,8,none⟩ u).cell? ⟨pf,0,none⟩=some (.slice ao N co):=(λv u=>by rw[World.cell?_setCell_other _ _ _ _ (by simp),World.cell?_setCell_other _ _ _ _ (by simp)];exact q0);have HD:=Lib.hid d0;clear hat hto z1 z2 d0)
 obtain⟨w2,hw2⟩:∃w2,((w1.setCell ⟨pf,7,none⟩ (.int .i64 ((f.reads:Int)+1))).setCell ⟨pf,8,none⟩ (.int .i64 (n:Int)))=w2:=⟨_,rfl⟩;have d1:=HD.out (.int .i64 ((f.reads:Int)+1)) (.int .i64 (n:Int));rw[hw2] at d1 ⊢;have hat2:FAt w X pf bf be { f.cut with reads:=f.reads+1,longest:=n } w2 be1:=by
  rw[←hw2];obtain⟨g1,g2,g3⟩:=HCR.out;refine FAt.field (f:={ f.cut with reads:=f.reads+1 }) ?_ 8 _ _ (λ_ _ _ _=>rfl) rfl rfl rfl HA.out.rep.len_le HA.out.rep.wait_le (by show f.reads+1<=_;omega) (by show n<=_;omega);exact FAt.field (f:=f.cut) HA.out 7 _ _ (λ_ _ _ _=>rfl) rfl rfl rfl HA.out.rep.len_le HA.out.rep.wait_le (by show f.reads+1<=_;omega) (by rw[←g2] at hll;exact hll)
 have hby:Bytes w2 ao f.old:=by
  have:=hat2.rep.blk;rw[←hw2];refine HB.out.only (((Only.refl (λb=>b=pf) w1).set _ (.inl rfl)).set _ (.inl rfl)) λa ha e=>HZ.out.1 a ha (.inr (.inl e))
 obtain⟨w3,hw3⟩:∃w3,w2.drew=w3:=⟨_,rfl⟩;have d3:w3.cell? ⟨pf,0,none⟩=some (.slice ao N co):=by rw[←hw3];exact d1
 have HAT:=Lib.hid hat2;clear hat2;have HBY:=Lib.hid hby;clear hby;have HW2:=Lib.hid hw2;clear hw2;unfold maxLen at z0;obtain⟨z0,z3⟩:=z0;refine wp_region_still_tail 18 (by kernel_rfl) (by kernel_rfl) ?_;change wpStill _ _ w2.drew _ _ _;rw[hw3];have HW:=Lib.hid hw3;clear hw3;simp only[List.take_succ_cons,List.take_zero,List.drop_succ_cons,List.drop_zero];have i1:(at_:Int)+(n:Int)<=(co:Int):=by omega
 have i2:(at_:Int)<=(at_:Int)+(n:Int):=by omega
 have i3:(n:Int)<=(N:Int)-(at_:Int):=by omega
 have i4:(at_:Int)<=(N:Int):=by omega
 have i5:¬((n:Int)<0):=by omega
 have i6:¬((N:Int)-(at_:Int)<(n:Int)):=by omega
 have j1:IntKind.i64.wrap ((at_:Int)+(n:Int))=(at_:Int)+(n:Int):=IntWalk.i64_in _ (by omega);have j2:IntKind.i64.wrap ((N:Int)-(at_:Int))=(N:Int)-(at_:Int):=IntWalk.i64_in _ (by omega);repeat still_step
 clear j1 j2;refine wpStill_nil ?_;change wpList _ _ _ _ _ w2.drew;rw[HW.out];have e:((at_:Int)+(n:Int)).toNat-at_=n:=by omega
 rw[e];have hA0:=slice_bytes HBY.out (show at_+n<=f.old.length by rw[HN.out];omega) (show f.old.length<=co by rw[HN.out];omega);have hA1:(if co=at_ then ao else Option.map (λx=>x.add at_) ao)=none->co-at_=0:=by
  intro h;by_cases hc:co=at_
  ·omega
  ·rw[if_neg hc] at h;have:=HZ.out.2 (by simpa using h);omega
 generalize (if co=at_ then ao else Option.map (λx=>x.add at_) ao)=A0 at hA0 hA1 ⊢;have hcl:=clone_any w3 A0 n (co-at_) ((f.old.drop at_).take n) HBL.out (by omega) (by rw[←HW.out];exact hA0) hA1;have HCL:=Lib.hid hcl;clear hcl hA0 hA1 e;go_wp2_with (go_at_call 38;refine HCL.out.mono ?_;rintro e w' ⟨A,c,rfl,hf,hb⟩)
 go_ret2
 have hat:=HAT.out;rw[←HW.out] at hf hb;have hle:=hat.on.le;refine⟨A,c,be1,?_,hat.only ⟨hb.size,λb hb1 _=>hb.block b hb1⟩,⟨hf.bytes,rfl,λa ha=>?_,?_,?_,hf.own⟩,λa ha=>?_⟩
 ·show _=Ending.returned (.tuple #[.slice A ((f.old.drop at_).take n).length c,errV none]);rw[HBL.out];rfl
 ·obtain⟨x1,x2⟩:=hf.new_ a ha;exact⟨Nat.le_trans hle x1,x2⟩
 ·show ((f.old.drop at_).take n).length<=c/\_;rw[HBL.out];exact hf.cap
 ·show A=none->((f.old.drop at_).take n).length=0/\_;rw[HBL.out];exact hf.nil_
 ·obtain⟨x1,_⟩:=hf.new_ a ha;have x3:w2.heap.size<=a.block:=x1;obtain⟨_,_,_,_,g1,_⟩:=hat.rep.blk;exact⟨Nat.lt_of_lt_of_le g1.lt x3,Nat.lt_of_lt_of_le hat.rep.fresh.lt x3,Nat.lt_of_lt_of_le hat.rep.belt x3⟩
theorem read_goodB (w:World)(X:Nat->Prop)(pf bf be:Nat)(f:Fl)(h:FRep w X pf bf be f)(at_ n:Nat)(ha:at_+n<=f.old.length)(hrd:f.reads<1000000000000)(hc:f.cutB=false)(hL:n<=f.longest) :
  Calls Tryz.prog 79 #[.pointer (some ⟨pf,0,none⟩),.int .i64 (at_:Int),.int .i64 (n:Int)] w (RdTo w X pf bf be (f.read at_ n)):=by
 have e1:f.read at_ n = { err:=none,buf:=(f.old.drop at_).take n,f:={ f.cut with reads:=f.reads+1,longest:=f.longest } }:=by unfold Fl.read;rw[hc,show max f.longest n=f.longest by omega];rfl
 have hcut:=cut_ok w X pf bf be f h;rw[hc] at hcut;rw[e1];have hcr:f.cut.reads=f.reads/\f.cut.longest=f.longest/\f.cut.old=f.old:=by unfold Fl.cut;split<;>exact⟨rfl,rfl,rfl⟩
 have hol:=h.old_le;have hll:=h.longest_le;have hbl:((f.old.drop at_).take n).length=n:=by simp;omega
 have HCR:=Lib.hid hcr;clear hcr;have HBL:=Lib.hid hbl;clear hbl;obtain⟨N,hN⟩:∃N,f.old.length=N:=⟨_,rfl⟩;have HN:=Lib.hid hN;rw[hN] at ha hol;clear hN;clear e1 h hc;go_enter Tryz.func79,Tryz.ntmps79
 go_wp2_with (go_at_call 60;refine hcut.mono ?_;rintro e w1 ⟨rfl,hto⟩;obtain⟨be1,hat⟩:=FAt.of hto;obtain⟨ao,co,q7,q8,q0,z7,z8,z0,z1,z2⟩:∃ao co,w1.cell? ⟨pf,7,none⟩=some (.int .i64 (f.reads:Int))/\w1.cell? ⟨pf,8,none⟩=some (.int .i64 (f.longest:Int))/\w1.cell? ⟨pf,0,none⟩=some (.slice ao N co)/\w1.frozen? ⟨pf,7,none⟩=false/\w1.frozen? ⟨pf,8,none⟩=false/\(N<=co/\co<=maxLen)/\Bytes w1 ao f.old/\(Away (AF_ X pf bf be1) ao/\(ao=none->co=0)):=(by obtain⟨g1,g2,g3⟩:=HCR.out;obtain⟨ao,co,cf,ve,h1,h2,h3,h4,h5,h6,h7,h8,h9,h10⟩:=hat.rep.blk;rw[g3] at h2 h8;rw[HN.out] at h8;exact⟨ao,co,g1 ▸ h1.cell rfl,g2 ▸ h1.cell rfl,HN.out ▸ g3 ▸ h1.cell rfl,h1.free 7,h1.free 8,⟨h8,h9⟩,h2,h3,h10⟩);have HA:=Lib.hid hat;have HB:=Lib.hid z1;have HZ:=Lib.hid z2;have d0:∀v u,((w1.setCell ⟨pf,7,none⟩ v).setCell ⟨pf,8,none⟩ u).cell? ⟨pf,0,none⟩=some (.slice ao N co):=(λv u=>by rw[World.cell?_setCell_other _ _ _ _ (by simp),World.cell?_setCell_other _ _ _ _ (by simp)];exact q0);have HD:=Lib.hid d0;clear hat hto z1 z2 d0)
 obtain⟨w2,hw2⟩:∃w2,((w1.setCell ⟨pf,7,none⟩ (.int .i64 ((f.reads:Int)+1))).setCell ⟨pf,8,none⟩ (.int .i64 (f.longest:Int)))=w2:=⟨_,rfl⟩;have d1:=HD.out (.int .i64 ((f.reads:Int)+1)) (.int .i64 (f.longest:Int));rw[hw2] at d1 ⊢;have hat2:FAt w X pf bf be { f.cut with reads:=f.reads+1,longest:=f.longest } w2 be1:=by
  rw[←hw2];obtain⟨g1,g2,g3⟩:=HCR.out;refine FAt.field (f:={ f.cut with reads:=f.reads+1 }) ?_ 8 _ _ (λ_ _ _ _=>rfl) rfl rfl rfl HA.out.rep.len_le HA.out.rep.wait_le (by show f.reads+1<=_;omega) (by show f.longest<=_;omega);exact FAt.field (f:=f.cut) HA.out 7 _ _ (λ_ _ _ _=>rfl) rfl rfl rfl HA.out.rep.len_le HA.out.rep.wait_le (by show f.reads+1<=_;omega) (by rw[←g2] at hll;exact hll)
 have hby:Bytes w2 ao f.old:=by
  have:=hat2.rep.blk;rw[←hw2];refine HB.out.only (((Only.refl (λb=>b=pf) w1).set _ (.inl rfl)).set _ (.inl rfl)) λa ha e=>HZ.out.1 a ha (.inr (.inl e))
 obtain⟨w3,hw3⟩:∃w3,w2.drew=w3:=⟨_,rfl⟩;have d3:w3.cell? ⟨pf,0,none⟩=some (.slice ao N co):=by rw[←hw3];exact d1
 have HAT:=Lib.hid hat2;clear hat2;have HBY:=Lib.hid hby;clear hby;have HW2:=Lib.hid hw2;clear hw2;unfold maxLen at z0;obtain⟨z0,z3⟩:=z0;refine wp_region_still_tail 18 (by kernel_rfl) (by kernel_rfl) ?_;change wpStill _ _ w2.drew _ _ _;rw[hw3];have HW:=Lib.hid hw3;clear hw3;simp only[List.take_succ_cons,List.take_zero,List.drop_succ_cons,List.drop_zero];have i1:(at_:Int)+(n:Int)<=(co:Int):=by omega
 have i2:(at_:Int)<=(at_:Int)+(n:Int):=by omega
 have i3:(n:Int)<=(N:Int)-(at_:Int):=by omega
 have i4:(at_:Int)<=(N:Int):=by omega
 have i5:¬((n:Int)<0):=by omega
 have i6:¬((N:Int)-(at_:Int)<(n:Int)):=by omega
 have j1:IntKind.i64.wrap ((at_:Int)+(n:Int))=(at_:Int)+(n:Int):=IntWalk.i64_in _ (by omega);have j2:IntKind.i64.wrap ((N:Int)-(at_:Int))=(N:Int)-(at_:Int):=IntWalk.i64_in _ (by omega);repeat still_step
 clear j1 j2;refine wpStill_nil ?_;change wpList _ _ _ _ _ w2.drew;rw[HW.out];have e:((at_:Int)+(n:Int)).toNat-at_=n:=by omega
 rw[e];have hA0:=slice_bytes HBY.out (show at_+n<=f.old.length by rw[HN.out];omega) (show f.old.length<=co by rw[HN.out];omega);have hA1:(if co=at_ then ao else Option.map (λx=>x.add at_) ao)=none->co-at_=0:=by
  intro h;by_cases hc:co=at_
  ·omega
  ·rw[if_neg hc] at h;have:=HZ.out.2 (by simpa using h);omega
 generalize (if co=at_ then ao else Option.map (λx=>x.add at_) ao)=A0 at hA0 hA1 ⊢;have hcl:=clone_any w3 A0 n (co-at_) ((f.old.drop at_).take n) HBL.out (by omega) (by rw[←HW.out];exact hA0) hA1;have HCL:=Lib.hid hcl;clear hcl hA0 hA1 e;go_wp2_with (go_at_call 38;refine HCL.out.mono ?_;rintro e w' ⟨A,c,rfl,hf,hb⟩)
 go_ret2
 have hat:=HAT.out;rw[←HW.out] at hf hb;have hle:=hat.on.le;refine⟨A,c,be1,?_,hat.only ⟨hb.size,λb hb1 _=>hb.block b hb1⟩,⟨hf.bytes,rfl,λa ha=>?_,?_,?_,hf.own⟩,λa ha=>?_⟩
 ·show _=Ending.returned (.tuple #[.slice A ((f.old.drop at_).take n).length c,errV none]);rw[HBL.out];rfl
 ·obtain⟨x1,x2⟩:=hf.new_ a ha;exact⟨Nat.le_trans hle x1,x2⟩
 ·show ((f.old.drop at_).take n).length<=c/\_;rw[HBL.out];exact hf.cap
 ·show A=none->((f.old.drop at_).take n).length=0/\_;rw[HBL.out];exact hf.nil_
 ·obtain⟨x1,_⟩:=hf.new_ a ha;have x3:w2.heap.size<=a.block:=x1;obtain⟨_,_,_,_,g1,_⟩:=hat.rep.blk;exact⟨Nat.lt_of_lt_of_le g1.lt x3,Nat.lt_of_lt_of_le hat.rep.fresh.lt x3,Nat.lt_of_lt_of_le hat.rep.belt x3⟩
theorem read_ok (w:World)(X:Nat->Prop)(pf bf be:Nat)(f:Fl)(h:FRep w X pf bf be f)(at_ n:Nat)(ha:at_+n<=f.old.length)(hrd:f.reads<1000000000000) :
  Calls Tryz.prog 79 #[.pointer (some ⟨pf,0,none⟩),.int .i64 (at_:Int),.int .i64 (n:Int)] w (RdTo w X pf bf be (f.read at_ n)):=by
 cases hc:f.cutB with
 | true=>exact read_cut w X pf bf be f h at_ n hc
 | false=>
  by_cases hl:f.longest<n
  ·exact read_goodA w X pf bf be f h at_ n ha hrd hc hl
  ·exact read_goodB w X pf bf be f h at_ n ha hrd hc (by omega)
end Go.Proofs.YtkmgcggoemlaaaaGreatDoor
end
section
/- Add of a sum. -/
set_option maxHeartbeats 1000000
namespace Go.Proofs.YtkmgcggoemlaaaaGreatDoor
open Go.RowKit Go.Fwm
theorem ones_xor (s:Nat)(h:s<4294967296):4294967295 ^^^ s=4294967295-s:=by
 apply Nat.eq_of_testBit_eq;intro i;have h1:(4294967295:Nat)=2 ^ 32-1:=by decide
 have h2:4294967295-s=2 ^ 32-(s+1):=by omega
 rw[Nat.testBit_xor,h2,Nat.testBit_two_pow_sub_succ (show s<2 ^ 32 by omega),h1,Nat.testBit_two_pow_sub_one];by_cases hi:i<32
 ·simp[hi]
 ·have:s.testBit i=false:=Nat.testBit_lt_two_pow (Nat.lt_of_lt_of_le (show s<2 ^ 32 by omega) (Nat.pow_le_pow_right (by omega) (by omega)));simp[hi,this]
theorem walk_inv (s:Nat)(h:s<4294967296):bits .xor .u32 IntKind.u32.max (s:Int)=((inv32 s:Nat):Int):=by
 have e:IntKind.u32.max=((4294967295:Nat):Int):=by decide
 rw[e,u32_xor_nat 4294967295 s (by omega) h,ones_xor s h];rfl
theorem walk_rnd (r:Nat)(h:r<4294967296):bits .xor .u32 ((r:Int)/2) (bits .and .u32 (r:Int) 1*3988292384%4294967296)=((rnd r:Nat):Int):=by
 have e1:bits .and .u32 (r:Int) 1=((r &&& 1:Nat):Int):=u32_and_nat r 1 h (by omega);have e2:r &&& 1=r%2:=Nat.and_two_pow_sub_one_eq_mod r 1;have e3:(((r &&& 1:Nat):Int)*3988292384%4294967296)=(((r &&& 1)*poly:Nat):Int):=by rw[e2];unfold poly;omega
 have e4:((r:Int)/2)=((r/2:Nat):Int):=by omega
 rw[e1,e3,e4,u32_xor_nat (r/2) _ (by omega) (by rw[e2];unfold poly;omega)];unfold rnd;rw[Nat.shiftRight_eq_div_pow]
theorem crcL_snoc (c:Nat)(zs:List UInt8)(k:Nat)(h:k<zs.length):crcL c (zs.take (k+1))=crcB (crcL c (zs.take k)) zs[k]:=by
 rw[List.take_succ_eq_append_getElem h,crcL_app];rfl
theorem add_ok (w:World)(s:Nat)(hs:s<4294967296)(A:Option Addr)(n c:Nat)(zs:List UInt8)(hl:zs.length=n)(hn:n<=maxLen)(hx:Bytes w A zs) :
  Calls Tryz.prog 50 #[.int .u32 (s:Int),.slice A n c] w λe w'=>e=.returned (.int .u32 (sumAdd s zs:Nat))/\w=w':=by
 unfold maxLen at hn;go_enter Tryz.func50,Tryz.ntmps50
 go_wp2
 go_loop [5,12] (λq i=>∃k:Nat,k<=n/\i=.int .i64 k/\q=.int .u32 (crcL (inv32 s) (zs.take k):Nat)) (λ_ i=>n-(intOf i).toNat)
 case atStart=>exact⟨0,Nat.zero_le _,rfl,by rw[walk_inv s hs];rfl⟩
 case round=>
  obtain⟨k,hk,rfl,rfl⟩:=hrel;by_cases hlt:k<n
  ·have hsn:=crcL_snoc (inv32 s) zs k (by omega);obtain⟨b,o,rfl,hc⟩:=hx k (by omega);obtain⟨C,hC⟩:∃C,crcL (inv32 s) (zs.take k)=C:=⟨_,rfl⟩;have hCl:C<4294967296:=by rw[←hC];exact crcL_lt (inv32_lt s) _
   obtain⟨x,hxx⟩:∃x,zs[k].toNat=x:=⟨_,rfl⟩;have hx256:x<256:=by rw[←hxx];exact zs[k].toNat_lt
   have hstep:crcL (inv32 s) (zs.take (k+1))=rnds 8 (C ^^^ x):=by rw[hsn,hC];unfold crcB;rw[hxx]
   rw[hxx] at hc;rw[hC];have HS:=Lib.hid hstep;clear hstep hsn;clear hC hxx;have hxor:=u32_xor_nat C x hCl (by omega);have hlt32:∀m,rnds m (C ^^^ x)<4294967296:=λm=>rnds_lt (Nat.xor_lt_two_pow (n:=32) (by omega) (by omega)) m
   have HL:=Lib.hid hlt32;clear hlt32;go_wp2
   go_loop [5,20] (λq j=>∃m:Nat,m<=8/\j=.int .i64 m/\q=.int .u32 (rnds m (C ^^^ x):Nat)) (λ_ j=>8-(intOf j).toNat)
   case atStart=>exact⟨0,by omega,rfl,rfl⟩
   case round=>
    obtain⟨m,hm,rfl,rfl⟩:=hrel;by_cases hm8:m<8
    ·obtain⟨r,hr⟩:∃r,rnds m (C ^^^ x)=r:=⟨_,rfl⟩;have hrl:r<4294967296:=by rw[←hr];exact HL.out m
     have hw:=walk_rnd r hrl;have e1:rnds (m+1) (C ^^^ x)=rnd r:=by rw[←hr];rfl
     rw[hr];have HW:=Lib.hid hw;clear hw;have HE:=Lib.hid e1;clear e1 hr;go_wp2
     go_round
     case rel=>exact⟨m+1,by omega,by go_num,by rw[HE.out,HW.out]⟩
     case measure=>simp[intOf];omega
    ·have e8:m=8:=by omega
     subst e8;go_wp2
     go_round
     case rel=>exact⟨k+1,by omega,by go_num,by rw[HS.out]⟩
     case measure=>simp[intOf];omega
  ·have e:k=n:=by omega
   have hcl:crcL (inv32 s) (zs.take k)<4294967296:=crcL_lt (inv32_lt s) _;have hw:=walk_inv _ hcl;have e2:zs.take k=zs:=List.take_of_length_le (by omega);have HW:=Lib.hid hw;clear hw hcl;have HE:=Lib.hid e2;clear e2 e;go_wp2
   go_ret
   exact⟨by rw[HW.out,HE.out];rfl,rfl⟩
end Go.Proofs.YtkmgcggoemlaaaaGreatDoor
end
section
/- The applier in memory: how it turns; number and fixed. -/
namespace Go.Proofs.YtkmgcggoemlaaaaGreatDoor
open Go.RowKit Go.Fwm
def AO (pa pf bf be:Nat)(b:Nat):Prop:=b=pa\/FF pf bf be b
structure AAt (w:World) (G:Nat->Prop) (pa pf bf be:Nat) (a:Ap) (f:Fl) (w':World) (be':Nat):Prop where
 rep:ARep w' G pa pf bf be' a f
 bq:be'=be\/w.heap.size<=be'
 on:Only (AO pa pf bf be) w w'
section
variable {w w' w'':World} {G:Nat->Prop} {pa pf bf be be' be'':Nat} {a a':Ap} {f f':Fl}
theorem AAt.refl (h:ARep w G pa pf bf be a f):AAt w G pa pf bf be a f w be:=⟨h,.inl rfl,Only.refl _ _⟩
theorem AAt.then_ (h:AAt w G pa pf bf be a f w' be')(k:AAt w' G pa pf bf be' a' f' w'' be''):AAt w G pa pf bf be a' f' w'' be'':=by
 refine⟨k.rep,?_,h.on.trans k.on λb hb x=>?_⟩
 ·rcases k.bq with e | e
  ·rw[e];exact h.bq
  ·exact .inr (Nat.le_trans h.on.le e)
 ·rcases x with x | x | x | x
  ·exact .inl x
  ·exact .inr (.inl x)
  ·exact .inr (.inr (.inl x))
  ·rcases h.bq with y | y
   ·exact .inr (.inr (.inr (x.trans y)))
   ·omega
theorem ARep.field (h:ARep w G pa pf bf be a f)(i:Nat)(v:Value)(a':Ap)(e:∀vf vb,apCells a' pf vf vb=(apCells a pf vf vb).set i v)(e1:a'.fault=a.fault)(e2:a'.buf=a.buf)(hi:AInv a') :
  ARep (w.setCell ⟨pa,i,none⟩ v) G pa pf bf be a' f:=by
 obtain⟨⟨vf,A,c,h1,h2,h3,h4,h5,h6⟩,hfl,ne,ng,hg,_⟩:=h;have hon:Only (λb=>b=pa) w (w.setCell ⟨pa,i,none⟩ v):=(Only.refl _ w).set _ (.inl rfl);refine⟨⟨vf,A,c,?_,?_,?_,h4,λx hx=>Nat.lt_of_lt_of_le (h5 x hx) hon.le,by rw[e2];exact h6⟩,hfl.only hon λb x _=>?_,ne,ng,λb hb=>Nat.lt_of_lt_of_le (hg b hb) hon.le,hi⟩
 ·rw[e2,e];exact h1.set i v
 ·rw[e1];cases hf:a.fault with
  | none=>rw[hf] at h2;exact h2
  | errno n=>rw[hf] at h2;exact h2
  | wrapped n=>
   rw[hf] at h2;obtain⟨b,at_,q1,q2,q3⟩:=h2;exact⟨b,at_,q1,q2,q3.setNe _ λe=>q2 (.inl (.inl e))⟩
 ·rw[e2];exact h3.only hon λx hx e=>h4 x hx (.inl (.inl e))
 ·subst x;exact⟨.inl rfl,ne.1,ne.2.1,ne.2.2⟩
theorem AAt.field (h:AAt w G pa pf bf be a f w' be')(i:Nat)(v:Value)(a':Ap)(e:∀vf vb,apCells a' pf vf vb=(apCells a pf vf vb).set i v)(e1:a'.fault=a.fault)(e2:a'.buf=a.buf)(hi:AInv a') :
  AAt w G pa pf bf be a' f (w'.setCell ⟨pa,i,none⟩ v) be':=⟨h.rep.field i v a' e e1 e2 hi,h.bq,h.on.set _ (.inl (.inl rfl))⟩
theorem ARep.only (h:ARep w G pa pf bf be a f){F:Nat->Prop}(hon:Only F w w')(hF:∀b,F b->b<w.heap.size->G b):ARep w' G pa pf bf be a f:=by
 obtain⟨⟨vf,A,c,h1,h2,h3,h4,h5,h6⟩,hfl,ne,ng,hg,hi⟩:=h;refine⟨⟨vf,A,c,h1.only hon λx=>ng.1 (hF _ x h1.lt),?_,h3.keep λx hx hlt=>hon.keep _ hlt λy=>h4 x hx (.inl (.inr (hF _ y hlt))),h4,λx hx=>Nat.lt_of_lt_of_le (h5 x hx) hon.le,h6⟩,hfl.only hon λb x hlt=>⟨.inr (hF b x hlt),λe=>ng.2.1 (e ▸ hF b x hlt),λe=>ng.2.2.1 (e ▸ hF b x hlt),λe=>ng.2.2.2 (e ▸ hF b x hlt)⟩,ne,ng,λb hb=>Nat.lt_of_lt_of_le (hg b hb) hon.le,hi⟩
 cases hf:a.fault with
 | none=>rw[hf] at h2;exact h2
 | errno n=>rw[hf] at h2;exact h2
 | wrapped n=>
  rw[hf] at h2;obtain⟨b,at_,q1,q2,q3⟩:=h2;exact⟨b,at_,q1,q2,q3.only hon λy=>q2 (.inl (.inr (hF _ y q3.lt)))⟩
theorem AAt.only (h:AAt w G pa pf bf be a f w' be')(k:Only (λ_=>False) w' w''):AAt w G pa pf bf be a f w'' be':=
 ⟨h.rep.only k λb x=>x.elim,h.bq,h.on.trans k λb _ x=>x.elim⟩
theorem AAt.alloc (h:AAt w G pa pf bf be a f w' be')(o:Obj):AAt w G pa pf bf be a f (w'.alloc o) be':=h.only ((Only.refl _ _).alloc o)
theorem AAt.drewN (h:AAt w G pa pf bf be a f w' be')(k:Nat):AAt w G pa pf bf be a f (w'.drewN k) be':=h.only ((Only.refl _ _).drewN k)
theorem AAt.drew (h:AAt w G pa pf bf be a f w' be'):AAt w G pa pf bf be a f w'.drew be':=h.only ((Only.refl _ _).drew)
theorem ARep.flash (h:ARep w G pa pf bf be a f)(k:FAt w (PX pa G) pf bf be f' w' be'):AAt w G pa pf bf be a f' w' be':=by
 obtain⟨⟨vf,A,c,h1,h2,h3,h4,h5,h6⟩,hfl,ne,ng,hg,hi⟩:=h;have hnew:∀b,b<w.heap.size->¬AF_ (PX pa G) pf bf be b->¬AF_ (PX pa G) pf bf be' b:=by
  intro b hb hn x;rcases x with x|x|x|x
  ·exact hn (.inl x)
  ·exact hn (.inr (.inl x))
  ·exact hn (.inr (.inr (.inl x)))
  ·rcases k.bq with y | y
   ·exact hn (.inr (.inr (.inr (x.trans y))))
   ·omega
 have hff:∀b,¬AF_ (PX pa G) pf bf be b->¬FF pf bf be b:=λb hn x=>hn (.inr x)
 have hbe:∀b,b<w.heap.size->b≠be->b≠be':=λb hb hn e=>by rcases k.bq with y | y;exact hn (e.trans y);omega
 refine⟨⟨⟨vf,A,c,h1.only k.on ?_,?_,h3.only k.on λx hx=>hff _ (h4 x hx),λx hx=>hnew _ (h5 x hx) (h4 x hx),λx hx=>Nat.lt_of_lt_of_le (h5 x hx) k.on.le,h6⟩,k.rep,⟨ne.1,ne.2.1,hbe _ h1.lt ne.2.2⟩,⟨ng.1,ng.2.1,ng.2.2.1,?_⟩,λb hb=>Nat.lt_of_lt_of_le (hg b hb) k.on.le,hi⟩,k.bq,k.on.mono λb _ x=>.inr x⟩
 ·rintro(x | x | x)
  ·exact ne.1 x
  ·exact ne.2.1 x
  ·exact ne.2.2 x
 ·cases hf:a.fault with
  | none=>rw[hf] at h2;exact h2
  | errno n=>rw[hf] at h2;exact h2
  | wrapped n=>
   rw[hf] at h2;obtain⟨b,at_,q1,q2,q3⟩:=h2;exact⟨b,at_,q1,hnew b q3.lt q2,q3.only k.on (hff b q2)⟩
 ·intro x;rcases k.bq with y|y
  ·exact ng.2.2.2 (y ▸ x)
  ·have:=hg _ x;omega
theorem AAt.flash (h:AAt w G pa pf bf be a f w' be')(k:FAt w' (PX pa G) pf bf be' f' w'' be''):AAt w G pa pf bf be a f' w'' be'':=h.then_ (h.rep.flash k)
end
theorem AAt.setSum {w w':World}{G:Nat->Prop}{pa pf bf be be':Nat}{a:Ap}{f:Fl}(h:AAt w G pa pf bf be a f w' be')(x:Nat)(hx:x<4294967296) :
  AAt w G pa pf bf be { a with sum:=x } f (w'.setCell ⟨pa,3,none⟩ (.int .u32 (x:Int))) be':=
 h.field 3 _ { a with sum:=x } (λ_ _=>rfl) rfl rfl { h.rep.inv with sum:=hx }
theorem AAt.setValue {w w':World}{G:Nat->Prop}{pa pf bf be be':Nat}{a:Ap}{f:Fl}(h:AAt w G pa pf bf be a f w' be')(x:Nat)(hx:x<4294967296) :
  AAt w G pa pf bf be { a with value:=x } f (w'.setCell ⟨pa,5,none⟩ (.int .u32 (x:Int))) be':=
 h.field 5 _ { a with value:=x } (λ_ _=>rfl) rfl rfl { h.rep.inv with value:=hx }
theorem AAt.setDigits {w w':World}{G:Nat->Prop}{pa pf bf be be':Nat}{a:Ap}{f:Fl}(h:AAt w G pa pf bf be a f w' be')(x:Int)(hx:-1<=x/\x<=4) :
  AAt w G pa pf bf be { a with digits:=x } f (w'.setCell ⟨pa,6,none⟩ (.int .i64 x)) be':=
 h.field 6 _ { a with digits:=x } (λ_ _=>rfl) rfl rfl { h.rep.inv with digits:=hx }
theorem AAt.setSize {w w':World}{G:Nat->Prop}{pa pf bf be be':Nat}{a:Ap}{f:Fl}(h:AAt w G pa pf bf be a f w' be')(x:Nat)(hx:x<=4096) :
  AAt w G pa pf bf be { a with size:=x } f (w'.setCell ⟨pa,7,none⟩ (.int .i64 (x:Int))) be':=
 h.field 7 _ { a with size:=x } (λ_ _=>rfl) rfl rfl { h.rep.inv with size:=hx }
theorem AAt.setLength {w w':World}{G:Nat->Prop}{pa pf bf be be':Nat}{a:Ap}{f:Fl}(h:AAt w G pa pf bf be a f w' be')(x:Nat)(hx:x<=4096) :
  AAt w G pa pf bf be { a with length:=x } f (w'.setCell ⟨pa,8,none⟩ (.int .i64 (x:Int))) be':=
 h.field 8 _ { a with length:=x } (λ_ _=>rfl) rfl rfl { h.rep.inv with length:=hx }
theorem AAt.setMade {w w':World}{G:Nat->Prop}{pa pf bf be be':Nat}{a:Ap}{f:Fl}(h:AAt w G pa pf bf be a f w' be')(x:Nat)(hx:x<=4096) :
  AAt w G pa pf bf be { a with made:=x } f (w'.setCell ⟨pa,9,none⟩ (.int .i64 (x:Int))) be':=
 h.field 9 _ { a with made:=x } (λ_ _=>rfl) rfl rfl { h.rep.inv with made:=hx }
theorem AAt.setCount {w w':World}{G:Nat->Prop}{pa pf bf be be':Nat}{a:Ap}{f:Fl}(h:AAt w G pa pf bf be a f w' be')(x:Nat)(hx:x<=4096) :
  AAt w G pa pf bf be { a with count:=x } f (w'.setCell ⟨pa,10,none⟩ (.int .i64 (x:Int))) be':=
 h.field 10 _ { a with count:=x } (λ_ _=>rfl) rfl rfl { h.rep.inv with count:=hx }
theorem AAt.setAt {w w':World}{G:Nat->Prop}{pa pf bf be be':Nat}{a:Ap}{f:Fl}(h:AAt w G pa pf bf be a f w' be')(x:Nat)(hx:x<=1000000000000) :
  AAt w G pa pf bf be { a with at_:=x } f (w'.setCell ⟨pa,2,none⟩ (.int .i64 (x:Int))) be':=
 h.field 2 _ { a with at_:=x } (λ_ _=>rfl) rfl rfl { h.rep.inv with at_:=hx }
theorem AAt.setOp {w w':World}{G:Nat->Prop}{pa pf bf be be':Nat}{a:Ap}{f:Fl}(h:AAt w G pa pf bf be a f w' be')(x:Nat)(hx:x<256) :
  AAt w G pa pf bf be { a with op:=x } f (w'.setCell ⟨pa,11,none⟩ (.int .u8 (x:Int))) be':=
 h.field 11 _ { a with op:=x } (λ_ _=>rfl) rfl rfl { h.rep.inv with op:=hx }
theorem AAt.setSt {w w':World}{G:Nat->Prop}{pa pf bf be be':Nat}{a:Ap}{f:Fl}(h:AAt w G pa pf bf be a f w' be')(x:St) :
  AAt w G pa pf bf be { a with st:=x } f (w'.setCell ⟨pa,1,none⟩ (stV x)) be':=
 h.field 1 _ { a with st:=x } (λ_ _=>rfl) rfl rfl { h.rep.inv with }
theorem AAt.setPage {w w':World}{G:Nat->Prop}{pa pf bf be be':Nat}{a:Ap}{f:Fl}(h:AAt w G pa pf bf be a f w' be')(j:Nat)(hj:j<64)(x:UInt8) :
  AAt w G pa pf bf be { a with page:=a.page.set j x } f (w'.setCell ⟨pa,12+j,none⟩ (.int .u8 (x.toNat:Int))) be':=by
 have hp:=h.rep.inv.page;refine h.field (12+j) _ { a with page:=a.page.set j x } (λvf vb=>?_) rfl rfl { h.rep.inv with page:=by simpa using hp };unfold apCells;rw[List.set_append_right _ _ (by simp)];simp only[List.length_cons,List.length_nil];rw[List.set_append_left _ _ (by simp;omega),show 12+j-(0+1+1+1+1+1+1+1+1+1+1+1+1)=j by omega,List.map_set];rfl
structure Facts (w:World) (pa pf:Nat) (a:Ap):Prop where
 c0:w.cell? ⟨pa,0,none⟩=some (.pointer (some ⟨pf,0,none⟩))
 c1:w.cell? ⟨pa,1,none⟩=some (stV a.st)
 c2:w.cell? ⟨pa,2,none⟩=some (.int .i64 (a.at_:Int))
 c3:w.cell? ⟨pa,3,none⟩=some (.int .u32 (a.sum:Int))
 c5:w.cell? ⟨pa,5,none⟩=some (.int .u32 (a.value:Int))
 c6:w.cell? ⟨pa,6,none⟩=some (.int .i64 a.digits)
 c7:w.cell? ⟨pa,7,none⟩=some (.int .i64 (a.size:Int))
 c8:w.cell? ⟨pa,8,none⟩=some (.int .i64 (a.length:Int))
 c9:w.cell? ⟨pa,9,none⟩=some (.int .i64 (a.made:Int))
 c10:w.cell? ⟨pa,10,none⟩=some (.int .i64 (a.count:Int))
 c11:w.cell? ⟨pa,11,none⟩=some (.int .u8 (a.op:Int))
 pg:∀j,j<64->w.cell? ⟨pa,12+j,none⟩=some (.int .u8 ((a.page.getD j 0).toNat:Int))
 fz:∀i,w.frozen? ⟨pa,i,none⟩=false
theorem ARep.facts {w:World}{G:Nat->Prop}{pa pf bf be:Nat}{a:Ap}{f:Fl}(h:ARep w G pa pf bf be a f):Facts w pa pf a:=by
 obtain⟨vf,A,c,h1,_⟩:=h.blk;refine⟨h1.cell rfl,h1.cell rfl,h1.cell rfl,h1.cell rfl,h1.cell rfl,h1.cell rfl,h1.cell rfl,h1.cell rfl,h1.cell rfl,h1.cell rfl,h1.cell rfl,λj hj=>h1.cell ?_,h1.free⟩;have hp:=h.inv.page;unfold apCells;rw[List.getElem?_append_right (by simp)];simp only[List.length_cons,List.length_nil];rw[List.getElem?_append_left (by simp;omega)];simp[enc,show 12+j-12=j by omega,show j<a.page.length by omega]
end Go.Proofs.YtkmgcggoemlaaaaGreatDoor
end
section
/- The applier's number and fixed. -/
set_option maxHeartbeats 2000000
set_option maxRecDepth 100000
namespace Go.Proofs.YtkmgcggoemlaaaaGreatDoor
open Go.RowKit Go.Fwm
def ATo (w:World)(G:Nat->Prop)(pa pf bf be:Nat)(a:Ap)(f:Fl)(w':World):Prop:=∃be',AAt w G pa pf bf be a f w' be'
theorem bytes_one (w:World)(b:UInt8):Bytes (w.alloc (.cells #[.int .u8 (b.toNat:Int)] 5)) (some ⟨w.heap.size,0,none⟩) [b]:=λk hk=>by
 have:k=0:=by simpa using hk
 subst this;exact⟨w.heap.size,0,rfl,by rw[World.cell_blk (heap_alloc_new w _)];rfl⟩
theorem numberA (w:World)(G:Nat->Prop)(pa pf bf be:Nat)(a:Ap)(f:Fl)(h:ARep w G pa pf bf be a f)(b:UInt8)(hd:a.digits=0)(hb:128<=b.toNat) :
  Calls Tryz.prog 58 #[.pointer (some ⟨pa,0,none⟩),.int .u8 (b.toNat:Int)] w λe w'=>e=.returned (.tuple #[.bool (a.number b).whole,errV (a.number b).err])/\ATo w G pa pf bf be (a.number b).a f w':=by
 have e1:a.number b = { whole:=false,err:=none,a:={ a.addSum b with digits:=1,value:=b.toNat &&& 127 } }:=by
  unfold Ap.number;simp only[hd];rw[if_pos (by exact⟨rfl,hb⟩)];rfl
 have hadd:=add_ok (w.alloc (.cells #[.int .u8 (b.toNat:Int)] 5)) a.sum h.inv.sum (some ⟨w.heap.size,0,none⟩) 1 1 [b] rfl (by simp[maxLen]) (bytes_one w b);have hF:=h.facts;have c3:=hF.c3;have c6:=hF.c6;rw[hd] at c6;have c5:=hF.c5;have z3:=hF.fz 3;have z5:=hF.fz 5;have z6:=hF.fz 6;have hx:=b.toNat_lt;have hlt:pa<w.heap.size:=block_lt_of_cell c3;have hne:¬pa=w.heap.size:=by omega
 obtain⟨B,hB⟩:∃B,b.toNat=B:=⟨_,rfl⟩;obtain⟨S,hS⟩:∃S,sumAdd a.sum [b]=S:=⟨_,rfl⟩;rw[hB] at hadd hb hx e1 ⊢;rw[hS] at hadd;have hand:bits .and .u8 (B:Int) 127=((B &&& 127:Nat):Int):=u8_and_nat B 127 hx (by omega);have HAND:=Lib.hid hand;have hi:=h.inv;have hbi:(128:Int)<=(B:Int):=by omega
 have hR:ATo w G pa pf bf be { a.addSum b with digits:=1,value:=B &&& 127 } f ((((w.setCell ⟨pa,3,none⟩ (.int .u32 (S:Int))).setCell ⟨pa,6,none⟩ (.int .i64 1)).setCell ⟨pa,5,none⟩ (.int .u32 (bits .and .u8 (B:Int) 127%4294967296))).alloc (.cells #[.int .u8 (B:Int)] 5)):=by
  have hS':S<4294967296:=by rw[←hS];exact sumAdd_lt _ _
  have hle:B &&& 127<=B:=Nat.and_le_left;have ev:bits .and .u8 (B:Int) 127%4294967296=((B &&& 127:Nat):Int):=by rw[hand];omega
  rw[ev];have e2:a.addSum b = { a with sum:=S }:=by rw[←hS];rfl
  rw[e2];exact⟨be,((((AAt.refl h).setSum S hS').setDigits 1 (by omega)).setValue (B &&& 127) (by omega)).alloc _⟩
 rw[e1];clear hF e1 h hi hd hB hS hand;go_enter Tryz.func58,Tryz.ntmps58
 go_wp2_with (go_at_call 50;refine hadd.mono ?_;rintro e w' ⟨rfl,rfl⟩)
 go_ret2
 exact⟨rfl,hR⟩
theorem numberB (w:World)(G:Nat->Prop)(pa pf bf be:Nat)(a:Ap)(f:Fl)(h:ARep w G pa pf bf be a f)(b:UInt8)(hd:a.digits=0)(hb:b.toNat<128) :
  Calls Tryz.prog 58 #[.pointer (some ⟨pa,0,none⟩),.int .u8 (b.toNat:Int)] w λe w'=>e=.returned (.tuple #[.bool (a.number b).whole,errV (a.number b).err])/\ATo w G pa pf bf be (a.number b).a f w':=by
 have e1:a.number b = { whole:=true,err:=none,a:={ a.addSum b with value:=b.toNat,digits:=0 } }:=by
  simp[Ap.number,hd,show ¬128<=b.toNat by omega,show ¬4096<b.toNat by omega,Ap.addSum]
 have hadd:=add_ok (w.alloc (.cells #[.int .u8 (b.toNat:Int)] 5)) a.sum h.inv.sum (some ⟨w.heap.size,0,none⟩) 1 1 [b] rfl (by simp[maxLen]) (bytes_one w b);have hF:=h.facts;have c3:=hF.c3;have c6:=hF.c6;rw[hd] at c6;have c5:=hF.c5;have z3:=hF.fz 3;have z5:=hF.fz 5;have z6:=hF.fz 6;have hx:=b.toNat_lt;have hlt:pa<w.heap.size:=block_lt_of_cell c3;have hne:¬pa=w.heap.size:=by omega
 obtain⟨B,hB⟩:∃B,b.toNat=B:=⟨_,rfl⟩;obtain⟨S,hS⟩:∃S,sumAdd a.sum [b]=S:=⟨_,rfl⟩;rw[hB] at hadd hb hx e1 ⊢;rw[hS] at hadd;have hi:=h.inv;have hS':S<4294967296:=by rw[←hS];exact sumAdd_lt _ _
 have HAT:=Lib.hid ((((((AAt.refl h).setSum S hS').setDigits 1 (by omega)).setValue 0 (by omega)).alloc (.cells #[.int .u8 (B:Int)] 5)).drew);have e2:a.addSum b = { a with sum:=S }:=by rw[←hS];rfl
 rw[e2] at e1;have hbi:((128:Int)<=(B:Int))=False:=by simp;omega
 have hbd:decide ((128:Int)<=(B:Int))=false:=by simp;omega
 rw[e1];clear hF e1 hi hd hB hS hbi;go_enter Tryz.func58,Tryz.ntmps58
 go_wp2_with (go_at_call 50;refine hadd.mono ?_;rintro e w' ⟨rfl,rfl⟩)
 refine wp_region_still_tail 16 (by kernel_rfl) (by kernel_rfl) ?_;change wpStill _ _ (World.drew _) _ _ _;generalize hw2:World.drew _=w2;have hat2:AAt w G pa pf bf be { a with sum:=S,digits:=1,value:=0 } f w2 be:=by rw[←hw2];exact HAT.out
 have hF2:=hat2.rep.facts;have d5:=hF2.c5;have d6:=hF2.c6;have y5:=hF2.fz 5;have y6:=hF2.fz 6;have HW:=Lib.hid hw2;clear hw2;have HA2:=Lib.hid hat2;clear hat2 hF2;simp only[List.take_succ_cons,List.take_zero,List.drop_succ_cons,List.drop_zero];have j0:IntKind.i64.wrap 0=0:=rfl;have j2:bits .or .u32 0 (B:Int)=(B:Int):=by
  have:=u32_or_nat 0 B (by omega) (by omega);rw[Nat.zero_or] at this;exact this
 have j1:IntKind.u32.wrap (B:Int)=(B:Int):=by rw[IntKind.wrap_u32'];omega
 repeat still_step
 clear j0 j1 j2;refine wpStill_nil ?_;change wpList _ _ _ _ _ (World.drew _);rw[HW.out];have hBi:¬((4096:Int)<(B:Int)):=by omega
 go_wp2
 all_goals
  go_ret2
  refine⟨rfl,be,?_⟩;exact(HA2.out.setValue B (by omega)).setDigits 0 (by omega)
theorem numberC0 (w:World)(G:Nat->Prop)(pa pf bf be:Nat)(a:Ap)(f:Fl)(h:ARep w G pa pf bf be a f)(b:UInt8)(hd:a.digits=1)(V:Nat)(hV:a.value ||| (b.toNat*128)=V)(hb:b.toNat=0) :
  Calls Tryz.prog 58 #[.pointer (some ⟨pa,0,none⟩),.int .u8 (b.toNat:Int)] w λe w'=>e=.returned (.tuple #[.bool (a.number b).whole,errV (a.number b).err])/\ATo w G pa pf bf be (a.number b).a f w':=by
 have e1:a.number b = { whole:=false,err:=some 2,a:={ a.addSum b with digits:=2,value:=V } }:=by
  simp[Ap.number,hd,Ap.addSum,←hV,hb]
 have hadd:=add_ok (w.alloc (.cells #[.int .u8 (b.toNat:Int)] 5)) a.sum h.inv.sum (some ⟨w.heap.size,0,none⟩) 1 1 [b] rfl (by simp[maxLen]) (bytes_one w b);have hF:=h.facts;have c3:=hF.c3;have c6:=hF.c6;rw[hd] at c6;have c5:=hF.c5;have z3:=hF.fz 3;have z5:=hF.fz 5;have z6:=hF.fz 6;have hx:=b.toNat_lt;have hlt:pa<w.heap.size:=block_lt_of_cell c3;have hne:¬pa=w.heap.size:=by omega
 obtain⟨B,hB⟩:∃B,b.toNat=B:=⟨_,rfl⟩;obtain⟨S,hS⟩:∃S,sumAdd a.sum [b]=S:=⟨_,rfl⟩;rw[hB] at hadd hb hx hV ⊢;rw[hS] at hadd;have hi:=h.inv;have hS':S<4294967296:=by rw[←hS];exact sumAdd_lt _ _
 have HAT:=Lib.hid (((((AAt.refl h).setSum S hS').setDigits 2 (by omega)).alloc (.cells #[.int .u8 (B:Int)] 5)).drew);have e2:a.addSum b = { a with sum:=S }:=by rw[←hS];rfl
 rw[e2] at e1;have hav:=hi.value;have hor:bits .or .u32 (a.value:Int) ((B:Int)*128)=(V:Int):=by
  have:=u32_or_nat a.value (B*128) hav (by omega);rw[hV] at this;rw[←this];congr 1
 have hVl:V<4294967296:=by rw[←hV];exact Nat.or_lt_two_pow (n:=32) (by omega) (by omega)
 have HOR:=Lib.hid hor;clear hor;rw[e1];have hB0:((B:Int) == 0)=true:=by rw[hb];rfl
 clear hF e1 hi hd hB hS hV hav hb;go_enter Tryz.func58,Tryz.ntmps58
 go_wp2_with (go_at_call 50;refine hadd.mono ?_;rintro e w' ⟨rfl,rfl⟩)
 refine wp_region_still_tail 16 (by kernel_rfl) (by kernel_rfl) ?_;change wpStill _ _ (World.drew _) _ _ _;generalize hw2:World.drew _=w2;have hat2:AAt w G pa pf bf be { a with sum:=S,digits:=2 } f w2 be:=by rw[←hw2];exact HAT.out
 have hF2:=hat2.rep.facts;have d5:=hF2.c5;have d6:=hF2.c6;have y5:=hF2.fz 5;have y6:=hF2.fz 6;have HW:=Lib.hid hw2;clear hw2;have HA2:=Lib.hid hat2;clear hat2 hF2;simp only[List.take_succ_cons,List.take_zero,List.drop_succ_cons,List.drop_zero];have j0:IntKind.i64.wrap 1=1:=rfl;have j3:IntKind.i64.wrap 7=7:=rfl;have j1:IntKind.u32.wrap (B:Int)=(B:Int):=by rw[IntKind.wrap_u32'];omega
 have j4:IntKind.u32.wrap ((B:Int)*128)=(B:Int)*128:=by rw[IntKind.wrap_u32'];omega
 have j2:=HOR.out;repeat still_step
 clear j0 j1 j2 j3 j4;refine wpStill_nil ?_;change wpList _ _ _ _ _ (World.drew _);rw[HW.out];go_wp2
 all_goals
  go_ret2
  refine⟨rfl,be,?_⟩;exact HA2.out.setValue V hVl
theorem numberCbig (w:World)(G:Nat->Prop)(pa pf bf be:Nat)(a:Ap)(f:Fl)(h:ARep w G pa pf bf be a f)(b:UInt8)(hd:a.digits=1)(V:Nat)(hV:a.value ||| (b.toNat*128)=V)(hb:b.toNat≠0/\4096<V) :
  Calls Tryz.prog 58 #[.pointer (some ⟨pa,0,none⟩),.int .u8 (b.toNat:Int)] w λe w'=>e=.returned (.tuple #[.bool (a.number b).whole,errV (a.number b).err])/\ATo w G pa pf bf be (a.number b).a f w':=by
 have e1:a.number b = { whole:=false,err:=some 2,a:={ a.addSum b with digits:=2,value:=V } }:=by
  simp[Ap.number,hd,Ap.addSum,hV,hb]
 have hadd:=add_ok (w.alloc (.cells #[.int .u8 (b.toNat:Int)] 5)) a.sum h.inv.sum (some ⟨w.heap.size,0,none⟩) 1 1 [b] rfl (by simp[maxLen]) (bytes_one w b);have hF:=h.facts;have c3:=hF.c3;have c6:=hF.c6;rw[hd] at c6;have c5:=hF.c5;have z3:=hF.fz 3;have z5:=hF.fz 5;have z6:=hF.fz 6;have hx:=b.toNat_lt;have hlt:pa<w.heap.size:=block_lt_of_cell c3;have hne:¬pa=w.heap.size:=by omega
 obtain⟨B,hB⟩:∃B,b.toNat=B:=⟨_,rfl⟩;obtain⟨S,hS⟩:∃S,sumAdd a.sum [b]=S:=⟨_,rfl⟩;rw[hB] at hadd hb hx hV ⊢;rw[hS] at hadd;have hi:=h.inv;have hS':S<4294967296:=by rw[←hS];exact sumAdd_lt _ _
 have HAT:=Lib.hid (((((AAt.refl h).setSum S hS').setDigits 2 (by omega)).alloc (.cells #[.int .u8 (B:Int)] 5)).drew);have e2:a.addSum b = { a with sum:=S }:=by rw[←hS];rfl
 rw[e2] at e1;have hav:=hi.value;have hor:bits .or .u32 (a.value:Int) ((B:Int)*128)=(V:Int):=by
  have:=u32_or_nat a.value (B*128) hav (by omega);rw[hV] at this;rw[←this];congr 1
 have hVl:V<4294967296:=by rw[←hV];exact Nat.or_lt_two_pow (n:=32) (by omega) (by omega)
 have HOR:=Lib.hid hor;clear hor;rw[e1];obtain⟨hb,hVb⟩:=hb;have hB0:((B:Int) == 0)=false:=by simp;exact hb
 clear hF e1 hi hd hB hS hV hav;go_enter Tryz.func58,Tryz.ntmps58
 go_wp2_with (go_at_call 50;refine hadd.mono ?_;rintro e w' ⟨rfl,rfl⟩)
 refine wp_region_still_tail 16 (by kernel_rfl) (by kernel_rfl) ?_;change wpStill _ _ (World.drew _) _ _ _;generalize hw2:World.drew _=w2;have hat2:AAt w G pa pf bf be { a with sum:=S,digits:=2 } f w2 be:=by rw[←hw2];exact HAT.out
 have hF2:=hat2.rep.facts;have d5:=hF2.c5;have d6:=hF2.c6;have y5:=hF2.fz 5;have y6:=hF2.fz 6;have HW:=Lib.hid hw2;clear hw2;have HA2:=Lib.hid hat2;clear hat2 hF2;simp only[List.take_succ_cons,List.take_zero,List.drop_succ_cons,List.drop_zero];have j0:IntKind.i64.wrap 1=1:=rfl;have j3:IntKind.i64.wrap 7=7:=rfl;have j1:IntKind.u32.wrap (B:Int)=(B:Int):=by rw[IntKind.wrap_u32'];omega
 have j4:IntKind.u32.wrap ((B:Int)*128)=(B:Int)*128:=by rw[IntKind.wrap_u32'];omega
 have j2:=HOR.out;repeat still_step
 clear j0 j1 j2 j3 j4;refine wpStill_nil ?_;change wpList _ _ _ _ _ (World.drew _);rw[HW.out];have hVi:(4096:Int)<(V:Int):=by omega
 go_wp2
 all_goals
  go_ret2
  refine⟨rfl,be,?_⟩;exact HA2.out.setValue V hVl
theorem numberCok (w:World)(G:Nat->Prop)(pa pf bf be:Nat)(a:Ap)(f:Fl)(h:ARep w G pa pf bf be a f)(b:UInt8)(hd:a.digits=1)(V:Nat)(hV:a.value ||| (b.toNat*128)=V)(hb:b.toNat≠0/\¬4096<V) :
  Calls Tryz.prog 58 #[.pointer (some ⟨pa,0,none⟩),.int .u8 (b.toNat:Int)] w λe w'=>e=.returned (.tuple #[.bool (a.number b).whole,errV (a.number b).err])/\ATo w G pa pf bf be (a.number b).a f w':=by
 have e1:a.number b = { whole:=true,err:=none,a:={ a.addSum b with value:=V,digits:=0 } }:=by
  simp[Ap.number,hd,Ap.addSum,hV,hb]
 have hadd:=add_ok (w.alloc (.cells #[.int .u8 (b.toNat:Int)] 5)) a.sum h.inv.sum (some ⟨w.heap.size,0,none⟩) 1 1 [b] rfl (by simp[maxLen]) (bytes_one w b);have hF:=h.facts;have c3:=hF.c3;have c6:=hF.c6;rw[hd] at c6;have c5:=hF.c5;have z3:=hF.fz 3;have z5:=hF.fz 5;have z6:=hF.fz 6;have hx:=b.toNat_lt;have hlt:pa<w.heap.size:=block_lt_of_cell c3;have hne:¬pa=w.heap.size:=by omega
 obtain⟨B,hB⟩:∃B,b.toNat=B:=⟨_,rfl⟩;obtain⟨S,hS⟩:∃S,sumAdd a.sum [b]=S:=⟨_,rfl⟩;rw[hB] at hadd hb hx hV ⊢;rw[hS] at hadd;have hi:=h.inv;have hS':S<4294967296:=by rw[←hS];exact sumAdd_lt _ _
 have HAT:=Lib.hid (((((AAt.refl h).setSum S hS').setDigits 2 (by omega)).alloc (.cells #[.int .u8 (B:Int)] 5)).drew);have e2:a.addSum b = { a with sum:=S }:=by rw[←hS];rfl
 rw[e2] at e1;have hav:=hi.value;have hor:bits .or .u32 (a.value:Int) ((B:Int)*128)=(V:Int):=by
  have:=u32_or_nat a.value (B*128) hav (by omega);rw[hV] at this;rw[←this];congr 1
 have hVl:V<4294967296:=by rw[←hV];exact Nat.or_lt_two_pow (n:=32) (by omega) (by omega)
 have HOR:=Lib.hid hor;clear hor;rw[e1];obtain⟨hb,hVb⟩:=hb;have hB0:((B:Int) == 0)=false:=by simp;exact hb
 clear hF e1 hi hd hB hS hV hav;go_enter Tryz.func58,Tryz.ntmps58
 go_wp2_with (go_at_call 50;refine hadd.mono ?_;rintro e w' ⟨rfl,rfl⟩)
 refine wp_region_still_tail 16 (by kernel_rfl) (by kernel_rfl) ?_;change wpStill _ _ (World.drew _) _ _ _;generalize hw2:World.drew _=w2;have hat2:AAt w G pa pf bf be { a with sum:=S,digits:=2 } f w2 be:=by rw[←hw2];exact HAT.out
 have hF2:=hat2.rep.facts;have d5:=hF2.c5;have d6:=hF2.c6;have y5:=hF2.fz 5;have y6:=hF2.fz 6;have HW:=Lib.hid hw2;clear hw2;have HA2:=Lib.hid hat2;clear hat2 hF2;simp only[List.take_succ_cons,List.take_zero,List.drop_succ_cons,List.drop_zero];have j0:IntKind.i64.wrap 1=1:=rfl;have j3:IntKind.i64.wrap 7=7:=rfl;have j1:IntKind.u32.wrap (B:Int)=(B:Int):=by rw[IntKind.wrap_u32'];omega
 have j4:IntKind.u32.wrap ((B:Int)*128)=(B:Int)*128:=by rw[IntKind.wrap_u32'];omega
 have j2:=HOR.out;repeat still_step
 clear j0 j1 j2 j3 j4;refine wpStill_nil ?_;change wpList _ _ _ _ _ (World.drew _);rw[HW.out];have hVi:¬((4096:Int)<(V:Int)):=by omega
 go_wp2
 all_goals
  go_ret2
  refine⟨rfl,be,?_⟩;exact(HA2.out.setValue V hVl).setDigits 0 (by omega)
theorem number_ok (w:World)(G:Nat->Prop)(pa pf bf be:Nat)(a:Ap)(f:Fl)(h:ARep w G pa pf bf be a f)(b:UInt8)(hd:a.digits=0\/a.digits=1) :
  Calls Tryz.prog 58 #[.pointer (some ⟨pa,0,none⟩),.int .u8 (b.toNat:Int)] w λe w'=>e=.returned (.tuple #[.bool (a.number b).whole,errV (a.number b).err])/\ATo w G pa pf bf be (a.number b).a f w':=by
 rcases hd with hd|hd
 ·by_cases hb:128<=b.toNat
  ·exact numberA w G pa pf bf be a f h b hd hb
  ·exact numberB w G pa pf bf be a f h b hd (by omega)
 ·by_cases hb:b.toNat=0
  ·exact numberC0 w G pa pf bf be a f h b hd _ rfl hb
  ·by_cases hv:4096<a.value ||| (b.toNat*128)
   ·exact numberCbig w G pa pf bf be a f h b hd _ rfl ⟨hb,hv⟩
   ·exact numberCok w G pa pf bf be a f h b hd _ rfl ⟨hb,hv⟩
end Go.Proofs.YtkmgcggoemlaaaaGreatDoor
end
section
/- The applier's fixed; write, put, flush, more, read. -/
set_option maxHeartbeats 2000000
namespace Go.Proofs.YtkmgcggoemlaaaaGreatDoor
open Go.RowKit Go.Fwm
theorem fixed_ok (w:World)(G:Nat->Prop)(pa pf bf be:Nat)(a:Ap)(f:Fl)(h:ARep w G pa pf bf be a f)(b:UInt8)(hd:0<=a.digits/\a.digits<=3) :
  Calls Tryz.prog 68 #[.pointer (some ⟨pa,0,none⟩),.int .u8 (b.toNat:Int)] w λe w'=>e=.returned (.bool (a.fixed b).whole)/\ATo w G pa pf bf be (a.fixed b).a f w':=by
 obtain⟨V,hV⟩:∃V,(a.value*256)%4294967296 ||| b.toNat=V:=⟨_,rfl⟩;have hF:=h.facts;have c6:=hF.c6;have c5:=hF.c5;have z5:=hF.fz 5;have z6:=hF.fz 6;have hx:=b.toNat_lt;have hi:=h.inv;have hav:=hi.value;have hdg:=hi.digits;obtain⟨B,hB⟩:∃B,b.toNat=B:=⟨_,rfl⟩;have hVl:V<4294967296:=by rw[←hV];exact Nat.or_lt_two_pow (n:=32) (by omega) (by omega)
 have hor:bits .or .u32 ((a.value:Int)*256%4294967296) ((B:Int)%4294967296)=(V:Int):=by
  have:=u32_or_nat ((a.value*256)%4294967296) B (by omega) (by omega);rw[hB] at hV;rw[hV] at this;rw[←this];congr 1<;>omega
 by_cases hlt:a.digits+1<4
 ·have e1:a.fixed b = { whole:=false,a:={ a with value:=V,digits:=a.digits+1 } }:=by unfold Ap.fixed;simp only[hV];rw[if_pos hlt]
  have hAT:=((AAt.refl h).setValue V hVl).setDigits (a.digits+1) (by omega);rw[e1,hB];have HOR:=Lib.hid hor;clear hor;have HAT:=Lib.hid hAT;clear hAT;clear hF e1 hi hB hV h;go_enter Tryz.func68,Tryz.ntmps68
  go_wp2
  rw[HOR.out];go_ret
  exact⟨rfl,be,HAT.out⟩
 ·have e1:a.fixed b = { whole:=true,a:={ a with value:=V,digits:=0 } }:=by unfold Ap.fixed;simp only[hV];rw[if_neg hlt]
  have hAT:=(((AAt.refl h).setValue V hVl).setDigits (a.digits+1) (by omega));rw[e1,hB];have HOR:=Lib.hid hor;clear hor;have HAT:=Lib.hid hAT;clear hAT;clear hF e1 hi hB hV h;go_enter Tryz.func68,Tryz.ntmps68
  go_wp2
  rw[HOR.out];go_ret
  exact⟨rfl,be,HAT.out.setDigits 0 (by omega)⟩
theorem AAt.zeros {w:World}{G:Nat->Prop}{pa pf bf be be':Nat}{a:Ap}{f:Fl}:∀(n j:Nat) (w':World) (p:List UInt8),j+n=64->AAt w G pa pf bf be { a with page:=p } f w' be'->
  AAt w G pa pf bf be { a with page:=p.take j++List.replicate n 0 } f (w'.setCells pa (12+j) (List.replicate n (.int .u8 0))) be'
 | 0,j,w',p,hj,h=>by
  have hp:p.length=64:=h.rep.inv.page;have e:p.take j++List.replicate 0 0=p:=by rw[List.replicate_zero,List.append_nil,List.take_of_length_le (by omega)]
  rw[e];exact h
 | n+1,j,w',p,hj,h=>by
  have hp:p.length=64:=h.rep.inv.page;have h1:=h.setPage j (by omega) 0;have h2:=AAt.zeros (a:=a) n (j+1) _ (p.set j 0) (by omega) h1;have e:(p.set j 0).take (j+1)++List.replicate n 0=p.take j++List.replicate (n+1) 0:=by
   have e1:(p.set j 0)[j]'(by simp;omega)=0:=by simp
   have e2:(p.set j 0).take j=p.take j:=by
    apply List.ext_getElem?;intro i;rw[List.getElem?_take,List.getElem?_take];by_cases hi:i<j
    ·rw[if_pos hi,if_pos hi,List.getElem?_set_ne (by omega)]
    ·rw[if_neg hi,if_neg hi]
   rw[List.take_succ_eq_append_getElem (by simp;omega),e1,e2,List.replicate_succ,List.append_assoc];rfl
  rw[e] at h2;exact h2
theorem AAt.clear {w w':World}{G:Nat->Prop}{pa pf bf be be':Nat}{a:Ap}{f:Fl}(h:AAt w G pa pf bf be a f w' be') :
  AAt w G pa pf bf be { a with page:=List.replicate 64 0 } f (w'.setCells pa 12 (List.replicate 64 (.int .u8 0))) be':=by
 have:=AAt.zeros (a:=a) 64 0 w' a.page rfl h;simpa using this
theorem zero5:∀w:World,(zeroValue 5).run Tryz.prog w=.ok (.int .u8 0) w:=by intro w;kernel_rfl
theorem Facts.clear {w:World}{pa pf:Nat}{a:Ap}(h:Facts w pa pf a)(ty:TypeId) :
  (Builtin.clear_ #[22] ty #[.slice (some ⟨pa,12,none⟩) 64 64]).run Tryz.prog w=.ok (.tuple #[]) (w.setCells pa 12 (List.replicate 64 (.int .u8 0))):=
 Lib.run_clear_slice w 22 5 ty (.int .u8 0) Tryz.underlying22 zero5 rfl rfl pa 12 64 64 (by omega) (λj hj=>by rw[h.pg j hj];rfl) λj hj=>h.fz _
end Go.Proofs.YtkmgcggoemlaaaaGreatDoor
end
section
/- The applier's write. -/
set_option maxHeartbeats 4000000
set_option maxRecDepth 100000
namespace Go.Proofs.YtkmgcggoemlaaaaGreatDoor
open Go.RowKit Go.Fwm
theorem Facts.bytes {w:World}{pa pf:Nat}{a:Ap}(h:Facts w pa pf a)(hp:a.page.length=64)(n:Nat):Bytes w (some ⟨pa,12,none⟩) (a.page.take n):=by
 intro k hk;simp only[List.length_take] at hk;refine⟨pa,12,rfl,?_⟩;rw[h.pg k (by omega)];simp[show k<a.page.length by omega]
def WTo (w:World)(G:Nat->Prop)(pa pf bf be:Nat)(r:AR)(e:Ending)(w':World):Prop:=e=.returned (errV r.err)/\ATo w G pa pf bf be r.a r.f w'
theorem write_bad (w:World)(G:Nat->Prop)(pa pf bf be:Nat)(a:Ap)(f:Fl)(h:ARep w G pa pf bf be a f)(p n:Nat)(hn:n<=64)(he:f.events.length<1000000000)(x:Nat)(hx:(f.erase p).err=some x) :
  Calls Tryz.prog 99 #[.pointer (some ⟨pa,0,none⟩),.int .i64 (p:Int),.int .i64 (n:Int)] w (WTo w G pa pf bf be (a.write f p n)):=by
 have e1:a.write f p n = { err:=some x,a,f:=(f.erase p).f }:=by unfold Ap.write;simp only[hx]
 have c0:=h.facts.c0;have her:=erase_ok w (PX pa G) pf bf be f h.fl p he;rw[hx] at her;have HH:=Lib.hid h;rw[e1];clear e1 h hx;go_enter Tryz.func99,Tryz.ntmps99
 go_wp2_with (go_at_call 109;refine her.mono ?_;rintro e w1 ⟨rfl,hto⟩;unfold errV)
 go_ret
 obtain⟨be1,hat⟩:=FAt.of hto;exact⟨rfl,be1,HH.out.flash hat⟩
theorem write_good (w:World)(G:Nat->Prop)(pa pf bf be:Nat)(a:Ap)(f:Fl)(h:ARep w G pa pf bf be a f)(p n:Nat)(hn:n<=64)(he:f.events.length<999999999)(hx:(f.erase p).err=none) :
  Calls Tryz.prog 99 #[.pointer (some ⟨pa,0,none⟩),.int .i64 (p:Int),.int .i64 (n:Int)] w (WTo w G pa pf bf be (a.write f p n)):=by
 obtain⟨q,hq⟩:∃q,(f.erase p).f.program p (a.page.take n)=q:=⟨_,rfl⟩;have e1:a.write f p n = { err:=q.err,a:={ a with page:=List.replicate 64 0 },f:=q.f }:=by unfold Ap.write;simp only[hx,hq]
 have c0:=h.facts.c0;have her:=erase_ok w (PX pa G) pf bf be f h.fl p (by omega);rw[hx] at her;have hev:(f.erase p).f.events.length<=f.events.length+1:=by
  unfold Fl.erase Fl.cut;split
  ·simp;split<;>simp
  ·simp
 have hlen:(a.page.take n).length=n:=by have:=h.inv.page;simp;omega
 have HH:=Lib.hid h;have HL:=Lib.hid hlen;clear hlen;have HQ:=Lib.hid hq;clear hq;have HE:=Lib.hid (show (f.erase p).f.events.length<1000000000 by omega);clear hev;rw[e1];clear e1 h hx;go_enter Tryz.func99,Tryz.ntmps99
 go_wp2_with (go_at_call 109;refine her.mono ?_;rintro e w1 ⟨rfl,hto⟩;unfold errV;obtain⟨be1,hat⟩:=FAt.of hto;have hA:=HH.out.flash hat;have HA:=Lib.hid hA;have d0:=hA.rep.facts.c0;clear hto hat hA)
 refine wp_region_still_tail 10 (by kernel_rfl) (by kernel_rfl) ?_;change wpStill _ _ (World.drew _) _ _ _;generalize hw2:World.drew _=w2;have hat2:AAt w G pa pf bf be a (f.erase p).f w2 be1:=by rw[←hw2];exact HA.out.drew
 have hF2:=hat2.rep.facts;have y0:=hF2.c0;have HW:=Lib.hid hw2;clear hw2;have HA2:=Lib.hid hat2;have hpr:=program_ok w2 (PX pa G) pf bf be1 (f.erase p).f hat2.rep.fl p (some ⟨pa,12,none⟩) 64 (a.page.take n) (by rw[HL.out];exact hn) (hF2.bytes hat2.rep.inv.page n) (by intro x hx;cases hx;rintro(e | e | e);exact hat2.rep.ne.1 e;exact hat2.rep.ne.2.1 e;exact hat2.rep.ne.2.2 e) HE.out;rw[HL.out,HQ.out] at hpr;have HPR:=Lib.hid hpr;clear hpr hat2 hF2;simp only[List.take_succ_cons,List.take_zero,List.drop_succ_cons,List.drop_zero];have i1:(n:Int)<=64:=by omega
 repeat still_step
 refine wpStill_nil ?_;change wpList _ _ _ _ _ (World.drew _);rw[HW.out];go_wp2_with (go_at_call 110;refine HPR.out.mono ?_;rintro e w3 ⟨rfl,hto⟩;obtain⟨be3,hat⟩:=FAt.of hto;have hA:=HA2.out.flash hat;have HA3:=Lib.hid hA;have hclr:=(λty=>hA.rep.facts.clear ty);clear hto hat hA)
 go_ret
 exact⟨rfl,be3,HA3.out.clear⟩
theorem write_ok (w:World)(G:Nat->Prop)(pa pf bf be:Nat)(a:Ap)(f:Fl)(h:ARep w G pa pf bf be a f)(p n:Nat)(hn:n<=64)(he:f.events.length<999999999) :
  Calls Tryz.prog 99 #[.pointer (some ⟨pa,0,none⟩),.int .i64 (p:Int),.int .i64 (n:Int)] w (WTo w G pa pf bf be (a.write f p n)):=by
 cases hx:(f.erase p).err with
 | none=>exact write_good w G pa pf bf be a f h p n hn he hx
 | some x=>exact write_bad w G pa pf bf be a f h p n hn (by omega) x hx
end Go.Proofs.YtkmgcggoemlaaaaGreatDoor
end
