/-
  Part 16 of the common ground of this seat: what single parts show stands ahead of each.
  No condition.
-/
import Derived.Test.YtkmgcggoemlaaaaGreatDoorJ15
import Derived.Test.YtkmgcggoemlaaaaGreatDoorJ10
import Derived.Test.YtkmgcggoemlaaaaGreatDoorJ11
import Derived.WalkSpells
import Derived.Deep.RegionHeld3
import Derived.Deep.DrawnRows
set_option linter.unusedSimpArgs false
set_option linter.unusedVariables false
set_option linter.constructorNameAsVariable false
section
/- api.Tell; a fault is laid in the applier; New, Held. -/
set_option maxHeartbeats 4000000
namespace Go.Proofs.YtkmgcggoemlaaaaGreatDoor
open Go.RowKit Go.Fwm
theorem GV.alloc {w:World}(h:GV w)(o:Obj):GV (w.alloc o):=(World.cell?_alloc_lt _ _ ⟨0,0,none⟩ h.lt).trans h
theorem GV.keep {w w':World}(h:GV w)(e:w'.heap[0]? = w.heap[0]?):GV w':=(World.cell?_of_block (a:=⟨0,0,none⟩) e).trans h
theorem GV.only {w w':World}{F:Nat->Prop}(h:GV w)(k:Only F w w')(hn:¬F 0):GV w':=h.keep (k.keep 0 h.lt hn)
theorem GV.below {w w':World}(h:GV w)(k:Below w.heap.size w w'):GV w':=h.keep (k.block 0 h.lt)
theorem tell_nil (w:World):Calls Tryz.prog 16 #[.nilIface] w λe w'=>e=.returned (.int .i64 0)/\Below w.heap.size w w':=by
 have hb:Below w.heap.size w (w.alloc (.cells #[.int .i64 0] 30)):=(Below.refl _ w).alloc (Nat.le_refl _) _;have HB:=Lib.hid hb;clear hb;go_enter Tryz.func16,Tryz.ntmps16
 go_wp2
 go_ret
 exact⟨rfl,HB.out⟩
theorem tell_errno (w:World)(hg:GV w)(n:Int):Calls Tryz.prog 16 #[.iface 30 (.int .i64 n)] w λe w'=>e=.returned (.int .i64 n)/\Below w.heap.size w w':=by
 have has:=as_errno n ⟨w.heap.size,0,none⟩ (.int .i64 0) (w.alloc (.cells #[.int .i64 0] 30)) (hg.alloc _) (by simp) (by simp);have hb:∀w',w'=(((((w.alloc (.cells #[.int .i64 0] 30)).alloc (.cells #[.pointer (some ⟨w.heap.size,0,none⟩)] 72)).alloc (.cells #[.pointer (some ⟨2,72,none⟩),.pointer (some ⟨(w.alloc (.cells #[.int .i64 0] 30)).heap.size,0,none⟩),.int .u64 150] 109)).alloc (.cells #[.pointer (some ⟨2,72,none⟩),.pointer (some ⟨(w.alloc (.cells #[.int .i64 0] 30)).heap.size,0,none⟩),.int .u64 150] 109)).alloc (.cells #[.int .i64 n] 30)).setCell ⟨w.heap.size,0,none⟩ (.int .i64 n)->Below w.heap.size w w'/\w'.cell? ⟨w.heap.size,0,none⟩=some (.int .i64 n):=by
  rintro w' rfl;refine⟨((((((Below.refl _ w).alloc (Nat.le_refl _) _).alloc (by simp) _).alloc (by simp;omega) _).alloc (by simp;omega) _).alloc (by simp;omega) _).setCell (p:=⟨w.heap.size,0,none⟩) (Nat.le_refl _) _,?_⟩;rw[World.cell?_setCell_same']
  ·rw[World.cell?_alloc_lt _ _ ⟨w.heap.size,0,none⟩ (by simp;omega),World.cell?_alloc_lt _ _ ⟨w.heap.size,0,none⟩ (by simp;omega),World.cell?_alloc_lt _ _ ⟨w.heap.size,0,none⟩ (by simp;omega),World.cell?_alloc_lt _ _ ⟨w.heap.size,0,none⟩ (by simp)];simp
 have HAS:=Lib.hid has;clear has;have HB:=Lib.hid hb;clear hb;go_enter Tryz.func16,Tryz.ntmps16
 go_wp2_with (go_at_call 35;refine HAS.out.mono ?_;rintro e w1 ⟨rfl,hw1⟩;obtain⟨hbl,hc⟩:=HB.out w1 hw1;have HBL:=Lib.hid hbl;clear hw1 hbl)
 go_ret
 exact⟨rfl,HBL.out⟩
theorem tell_fault (w:World)(hg:GV w)(fb:Nat)(n:Int)(hfb:w.cell? ⟨fb,1,none⟩=some (.int .i64 n)):Calls Tryz.prog 16 #[.iface 96 (.pointer (some ⟨fb,0,none⟩))] w λe w'=>e=.returned (.int .i64 n)/\Below w.heap.size w w':=by
 have has:=as_fault fb n ⟨w.heap.size,0,none⟩ (.int .i64 0) (w.alloc (.cells #[.int .i64 0] 30)) (hg.alloc _) (by simp) (by simp) ((World.cell?_alloc_lt _ _ ⟨fb,1,none⟩ (block_lt_of_cell hfb)).trans hfb);have hb:∀w',w'=(((((w.alloc (.cells #[.int .i64 0] 30)).alloc (.cells #[.pointer (some ⟨w.heap.size,0,none⟩)] 72)).alloc (.cells #[.pointer (some ⟨2,72,none⟩),.pointer (some ⟨(w.alloc (.cells #[.int .i64 0] 30)).heap.size,0,none⟩),.int .u64 150] 109)).alloc (.cells #[.pointer (some ⟨2,72,none⟩),.pointer (some ⟨(w.alloc (.cells #[.int .i64 0] 30)).heap.size,0,none⟩),.int .u64 150] 109)).alloc (.cells #[.int .i64 n] 30)).setCell ⟨w.heap.size,0,none⟩ (.int .i64 n)->Below w.heap.size w w'/\w'.cell? ⟨w.heap.size,0,none⟩=some (.int .i64 n):=by
  rintro w' rfl;refine⟨((((((Below.refl _ w).alloc (Nat.le_refl _) _).alloc (by simp) _).alloc (by simp;omega) _).alloc (by simp;omega) _).alloc (by simp;omega) _).setCell (p:=⟨w.heap.size,0,none⟩) (Nat.le_refl _) _,?_⟩;rw[World.cell?_setCell_same']
  ·rw[World.cell?_alloc_lt _ _ ⟨w.heap.size,0,none⟩ (by simp;omega),World.cell?_alloc_lt _ _ ⟨w.heap.size,0,none⟩ (by simp;omega),World.cell?_alloc_lt _ _ ⟨w.heap.size,0,none⟩ (by simp;omega),World.cell?_alloc_lt _ _ ⟨w.heap.size,0,none⟩ (by simp)];simp
 have HAS:=Lib.hid has;clear has;have HB:=Lib.hid hb;clear hb;go_enter Tryz.func16,Tryz.ntmps16
 go_wp2_with (go_at_call 35;refine HAS.out.mono ?_;rintro e w1 ⟨rfl,hw1⟩;obtain⟨hbl,hc⟩:=HB.out w1 hw1;have HBL:=Lib.hid hbl;clear hw1 hbl)
 go_ret
 exact⟨rfl,HBL.out⟩
theorem tell_ok (w:World)(hg:GV w)(F:Nat->Prop)(v:Value)(x:Flt)(h:FltV w F v x):Calls Tryz.prog 16 #[v] w λe w'=>e=.returned (.int .i64 (x.num:Int))/\Below w.heap.size w w':=by
 cases x with
 | none=>obtain rfl:v=_:=h;exact tell_nil w
 | errno n=>obtain rfl:v=_:=h;exact tell_errno w hg n
 | wrapped n=>
  obtain⟨b,at_,rfl,_,h3⟩:=h;exact tell_fault w hg b n (h3.cell rfl)
theorem AAt.setFault {w w':World}{G:Nat->Prop}{pa pf bf be be':Nat}{a:Ap}{f:Fl}(h:AAt w G pa pf bf be a f w' be')(v:Value)(x:Flt)(hv:FltV w' (AF_ (PX pa G) pf bf be') v x) :
  AAt w G pa pf bf be { a with fault:=x } f (w'.setCell ⟨pa,4,none⟩ v) be':=by
 obtain⟨⟨⟨vf,A0,c0,h1,h2,h3,h4,h5,h6⟩,hfl,ne,ng,hg,hi⟩,hbq,hon⟩:=h;have ho:Only (λb=>b=pa) w' (w'.setCell ⟨pa,4,none⟩ v):=(Only.refl _ _).set _ (.inl rfl);refine⟨⟨⟨v,A0,c0,h1.set 4 v,?_,h3.only ho λx hx e=>h4 x hx (.inl (.inl e)),h4,λx hx=>Nat.lt_of_lt_of_le (h5 x hx) ho.le,h6⟩,hfl.only ho λb x _=>?_,ne,ng,λb hb=>Nat.lt_of_lt_of_le (hg b hb) ho.le,{ hi with }⟩,hbq,hon.set _ (.inl (.inl rfl))⟩
 ·cases x with
  | none=>exact hv
  | errno n=>exact hv
  | wrapped n=>
   obtain⟨b,at_,q1,q2,q3⟩:=hv;exact⟨b,at_,q1,q2,q3.setNe _ λe=>q2 (.inl (.inl e))⟩
 ·subst x;exact⟨.inl rfl,ne.1,ne.2.1,ne.2.2⟩
theorem AAt.below {w w' w'':World}{G:Nat->Prop}{pa pf bf be be':Nat}{a:Ap}{f:Fl}(h:AAt w G pa pf bf be a f w' be')(k:Below w'.heap.size w' w''):AAt w G pa pf bf be a f w'' be':=
 h.only ⟨k.size,λb hb _=>k.block b hb⟩
theorem AAt.lt {w w':World}{G:Nat->Prop}{pa pf bf be be':Nat}{a:Ap}{f:Fl}(h:AAt w G pa pf bf be a f w' be')(b:Nat)(hb:AF_ (PX pa G) pf bf be' b):b<w'.heap.size:=by
 obtain⟨vf,A,c,h1,_⟩:=h.rep.blk;rcases hb with(rfl|hb)|rfl|rfl|rfl
 ·exact h1.lt
 ·exact h.rep.glt b hb
 ·obtain⟨_,_,_,_,g1,_⟩:=h.rep.fl.blk;exact g1.lt
 ·exact h.rep.fl.fresh.lt
 ·exact h.rep.fl.belt
theorem FRep.wider {w:World}{X X':Nat->Prop}{pf bf be:Nat}{f:Fl}(h:FRep w X pf bf be f)(hX:∀b,b<w.heap.size->X' b->X b):FRep w X' pf bf be f:=by
 obtain⟨⟨ao,co,cf,ve,h1,h2,h3,h4,h5,h6⟩,rest⟩:=h;refine⟨⟨ao,co,cf,ve,h1,h2,λa ha x=>?_,h4,h5,h6⟩,by assumption,by assumption,by assumption,by assumption,by assumption,by assumption,by assumption,by assumption,by assumption,by assumption,by assumption,by assumption⟩;rcases x with x|x
 ·exact h3 a ha (.inl (hX _ (h4 a ha) x))
 ·exact h3 a ha (.inr x)
theorem new_ok (w:World)(G:Nat->Prop)(pf bf be:Nat)(f:Fl)(h:FRep w G pf bf be f)(hG:∀b,G b->b<w.heap.size)(hng:¬G pf/\¬G bf/\¬G be) :
  Calls Tryz.prog 31 #[.pointer (some ⟨pf,0,none⟩)] w λe w'=>e=.returned (.pointer (some ⟨w.heap.size,0,none⟩))/\ARep w' G w.heap.size pf bf be Ap.init f/\Below w.heap.size w w':=by
 have hb:Below w.heap.size w (w.alloc (.cells (apCells Ap.init pf .nilIface (.slice none 0 0)).toArray 93)):=(Below.refl _ w).alloc (Nat.le_refl _) _;obtain⟨_,_,_,_,g1,_⟩:=h.blk;have l1:=g1.lt;have l2:=h.fresh.lt;have l3:=h.belt;have hr:ARep (w.alloc (.cells (apCells Ap.init pf .nilIface (.slice none 0 0)).toArray 93)) G w.heap.size pf bf be Ap.init f:=by
  refine⟨⟨.nilIface,none,0,heap_alloc_new w _,rfl,Bytes.nil _ _,λa h=>(by cases h),λa h=>(by cases h),Nat.le_refl _,Nat.zero_le _⟩,?_,⟨by omega,by omega,by omega⟩,⟨λx=>by have:=hG _ x;omega,hng⟩,λb hb=>by have:=hG b hb;simp;omega,⟨rfl,by decide,by decide,by decide,by decide,by decide,by decide,by decide,by decide,by decide⟩⟩;exact(h.wider (X':=PX w.heap.size G) λb hb x=>x.elim (λe=>by omega) id).only (F:=λ_=>False) ((Only.refl _ _).alloc _) λb x=>x.elim
 have HB:=Lib.hid hb;clear hb;have HR:=Lib.hid hr;clear hr;go_enter Tryz.func31,Tryz.ntmps31
 go_wp2
 go_ret
 exact⟨rfl,HR.out,HB.out⟩
end Go.Proofs.YtkmgcggoemlaaaaGreatDoor
end
section
/- The applier's Feed. -/
set_option maxHeartbeats 8000000
set_option maxRecDepth 100000
namespace Go.Proofs.YtkmgcggoemlaaaaGreatDoor
open Go.RowKit Go.Fwm
theorem byte_call (w:World)(G:Nat->Prop)(pa pf bf be:Nat)(a:Ap)(f:Fl)(h:ARep w G pa pf bf be a f){f0:Fl}{R0:Nat}{out:List UInt8}(hI:Inv f0 R0 out a f)(he:f.events.length<999970000)(hrd:f.reads<999999980000)(b:UInt8) :
  Calls Tryz.prog (stF a.st) #[.pointer (some ⟨pa,0,none⟩),.int .u8 (b.toNat:Int)] w (STo w G pa pf bf be (a.stepB f b)):=by
 have hd:=hI.dig;have hlp:=hI.lp;have hpg:=hI.pg;have hml:=hI.ml;cases hst:a.st with
 | oldSize=>rw[hst] at hd;exact oldSize_ok w G pa pf bf be a f h b hst hd
 | oldSum=>rw[hst] at hd;exact oldSum_ok w G pa pf bf be a f h b hst hd (by omega)
 | newSize=>rw[hst] at hd;exact newSize_ok w G pa pf bf be a f h b hst hd (by omega)
 | step=>exact step_ok w G pa pf bf be a f h b hst
 | counted=>rw[hst] at hd;exact counted_ok w G pa pf bf be a f h b hst hd hml hI.op (hI.size (by rw[hst];rfl)) (by omega) (by omega)
 | own=>obtain⟨c0,c1⟩:=hI.count (by rw[hst];rfl);exact own_ok w G pa pf bf be a f h b hst (by omega) c0 (by omega)
 | place=>
  rw[hst] at hd;obtain⟨c0,c1⟩:=hI.count (by rw[hst];rfl);cases hw:(a.number b).whole with
  | false=>exact place_not w G pa pf bf be a f h b hst hd hw
  | true=>exact place_yes w G pa pf bf be a f h b hst hd hw (hI.size (by rw[hst];rfl)) (by omega) (by omega) (by omega)
 | beside=>exact beside_ok w G pa pf bf be a f h b hst hml (by omega)
 | fin=>rw[hst] at hd;exact fin_ok w G pa pf bf be a f h b hst hd
 | over=>exact over_ok w G pa pf bf be a f h b hst
theorem run_enter {P:Program}{f:FuncId}{fn:Func}{c:Code}(hf:P.funcs[f]? = some fn)(hname:(fn.name == "runtime.NumGoroutine")=false) (hb:fn.body=some c) (args:Array Value) (w:World) :
  (callFunc f args).run P w=.ok (.enter f args) w:=by
 have h1:fn.name≠ "runtime.NumGoroutine" := by simpa using hname
 simp[callFunc,hf,h1,hb]
theorem st_enter (s:St)(args:Array Value)(w:World):(callFunc (stF s) args).run Tryz.prog w=.ok (.enter (stF s) args) w:=by
 cases s with
 | oldSize=>exact run_enter Tryz.func43 (by kernel_rfl) rfl args w
 | oldSum=>exact run_enter Tryz.func59 (by kernel_rfl) rfl args w
 | newSize=>exact run_enter Tryz.func71 (by kernel_rfl) rfl args w
 | step=>exact run_enter Tryz.func84 (by kernel_rfl) rfl args w
 | counted=>exact run_enter Tryz.func97 (by kernel_rfl) rfl args w
 | own=>exact run_enter Tryz.func105 (by kernel_rfl) rfl args w
 | place=>exact run_enter Tryz.func106 (by kernel_rfl) rfl args w
 | beside=>exact run_enter Tryz.func107 (by kernel_rfl) rfl args w
 | fin=>exact run_enter Tryz.func85 (by kernel_rfl) rfl args w
 | over=>exact run_enter Tryz.func98 (by kernel_rfl) rfl args w
theorem ARep.fault {w:World}{G:Nat->Prop}{pa pf bf be:Nat}{a:Ap}{f:Fl}(h:ARep w G pa pf bf be a f):∃vf,w.cell? ⟨pa,4,none⟩=some vf/\FltV w (AF_ (PX pa G) pf bf be) vf a.fault:=by
 obtain⟨vf,A,c,h1,h2,_⟩:=h.blk;exact⟨vf,h1.cell rfl,h2⟩
theorem FltV.neq {w:World}{F:Nat->Prop}{v:Value}{x:Flt}(h:FltV w F v x):(∃t u,v=.iface t u)\/(v=.nilIface/\x=.none):=by
 cases x with
 | none=>exact .inr ⟨h,rfl⟩
 | errno n=>exact .inl ⟨_,_,h⟩
 | wrapped n=>obtain⟨b,a,h1,_⟩:=h;exact .inl ⟨_,_,h1⟩
theorem FltV.some_ne {w:World}{F:Nat->Prop}{v:Value}{x:Flt}(h:FltV w F v x)(hx:x≠.none):∃t u,v=.iface t u:=by
 rcases h.neq with h|⟨_,h⟩
 ·exact h
 ·exact absurd h hx
structure Fd (w:World) (G:Nat->Prop) (pa pf bf be:Nat) (y:AF) (wr:World):Prop where
 ex:∃be',AAt w G pa pf bf be y.a y.f wr be'
def FeTo (w:World)(G:Nat->Prop)(pa pf bf be:Nat)(y:AF)(x:Flt)(e:Ending)(w':World):Prop:=
 ∃be' v,e=.returned v/\AAt w G pa pf bf be y.a y.f w' be'/\FltV w' (AF_ (PX pa G) pf bf be') v x
end Go.Proofs.YtkmgcggoemlaaaaGreatDoor
namespace Go
open Go Go.Fwm Go.RowKit Go.Proofs.YtkmgcggoemlaaaaGreatDoor
theorem Fwm.Inv.evs_le {f0 f:Fl}{R0:Nat}{out:List UInt8}{a:Ap}(h:Inv f0 R0 out a f):f.events.length<=f0.events.length+200:=by
 have e:∀j,(evs j).length=j:=λj=>by simp[evs]
 have hml:=h.ml;have hlp:=h.lp;have hpg:=h.pg;cases he:ended a.st with
 | false=>
  have:=(h.body he).fi.ev;rw[this,List.length_append,e];omega
 | true=>
  have:=(h.done he).2.fi.ev;rw[this,List.length_append,e];omega
end Go
namespace Go.Proofs.YtkmgcggoemlaaaaGreatDoor
open Go.RowKit Go.Fwm
end Go.Proofs.YtkmgcggoemlaaaaGreatDoor
namespace Go
open Go Go.Fwm Go.RowKit Go.Proofs.YtkmgcggoemlaaaaGreatDoor
theorem Fwm.Inv.rd_le {f0 f:Fl}{R0:Nat}{out:List UInt8}{a:Ap}(h:Inv f0 R0 out a f):f.reads<=R0+8192:=by
 have:=h.rd;have hml:=h.ml;have hlp:=h.lp;have hpg:=h.pg;split at this<;>omega
end Go
namespace Go.Proofs.YtkmgcggoemlaaaaGreatDoor
open Go.RowKit Go.Fwm
theorem feed_ok (w:World)(G:Nat->Prop)(pa pf bf be:Nat)(x:AF)(h:ARep w G pa pf bf be x.a x.f)(hg:GV w)(hz:¬AO pa pf bf be 0){f0:Fl}{R0:Nat}(hS:Stt f0 R0 x)(hE:f0.events.length<=1000000)(hR:R0<=100000000000)
  (A:Option Addr) (n c:Nat) (zs:List UInt8) (hl:zs.length=n) (hn:n<=1000000) (hx:Bytes w A zs) (ha:Away (AO pa pf bf be) A) (hat:x.a.at_+n<=1000000000000) :
  Calls Tryz.prog 33 #[.pointer (some ⟨pa,0,none⟩),.slice A n c] w (FeTo w G pa pf bf be (x.feed zs) (x.feed zs).a.fault):=by
 have hkat:∀k,k<=n->(x.feed (zs.take k)).a.at_<=x.a.at_+k:=λk hk=>by
  have:=feed_at (zs.take k) x;rw[List.length_take] at this;omega
 have hstep:∀k (hk:k<zs.length),x.feed (zs.take (k+1))=(x.feed (zs.take k)).byte zs[k]:=λk hk=>by
  rw[List.take_succ_eq_append_getElem hk,feed_app];rfl
 have hall:x.feed (zs.take n)=x.feed zs:=by rw[List.take_of_length_le (by omega)]
 have hbad:∀k,k<=n->(x.feed (zs.take k)).a.fault≠.none->x.feed zs=x.feed (zs.take k):=λk hk hf=>by
  conv=>lhs;rw[←List.take_append_drop k zs,feed_app]
  exact feed_bad hf _
 have hst:∀k,Stt f0 R0 (x.feed (zs.take k)):=λk=>hS.feed _
 have h0:Fd w G pa pf bf be (x.feed (zs.take 0)) w:=⟨be,AAt.refl h⟩;have HK:=Lib.hid hkat;clear hkat;have HST:=Lib.hid hstep;clear hstep;have HALL:=Lib.hid hall;clear hall;have HBAD:=Lib.hid hbad;clear hbad;have HS:=Lib.hid hst;clear hst;have H0:=Lib.hid h0;clear h0;have HX:=Lib.hid hx;clear hx;have HA:=Lib.hid ha;clear ha;have hgv:∀w' be' a' f',AAt w G pa pf bf be a' f' w' be'->GV w':=λw' be' a' f' h=>hg.only h.on hz
 have HG:=Lib.hid hgv;clear hg hgv;have HL:=Lib.hid hl;clear hl;clear h hS;go_enter Tryz.func33,Tryz.ntmps33
 go_wp2
 go_loopw [12] (λi wr=>∃k:Nat,k<=n/\i=.int .i64 k/\Fd w G pa pf bf be (x.feed (zs.take k)) wr) (λi _=>n-(intOf i).toNat)
 case atStart=>exact⟨0,Nat.zero_le _,rfl,H0.out⟩
 case round=>
  obtain⟨k,hk,rfl,⟨be1,hat1⟩⟩:=hrel;obtain⟨vf,y4,hv4⟩:=hat1.rep.fault;by_cases hlt:k<n
  ·have hkz:k<zs.length:=by rw[HL.out];exact hlt
   have hby:=HX.out.only hat1.on HA.out;obtain⟨b8,o8,rfl,hc8⟩:=hby k hkz;by_cases hf:(x.feed (zs.take k)).a.fault=.none
   ·have hS1:=HS.out k;have hk1:=HK.out k hk;have hstp:=HST.out k hkz;have hbad:=HBAD.out (k+1) (by omega);obtain⟨y,hy⟩:∃y,x.feed (zs.take k)=y:=⟨_,rfl⟩;rw[hstp] at hbad;rw[hy] at hS1 hk1 hstp hat1 hv4 hf hbad;obtain rfl:vf=.nilIface:=by rw[hf] at hv4;exact hv4
    obtain⟨out,hI⟩:∃out,Inv f0 R0 out y.a y.f:=by
     cases hS1 with
     | ok out h=>exact⟨out,h⟩
     | bad e h _=>rw[hf] at h;split at h<;>cases h
    have hev:=hI.evs_le;have hrd:=hI.rd_le;obtain⟨b,hbz⟩:∃b,zs[k]=b:=⟨_,rfl⟩;rw[hbz] at hstp hc8 hbad;have hbc:=byte_call wr G pa pf bf be1 y.a y.f hat1.rep hI (by omega) (by omega) b;have y1:=hat1.rep.facts.c1;unfold stV at y1;have hcf:=st_enter y.a.st;obtain⟨F,hF⟩:∃F,stF y.a.st=F:=⟨_,rfl⟩;rw[hF] at y1 hbc hcf;have hat_:=stepB_at y.a y.f b;have hok:=@byte_ok y hf b;have herr:=@byte_err y hf b;obtain⟨r,hr⟩:∃r,y.a.stepB y.f b=r:=⟨_,rfl⟩;rw[hr] at hbc hat_ hok;simp only[hr] at herr;have HBC:=Lib.hid hbc;have HAT:=Lib.hid hat1;have HY:=Lib.hid hy;have HSTP:=Lib.hid hstp;clear hbc hat1 hy hstp hv4 hf hbz hr hF hI hS1 hby;cases hre:r.err with
    | none=>
     have hok:=hok hre;have HOK:=Lib.hid hok;have HX1:=Lib.hid hre;have HAT_:=Lib.hid hat_;clear hok hre herr hbad hat_;have hsf:=λW:World=>run_store Tryz.prog W ⟨pa,1,none⟩ (.func (.func (stF r.st)) #[] #[]) .plain rfl
     go_wp2_with (refine HBC.out.mono ?_;rintro e w1 hto;obtain⟨v,rfl,hv,be2,hat2⟩:=hto;obtain rfl:=hv HX1.out;rw[HX1.out];unfold errV stV;have z1:=hat2.rep.facts.c1;unfold stV at z1;have z2:=hat2.rep.facts.c2;have zf1:=hat2.rep.facts.fz 1;have zf2:=hat2.rep.facts.fz 2;rw[HAT_.out] at z2;have HA2:=Lib.hid hat2;clear hat2 hv)
     go_roundw
     case rel=>
      refine⟨k+1,by omega,by go_num,⟨be2,?_⟩⟩;rw[HSTP.out,HOK.out];have:=(HA2.out.setSt r.st).setAt (y.a.at_+1) (by omega);rw[show ((y.a.at_+1:Nat):Int)=(y.a.at_:Int)+1 by omega] at this;have e:({ { r.a with st:=r.st } with at_:=y.a.at_+1 }:Ap)=r.next:=by unfold R.next;rw[HAT_.out]
      rw[e] at this;exact HAT.out.then_ this
     case measure=>simp[intOf];omega
    | some e9=>
     have herr:=herr hre;have hne:(y.byte b).a.fault≠.none:=by rw[herr];simp only;split<;>simp
     have hbad:=hbad hne;have HBAD2:=Lib.hid hbad;have HERR:=Lib.hid herr;have HX1:=Lib.hid hre;have HAT_:=Lib.hid hat_;clear hok hre herr hbad hat_ hne;by_cases h7:e9=7
     ·subst h7;go_wp2_with (first | (go_at_call 16;go_must (refine HT.out.mono ?_;rintro e w2 ⟨rfl,hbl⟩;have hat5:=HA4.out.below hbl;obtain⟨vf5,z5,hv5⟩:=hat5.rep.fault;obtain rfl:vf5=_:=hv5;have HA5:=Lib.hid hat5;clear hat5 hbl)) | (refine HBC.out.mono ?_;rintro e w1 hto;obtain⟨v,rfl,hv,be2,hat2⟩:=hto;rw[HX1.out];unfold errV;have zf4:=hat2.rep.facts.fz 4;have hat4:=hat2.setFault (.iface 30 (.int .i64 7)) (.errno 7) rfl;obtain⟨vf3,z3,_⟩:=hat2.rep.fault;have ht:=tell_errno _ (HG.out _ _ _ _ (HAT.out.then_ hat4)) 7;have HT:=Lib.hid ht;have HA4:=Lib.hid hat4;clear hat2 hat4 hv ht))
      go_ret
      rw[HBAD2.out,HERR.out];exact⟨be2,_,rfl,HAT.out.then_ HA5.out,rfl⟩
     ·have hi7:((e9:Int) == 7)=false:=by simp;omega
      have H7:=Lib.hid h7;clear h7;go_wp2_with (first | (go_at_call 16;go_must (refine HT.out.mono ?_;rintro e w2 ⟨rfl,hbl⟩;have hat5:=HA4.out.below hbl;obtain⟨vf5,z5,hv5⟩:=hat5.rep.fault;obtain rfl:vf5=_:=hv5;have y2:=hat5.rep.facts.c2;have zf5:=hat5.rep.facts.fz 4;have hpl:pa<w2.heap.size:=block_lt_of_cell y2;simp only[HAT_.out] at y2;have HA5:=Lib.hid hat5;clear hat5 hbl)) | (refine HBC.out.mono ?_;rintro e w1 hto;obtain⟨v,rfl,hv,be2,hat2⟩:=hto;rw[HX1.out];unfold errV;have zf4:=hat2.rep.facts.fz 4;have hat4:=hat2.setFault (.iface 30 (.int .i64 (e9:Int))) (.errno e9) rfl;obtain⟨vf3,z3,_⟩:=hat2.rep.fault;have ht:=tell_errno _ (HG.out _ _ _ _ (HAT.out.then_ hat4)) (e9:Int);have HT:=Lib.hid ht;have HA4:=Lib.hid hat4;clear hat2 hat4 hv ht))
      go_ret
      rw[HBAD2.out,HERR.out];simp only;rw[if_neg H7.out];have hnf:¬AF_ (PX pa G) pf bf be2 w2.heap.size:=λq=>by have:=HA5.out.lt _ q;omega
      have hbk:Blk (w2.alloc (.cells #[.int .i64 (y.a.at_:Int),.int .i64 (e9:Int)] 98)) w2.heap.size 98 [.int .i64 (y.a.at_:Int),.int .i64 (e9:Int)]:=heap_alloc_new w2 _;rw[←World.setCell_alloc_past _ pa 4 _ hpl];exact⟨be2,_,rfl,HAT.out.then_ ((HA5.out.alloc _).setFault _ (.wrapped e9) ⟨_,_,rfl,hnf,hbk⟩),⟨_,_,rfl,hnf,hbk.setNe _ (by show w2.heap.size≠pa;omega)⟩⟩
   ·obtain⟨t9,u9,rfl⟩:=hv4.some_ne hf;have hb:=HBAD.out k hk hf;have HB:=Lib.hid hb;have HV:=Lib.hid hv4;have HAT:=Lib.hid hat1;clear hv4 hat1 hf hb hby;go_wp2
    go_ret
    rw[HB.out];exact⟨be1,_,rfl,HAT.out,HV.out⟩
  ·obtain rfl:k=n:=by omega
   have HV:=Lib.hid hv4;have HAT:=Lib.hid hat1;clear hv4 hat1;go_wp2
   go_ret
   rw[←HALL.out];exact⟨be1,_,rfl,HAT.out,HV.out⟩
end Go.Proofs.YtkmgcggoemlaaaaGreatDoor
end
section
/- The applier's Finish, Held. -/
set_option maxHeartbeats 4000000
set_option maxRecDepth 100000
namespace Go.Proofs.YtkmgcggoemlaaaaGreatDoor
open Go.RowKit Go.Fwm
theorem neq_fn (F:FuncId)(w:World):(binOp .neq 87 (.func (.func F) #[] #[]) .nilFunc).run Tryz.prog w=.ok (.bool true) w:=by kernel_rfl
theorem finish_bad (w:World)(G:Nat->Prop)(pa pf bf be:Nat)(x:AF)(h:ARep w G pa pf bf be x.a x.f)(hf:x.a.fault≠.none) :
  Calls Tryz.prog 32 #[.pointer (some ⟨pa,0,none⟩)] w (FeTo w G pa pf bf be x.finish.x x.finish.fault):=by
 rw[fin_bad hf];obtain⟨vf,y4,hv4⟩:=h.fault;obtain⟨t9,u9,rfl⟩:=hv4.some_ne hf;have HV:=Lib.hid hv4;have HH:=Lib.hid h;clear hv4 h hf;go_enter Tryz.func32,Tryz.ntmps32
 go_wp2
 go_ret
 exact⟨be,_,rfl,AAt.refl HH.out,HV.out⟩
theorem finish_short (w:World)(G:Nat->Prop)(pa pf bf be:Nat)(x:AF)(h:ARep w G pa pf bf be x.a x.f)(hf:x.a.fault=.none)(hd:x.a.digits≠-1) :
  Calls Tryz.prog 32 #[.pointer (some ⟨pa,0,none⟩)] w (FeTo w G pa pf bf be x.finish.x x.finish.fault):=by
 rw[fin_short hf hd];obtain⟨vf,y4,hv4⟩:=h.fault;rw[hf] at hv4;obtain rfl:vf=.nilIface:=hv4;have y1:=h.facts.c1;unfold stV at y1;have hnf:=neq_fn (stF x.a.st);have y6:=h.facts.c6;have z4:=h.facts.fz 4;have hi:(x.a.digits == -1)=false:=by simpa using hd
 have hR:AAt w G pa pf bf be { x.a with fault:=.errno 5 } x.f (w.setCell ⟨pa,4,none⟩ (.iface 30 (.int .i64 5))) be:=(AAt.refl h).setFault _ (.errno 5) rfl;have HR:=Lib.hid hR;clear h hf hd hR;go_enter Tryz.func32,Tryz.ntmps32
 go_wp2
 go_ret
 exact⟨be,_,rfl,HR.out,rfl⟩
theorem finish_end (w:World)(G:Nat->Prop)(pa pf bf be:Nat)(x:AF)(h:ARep w G pa pf bf be x.a x.f)(hf:x.a.fault=.none)(hd:x.a.digits = -1)(he:x.f.events.length<1000000000) :
  Calls Tryz.prog 32 #[.pointer (some ⟨pa,0,none⟩)] w (FeTo w G pa pf bf be x.finish.x x.finish.fault):=by
 obtain⟨RES,hRES⟩:∃RES,x.finish=RES:=⟨_,rfl⟩;have e1:RES=match (x.f.commit x.a.length).err with
   | some e=>{ fault:=.errno e,x:={ a:={ x.a with fault:=.errno e },f:=(x.f.commit x.a.length).f } }
   | none=>{ fault:=.none,x:={ a:={ x.a with fault:=.errno 9 },f:=(x.f.commit x.a.length).f } }:=by
  rw[←hRES];unfold AF.finish;rw[if_neg (by rw[hf];simp),if_neg (by simpa using hd)];rfl
 rw[hRES];obtain⟨vf,y4,hv4⟩:=h.fault;rw[hf] at hv4;obtain rfl:vf=.nilIface:=hv4;have y1:=h.facts.c1;unfold stV at y1;have hnf:=neq_fn (stF x.a.st);have y6:=h.facts.c6;rw[hd] at y6;have hcm:=commit_ok w.drew (PX pa G) pf bf be x.f ((AAt.refl h).drew.rep.fl) x.a.length he;obtain⟨L,hL⟩:∃L,x.a.length=L:=⟨_,rfl⟩;obtain⟨r,hr⟩:∃r,x.f.commit x.a.length=r:=⟨_,rfl⟩;rw[hr] at hcm e1;rw[hL] at hcm;have hH:∀w2,FTo w.drew (PX pa G) pf bf be r.f w2->∃be1,AAt w G pa pf bf be x.a r.f w2 be1:=by
  intro w2 hto;obtain⟨be2,hat⟩:=FAt.of hto;exact⟨be2,(AAt.refl h).drew.then_ ((AAt.refl h).drew.rep.flash hat)⟩
 have HC:=Lib.hid hcm;clear hcm;have HH:=Lib.hid hH;clear hH;have H1:=Lib.hid e1;clear e1;have hl:=h.inv.length;have c0:=h.facts.c0;have c8:=h.facts.c8;rw[hL] at c8 hl;have HRP:=Lib.hid h;clear h;clear hf hd hr hRES hL;go_enter Tryz.func32,Tryz.ntmps32
 go_wp2
 refine wp_region_still_tail 8 (by kernel_rfl) (by kernel_rfl) ?_;change wpStill _ _ (World.drew _) _ _ _;have d0:w.drew.cell? ⟨pa,0,none⟩=some (.pointer (some ⟨pf,0,none⟩)):=c0;have d8:w.drew.cell? ⟨pa,8,none⟩=some (.int .i64 (L:Int)):=c8;clear c0 c8 y1 y4 y6;generalize hw2:World.drew _=w2 at HC HH d0 d8 ⊢;have HW:=Lib.hid hw2;clear hw2;simp only[List.take_succ_cons,List.take_zero,List.drop_succ_cons,List.drop_zero];repeat still_step
 refine wpStill_nil ?_;change wpList _ _ _ _ _ (World.drew _);rw[HW.out];cases hre:r.err with
 | some e9=>
  have hh:=H1.out;rw[hre] at hh;have HRES:=Lib.hid hh;have HX:=Lib.hid hre;clear hh hre H1;go_wp2_with (go_at_call 44;go_must (refine HC.out.mono ?_;rintro e w3 ⟨rfl,hto⟩;rw[HX.out];unfold errV;obtain⟨be1,hat⟩:=HH.out _ hto;have zf4:=hat.rep.facts.fz 4;obtain⟨vf3,z3,_⟩:=hat.rep.fault;have HA:=Lib.hid hat;clear hto hat))
  go_ret
  rw[HRES.out];exact⟨be1,_,rfl,HA.out.setFault _ (.errno e9) rfl,rfl⟩
 | none=>
  have hh:=H1.out;rw[hre] at hh;have HRES:=Lib.hid hh;have HX:=Lib.hid hre;clear hh hre H1;go_wp2_with (go_at_call 44;go_must (refine HC.out.mono ?_;rintro e w3 ⟨rfl,hto⟩;rw[HX.out];unfold errV;obtain⟨be1,hat⟩:=HH.out _ hto;have zf4:=hat.rep.facts.fz 4;obtain⟨vf3,z3,_⟩:=hat.rep.fault;have HA:=Lib.hid hat;clear hto hat))
  go_ret
  rw[HRES.out];exact⟨be1,_,rfl,HA.out.setFault _ (.errno 9) rfl,rfl⟩
theorem finish_ok (w:World)(G:Nat->Prop)(pa pf bf be:Nat)(x:AF)(h:ARep w G pa pf bf be x.a x.f)(he:x.f.events.length<1000000000) :
  Calls Tryz.prog 32 #[.pointer (some ⟨pa,0,none⟩)] w (FeTo w G pa pf bf be x.finish.x x.finish.fault):=by
 by_cases hf:x.a.fault=.none
 ·by_cases hd:x.a.digits = -1
  ·exact finish_end w G pa pf bf be x h hf hd he
  ·exact finish_short w G pa pf bf be x h hf hd
 ·exact finish_bad w G pa pf bf be x h hf
theorem held_ok (w:World)(G:Nat->Prop)(pa pf bf be:Nat)(a:Ap)(f:Fl)(h:ARep w G pa pf bf be a f) :
  Calls Tryz.prog 39 #[.pointer (some ⟨pa,0,none⟩)] w λe w'=>∃n:Int,e=.returned (.int .i64 n)/\w'=w:=by
 obtain⟨A,c,y76,_,_,_,_,hc⟩:=h.c76;have hc2:=hc;unfold maxLen at hc2;have HC:=Lib.hid hc;clear h hc;go_enter Tryz.func39,Tryz.ntmps39
 go_wp2
 go_ret
 exact⟨_,rfl,rfl⟩
end Go.Proofs.YtkmgcggoemlaaaaGreatDoor
end
section
/- api.NewFlash. -/
set_option maxHeartbeats 8000000
set_option maxRecDepth 100000
namespace Go.Proofs.YtkmgcggoemlaaaaGreatDoor
open Go.RowKit Go.Fwm
attribute [local go_sem ↓] Go.wp_at_zero Go.wp_at_succ
def row (k N:Nat):List Value:=(List.range N).map λi=>.int .u8 (if i<k then ((i*7+90)%256:Nat) else 0)
theorem row_get {k N i:Nat}(h:i<N):(row k N)[i]? = some (.int .u8 (if i<k then ((i*7+90)%256:Nat) else 0)):=by simp[row,h]
theorem row_set {k N:Nat}:(row k N).set k (.int .u8 ((k*7+90)%256:Nat))=row (k+1) N:=by
 apply List.ext_getElem?;intro i;rw[List.getElem?_set];by_cases hi:i<N
 ·by_cases e:k=i
  ·subst e;rw[if_pos rfl,row_get hi,if_pos (by simpa[row] using hi),if_pos (by omega)]
  ·rw[if_neg e,row_get hi,row_get hi];congr 3;exact propext (by omega)
 ·have e1:(row k N)[i]? = none:=by simp[row];omega
  have e2:(row (k+1) N)[i]? = none:=by simp[row];omega
  rw[e1,e2];split
  ·rename_i h;subst h;rw[if_neg (by simp[row];omega)]
  ·rfl
theorem row_zero (N:Nat):row 0 N=List.replicate N (.int .u8 0):=by
 apply List.ext_getElem?;intro i;by_cases hi:i<N
 ·rw[row_get hi];simp[hi]
 ·simp[row,hi]
theorem row_full (N:Nat):row N N=((List.range N).map λi=>UInt8.ofNat (i*7+90)).map enc:=by
 apply List.ext_getElem?;intro i;by_cases hi:i<N
 ·rw[row_get hi];simp[hi,enc]
 ·simp[row,hi]
structure Nf (w:World) (old:List UInt8) (N:Nat) (pf bf k:Nat) (wr:World):Prop where
 ex:∃A c,Blk wr pf 76 [.slice A old.length c,.slice (some ⟨bf,0,none⟩) N N,.slice none 0 0,.int .i64 0,.bool false,.int .i64 (-1),.int .u8 0,.int .i64 0,.int .i64 0]/\Bytes wr A old/\(A=none->c=0)/\old.length<=c/\c<=maxLen/\∀x,A=some x->w.heap.size<=x.block/\x.block<wr.heap.size/\x.block≠pf/\x.block≠bf
 fr:Blk wr bf 5 (row k N)
 pfn:w.heap.size<=pf
 bfn:w.heap.size<=bf
 ne:pf≠bf
 be:Below w.heap.size w wr
theorem Nf.set {w wr:World}{old:List UInt8}{N pf bf k:Nat}(h:Nf w old N pf bf k wr):Nf w old N pf bf (k+1) (wr.setCell ⟨bf,k,none⟩ (.int .u8 ((k*7+90)%256:Nat))):=by
 obtain⟨⟨A,c,h1,h2,h3,h4,h5,h6⟩,hfr,p,q,ne,be⟩:=h;have hon:Only (λb=>b=bf) wr (wr.setCell ⟨bf,k,none⟩ (.int .u8 ((k*7+90)%256:Nat))):=(Only.refl _ _).set _ (.inl rfl);refine⟨⟨A,c,h1.setNe _ ne,h2.only hon λx hx e=>(h6 x hx).2.2.2 e,h3,h4,h5,λx hx=>?_⟩,?_,p,q,ne,be.setCell (p:=⟨bf,k,none⟩) q _⟩
 ·obtain⟨y1,y2,y3,y4⟩:=h6 x hx;exact⟨y1,Nat.lt_of_lt_of_le y2 hon.le,y3,y4⟩
 ·rw[←row_set];exact hfr.set k _
theorem Nf.rep {w wr:World}{X:Nat->Prop}{old:List UInt8}{pages:Int}{pf bf be:Nat}(h:Nf w old (newPages old pages*64) pf bf (newPages old pages*64) wr)(hn:old.length<=4096)(hbe:be<w.heap.size)(hX:∀b,X b->b<w.heap.size):FRep wr X pf bf be (Fl.init old pages):=by
 obtain⟨⟨A,c,h1,h2,h3,h4,h5,h6⟩,hfr,p,q,ne,hb⟩:=h;have hP:newPages old pages<=64:=by unfold newPages;omega
 have hlen:(Fl.init old pages).fresh.length=newPages old pages*64:=by simp[Fl.init]
 refine⟨⟨A,c,newPages old pages*64,.slice none 0 0,?_,h2,λa ha x=>?_,λa ha=>(h6 a ha).2.1,⟨⟨rfl,.inl ⟨rfl,rfl⟩⟩,λk hk=>(by cases hk)⟩,by rw[hlen];exact Nat.le_refl _,by simp only[maxLen];omega,h4,h5,h3⟩,?_,ne,by omega,by omega,by have:=hb.size;omega,hn,by rw[hlen];omega,Nat.zero_le _,Nat.zero_le _,⟨by show (-1:Int)<=_;decide,by show (-1:Int)<=-1;decide⟩,Nat.zero_le _,Nat.zero_le _⟩
 ·have e:flCells (Fl.init old pages) A c bf (newPages old pages*64) (.slice none 0 0)=[.slice A old.length c,.slice (some ⟨bf,0,none⟩) (newPages old pages*64) (newPages old pages*64),.slice none 0 0,.int .i64 0,.bool false,.int .i64 (-1),.int .u8 0,.int .i64 0,.int .i64 0]:=by
   unfold flCells;rw[hlen];rfl
  rw[e];exact h1
 ·obtain⟨y1,y2,y3,y4⟩:=h6 a ha;rcases x with x|x|x|x
  ·have:=hX _ x;omega
  ·exact y3 x
  ·exact y4 x
  ·omega
 ·rw[row_full] at hfr;exact hfr
theorem newflash_ok (w:World)(X:Nat->Prop)(A:Option Addr)(n c:Nat)(old:List UInt8)(hl:old.length=n)(hn:n<=4096)(hx:Bytes w A old)(hA:A=none->c=0)(pages:Int)(hp:-9223372036854775808<=pages/\pages<=9223372036854775807)(be:Nat)(hbe:be<w.heap.size)(hX:∀b,X b->b<w.heap.size)(hXb:¬X be) :
  Calls Tryz.prog 18 #[.slice A n c,.int .i64 pages] w λe w'=>∃pf bf,e=.returned (.pointer (some ⟨pf,0,none⟩))/\FRep w' X pf bf be (Fl.init old pages)/\Below w.heap.size w w'/\w.heap.size<=pf/\w.heap.size<=bf:=by
 obtain⟨P,hP⟩:∃P,newPages old pages=P:=⟨_,rfl⟩;have hPl:P<=64:=by rw[←hP];unfold newPages;omega
 have hcl:∀W:World,Below w.heap.size w W->Calls Tryz.prog 38 #[.slice A n c] W λe w'=>∃A' cap',e=.returned (.slice A' n cap')/\Fresh W w' A' n cap' old/\Below W.heap.size W w':=λW hW=>
  clone_any W A n c old hl (by omega) (hx.only (F:=λ_=>False) ⟨hW.size,λb hb _=>hW.block b hb⟩ λ_ _ x=>x) hA
 obtain⟨m,hm⟩:∃m:Int,m=min pages 64:=⟨_,rfl⟩;have hmn:∀W,(Builtin.min_ #[3,3] 3 #[.int .i64 pages,.int .i64 64]).run Tryz.prog W=.ok (.int .i64 m) W:=λW=>by
  rw[run_min_int2];congr 2;split<;>omega
 have hmx:∀W,(Builtin.max_ #[3,3,3] 3 #[.int .i64 (((n:Int)+64-1)/64),.int .i64 m,.int .i64 0]).run Tryz.prog W=.ok (.int .i64 (P:Int)) W:=λW=>by
  have e:∀x y z:Int,(Builtin.max_ #[3,3,3] 3 #[.int .i64 x,.int .i64 y,.int .i64 z]).run Tryz.prog W=.ok (.int .i64 (if z>(if y>x then y else x) then z else (if y>x then y else x))) W:=λx y z=>by
   simp[Builtin.max_,Builtin.max2]
  rw[e];congr 2;unfold newPages at hP;rw[hl] at hP;split<;>split at *<;>omega
 have hmk:=run_make_u8 (P*64) (by omega);rw[show ((P*64:Nat):Int)=(P:Int)*64 by omega] at hmk;have HCL:=Lib.hid hcl;clear hcl;have HX:=Lib.hid hx;clear hx;have hrep:∀pf bf wr,Nf w old (P*64) pf bf (P*64) wr->FRep wr X pf bf be (Fl.init old pages):=λpf bf wr h=>by
  rw[←hP] at h;exact h.rep (by omega) hbe hX
 have HR:=Lib.hid hrep;clear hrep;clear hm hP hl hX;go_enter Tryz.func18,Tryz.ntmps18
 go_wp2
 have j1:IntKind.i64.wrap ((P:Int)*64)=(P:Int)*64:=IntWalk.i64_in _ (by omega);have B1:Below w.heap.size w w.drew:=(Below.refl _ w).drew;have B2:=λo=>B1.alloc (Nat.le_refl _) o
 go_region_held3 (λ_=>True) (trivial) (first | (go_at_call 38;(first | refine(HCL.out _ B1).mono ?_ | refine(HCL.out _ (B2 _)).mono ?_);rintro e w1 ⟨A1,c1,rfl,hf1,hb1⟩))
 ·obtain⟨pf,hpf⟩:∃pf,w1.heap.size+1=pf:=⟨_,rfl⟩;obtain⟨bf,hbf⟩:∃bf,w1.heap.size=bf:=⟨_,rfl⟩;obtain⟨W3,hW3⟩:∃W3,((w1.alloc (Obj.cells (Array.replicate (P*64) (Value.int IntKind.u8 0)) 5)).alloc (Obj.cells #[Value.slice A1 n c1,Value.slice (some ⟨w1.heap.size,0,none⟩) (P*64) (P*64),Value.slice none 0 0,Value.int IntKind.i64 0,Value.bool false,Value.int IntKind.i64 (-1),Value.int IntKind.u8 0,Value.int IntKind.i64 0,Value.int IntKind.i64 0] 76))=W3:=⟨_,rfl⟩;have hN:Nf w old (P*64) pf bf 0 W3:=by
   rw[←hW3,←hpf,←hbf];have hon:Only (λ_=>False) w1 ((w1.alloc (Obj.cells (Array.replicate (P*64) (Value.int IntKind.u8 0)) 5)).alloc (Obj.cells #[Value.slice A1 n c1,Value.slice (some ⟨w1.heap.size,0,none⟩) (P*64) (P*64),Value.slice none 0 0,Value.int IntKind.i64 0,Value.bool false,Value.int IntKind.i64 (-1),Value.int IntKind.u8 0,Value.int IntKind.i64 0,Value.int IntKind.i64 0] 76)):=((Only.refl _ _).alloc _).alloc _;have hsz:=hb1.size;have hsz:w.heap.size<=w1.heap.size:=hsz;refine⟨⟨A1,c1,?_,hf1.bytes.only hon λ_ _ x=>x,λe=>(hf1.nil_ e).2,by rw[hf1.len];exact hf1.cap.1,hf1.cap.2,λx hx=>?_⟩,?_,by omega,hsz,by omega,((B1.trans hb1).alloc hsz _).alloc (by simp;omega) _⟩
   ·rw[hf1.len];have:=heap_alloc_new (w1.alloc (Obj.cells (Array.replicate (P*64) (Value.int IntKind.u8 0)) 5)) (Obj.cells #[Value.slice A1 n c1,Value.slice (some ⟨w1.heap.size,0,none⟩) (P*64) (P*64),Value.slice none 0 0,Value.int IntKind.i64 0,Value.bool false,Value.int IntKind.i64 (-1),Value.int IntKind.u8 0,Value.int IntKind.i64 0,Value.int IntKind.i64 0] 76);rw[show (w1.alloc (Obj.cells (Array.replicate (P*64) (Value.int IntKind.u8 0)) 5)).heap.size=w1.heap.size+1 by simp] at this;exact this
   ·obtain⟨y1,y2,_⟩:=hf1.new_ x hx;exact⟨y1,by simp;omega,by omega,by omega⟩
   ·rw[row_zero];refine Blk.alloc ?_ _;show _=_;rw[List.toArray_replicate];exact heap_alloc_new w1 _
  rw[hW3,hpf,hbf];clear hW3 hpf hbf hf1 hb1 hmk hmx hmn B1 B2 HCL j1;have q1:W3.cell? ⟨pf,1,none⟩=some (.slice (some ⟨bf,0,none⟩) (P*64) (P*64)):=by obtain⟨_,_,g,_⟩:=hN.ex;exact g.cell rfl
  have HN:=Lib.hid hN;clear hN;go_wp2
  go_loopw [29] (λi wr=>∃k:Nat,k<=P*64/\i=.int .i64 k/\Nf w old (P*64) pf bf k wr) (λi _=>P*64-(intOf i).toNat)
  case atStart=>exact⟨0,Nat.zero_le _,rfl,HN.out⟩
  case round=>
   obtain⟨k,hk,rfl,hN⟩:=hrel;by_cases hlt:k<P*64
   ·have q2:wr.cell? ⟨pf,1,none⟩=some (.slice (some ⟨bf,0,none⟩) (P*64) (P*64)):=by obtain⟨_,_,g,_⟩:=hN.ex;exact g.cell rfl
    have q3:=hN.fr.cell (row_get hlt);have q4:=hN.fr.free k;have HN2:=Lib.hid hN;clear hN;go_wp2
    go_roundw
    case rel=>exact⟨k+1,by omega,by go_num,by have:=HN2.out.set;rw[show (((k*7+90)%256:Nat):Int)=((k:Int)*7+90)%256 by omega] at this;exact this⟩
    case measure=>simp[intOf];omega
   ·obtain rfl:k=P*64:=by omega
    have HN2:=Lib.hid hN;clear hN;go_wp2
    go_ret
    exact⟨pf,bf,rfl,HR.out pf bf _ HN2.out,HN2.out.be,HN2.out.pfn,HN2.out.bfn⟩
 ·obtain⟨pf,hpf⟩:∃pf,w1.heap.size=pf:=⟨_,rfl⟩;obtain⟨bf,hbf⟩:∃bf,w.heap.size=bf:=⟨_,rfl⟩;obtain⟨W3,hW3⟩:∃W3,(w1.alloc (Obj.cells #[Value.slice A1 n c1,Value.slice (some ⟨w.heap.size,0,none⟩) (P*64) (P*64),Value.slice none 0 0,Value.int IntKind.i64 0,Value.bool false,Value.int IntKind.i64 (-1),Value.int IntKind.u8 0,Value.int IntKind.i64 0,Value.int IntKind.i64 0] 76))=W3:=⟨_,rfl⟩;have hN:Nf w old (P*64) pf bf 0 W3:=by
   rw[←hW3,←hpf,←hbf];have hon:Only (λ_=>False) w1 (w1.alloc (Obj.cells #[Value.slice A1 n c1,Value.slice (some ⟨w.heap.size,0,none⟩) (P*64) (P*64),Value.slice none 0 0,Value.int IntKind.i64 0,Value.bool false,Value.int IntKind.i64 (-1),Value.int IntKind.u8 0,Value.int IntKind.i64 0,Value.int IntKind.i64 0] 76)):=(Only.refl _ _).alloc _;have hsz:=hb1.size;have hsz:w.heap.size+1<=w1.heap.size:=by simpa using hsz
   have hfr:Blk (w.drew.alloc (Obj.cells (Array.replicate (P*64) (Value.int IntKind.u8 0)) 5)) w.heap.size 5 (row 0 (P*64)):=by
    rw[row_zero];show _=_;rw[List.toArray_replicate];exact heap_alloc_new w.drew _
   refine⟨⟨A1,c1,?_,hf1.bytes.only hon λ_ _ x=>x,λe=>(hf1.nil_ e).2,by rw[hf1.len];exact hf1.cap.1,hf1.cap.2,λx hx=>?_⟩,?_,by omega,Nat.le_refl _,by omega,?_⟩
   ·rw[hf1.len];exact heap_alloc_new w1 _
   ·obtain⟨y1,y2,_⟩:=hf1.new_ x hx;have y1:w.heap.size+1<=x.block:=by simpa using y1
    exact⟨by omega,by simp;omega,by omega,by omega⟩
   ·exact(hfr.keep (hb1.block _ (by simp))).alloc _
   ·exact((B2 _).trans (hb1.mono (by simp))).alloc (by omega) _
  rw[hW3,hpf,hbf];clear hW3 hpf hbf hf1 hb1 hmk hmx hmn B1 B2 HCL j1;have q1:W3.cell? ⟨pf,1,none⟩=some (.slice (some ⟨bf,0,none⟩) (P*64) (P*64)):=by obtain⟨_,_,g,_⟩:=hN.ex;exact g.cell rfl
  have HN:=Lib.hid hN;clear hN;go_wp2
  go_loopw [29] (λi wr=>∃k:Nat,k<=P*64/\i=.int .i64 k/\Nf w old (P*64) pf bf k wr) (λi _=>P*64-(intOf i).toNat)
  case atStart=>exact⟨0,Nat.zero_le _,rfl,HN.out⟩
  case round=>
   obtain⟨k,hk,rfl,hN⟩:=hrel;by_cases hlt:k<P*64
   ·have q2:wr.cell? ⟨pf,1,none⟩=some (.slice (some ⟨bf,0,none⟩) (P*64) (P*64)):=by obtain⟨_,_,g,_⟩:=hN.ex;exact g.cell rfl
    have q3:=hN.fr.cell (row_get hlt);have q4:=hN.fr.free k;have HN2:=Lib.hid hN;clear hN;go_wp2
    go_roundw
    case rel=>exact⟨k+1,by omega,by go_num,by have:=HN2.out.set;rw[show (((k*7+90)%256:Nat):Int)=((k:Int)*7+90)%256 by omega] at this;exact this⟩
    case measure=>simp[intOf];omega
   ·obtain rfl:k=P*64:=by omega
    have HN2:=Lib.hid hN;clear hN;go_wp2
    go_ret
    exact⟨pf,bf,rfl,HR.out pf bf _ HN2.out,HN2.out.be,HN2.out.pfn,HN2.out.bfn⟩
end Go.Proofs.YtkmgcggoemlaaaaGreatDoor
end
section
/- An applier beside other memory; Feed behind a fault. -/
set_option maxHeartbeats 4000000
set_option maxRecDepth 100000
namespace Go.Proofs.YtkmgcggoemlaaaaGreatDoor
open Go.RowKit Go.Fwm
section
variable {w w' w'':World} {G G':Nat->Prop} {pa pf bf be be':Nat} {a:Ap} {f:Fl}
theorem ARep.takeIn (h:ARep w G pa pf bf be a f)(hb:Only (λ_=>False) w w')(hG:∀b,b<w.heap.size->G' b->G b)(hlt:∀b,G' b->b<w'.heap.size):ARep w' G' pa pf bf be a f:=by
 have hk:=h.only hb λb x=>x.elim
 obtain⟨vf,A,c,h1,h2,h3,h4,h5,h6⟩:=h.blk;have hfl:=h.fl.wider (X':=PX pa G') λb hb x=>x.imp id (hG b hb)
 obtain⟨_,_,_,_,g1,_⟩:=h.fl.blk;have hAF:∀b,b<w.heap.size->AF_ (PX pa G') pf bf be b->AF_ (PX pa G) pf bf be b:=λb hb x=>x.imp (λy=>y.imp id (hG b hb)) id
 refine⟨⟨vf,A,c,h1.only hb λx=>x,?_,h3.only hb λ_ _ x=>x,λx hx y=>h4 x hx (hAF _ (h5 x hx) y),λx hx=>Nat.lt_of_lt_of_le (h5 x hx) hb.le,h6⟩,hfl.only hb λb x=>x.elim,h.ne,⟨λx=>h.ng.1 (hG _ h1.lt x),λx=>h.ng.2.1 (hG _ g1.lt x),λx=>h.ng.2.2.1 (hG _ h.fl.fresh.lt x),λx=>h.ng.2.2.2 (hG _ h.fl.belt x)⟩,hlt,h.inv⟩;cases hf:a.fault with
 | none=>rw[hf] at h2;exact h2
 | errno n=>rw[hf] at h2;exact h2
 | wrapped n=>
  rw[hf] at h2;obtain⟨b,at_,q1,q2,q3⟩:=h2;exact⟨b,at_,q1,λx=>q2 (hAF _ q3.lt x),q3.only hb λx=>x⟩
theorem ARep.give (h:ARep w G' pa pf bf be a f)(hG:∀b,G b->G' b):ARep w G pa pf bf be a f:=by
 obtain⟨vf,A,c,h1,h2,h3,h4,h5,h6⟩:=h.blk;have hAF:∀b,AF_ (PX pa G) pf bf be b->AF_ (PX pa G') pf bf be b:=λb x=>x.imp (λy=>y.imp id (hG b)) id
 refine⟨⟨vf,A,c,h1,?_,h3,λx hx y=>h4 x hx (hAF _ y),h5,h6⟩,h.fl.wider λb _ x=>x.imp id (hG b),h.ne,⟨λx=>h.ng.1 (hG _ x),λx=>h.ng.2.1 (hG _ x),λx=>h.ng.2.2.1 (hG _ x),λx=>h.ng.2.2.2 (hG _ x)⟩,λb hb=>h.glt b (hG b hb),h.inv⟩;cases hf:a.fault with
 | none=>rw[hf] at h2;exact h2
 | errno n=>rw[hf] at h2;exact h2
 | wrapped n=>
  rw[hf] at h2;obtain⟨b,at_,q1,q2,q3⟩:=h2;exact⟨b,at_,q1,λx=>q2 (hAF _ x),q3⟩
end
theorem FltV.but {w w':World}{F:Nat->Prop}{v:Value}{x:Flt}{g:Nat}(h:FltV w F v x)(k:But g w w')(hg:F g):FltV w' F v x:=by
 cases x with
 | none=>exact h
 | errno n=>exact h
 | wrapped n=>
  obtain⟨b,at_,q1,q2,q3⟩:=h;exact⟨b,at_,q1,q2,q3.keep (k.block b λe=>q2 (e ▸ hg))⟩
theorem FltV.below {w w':World}{F:Nat->Prop}{v:Value}{x:Flt}(h:FltV w F v x)(k:Below w.heap.size w w'):FltV w' F v x:=by
 cases x with
 | none=>exact h
 | errno n=>exact h
 | wrapped n=>
  obtain⟨b,at_,q1,q2,q3⟩:=h;exact⟨b,at_,q1,q2,q3.keep (k.block b q3.lt)⟩
theorem FltV.imp {w:World}{F F':Nat->Prop}{v:Value}{x:Flt}(h:FltV w F v x)(hF:∀b,F' b->F b):FltV w F' v x:=by
 cases x with
 | none=>exact h
 | errno n=>exact h
 | wrapped n=>
  obtain⟨b,at_,q1,q2,q3⟩:=h;exact⟨b,at_,q1,λx=>q2 (hF b x),q3⟩
theorem feed_done (w:World)(G:Nat->Prop)(pa pf bf be:Nat)(x:AF)(h:ARep w G pa pf bf be x.a x.f)(hf:x.a.fault≠.none)(A:Option Addr)(n c:Nat)(zs:List UInt8)(hl:zs.length=n)(hn:n<=1000000)(hx:Bytes w A zs) :
  Calls Tryz.prog 33 #[.pointer (some ⟨pa,0,none⟩),.slice A n c] w (FeTo w G pa pf bf be x x.a.fault):=by
 obtain⟨vf,y4,hv4⟩:=h.fault;obtain⟨t9,u9,rfl⟩:=hv4.some_ne hf;have HV:=Lib.hid hv4;clear hv4;have HH:=Lib.hid h;clear h;clear hf;go_enter Tryz.func33,Tryz.ntmps33
 go_wp2
 go_loopw [12] (λi wr=>∃k:Nat,k<=n/\i=.int .i64 k/\wr=w) (λi _=>n-(intOf i).toNat)
 case atStart=>exact⟨0,Nat.zero_le _,rfl,rfl⟩
 case round=>
  obtain⟨k,hk,rfl,rfl⟩:=hrel;by_cases hlt:k<n
  ·obtain⟨b8,o8,rfl,hc8⟩:=hx k (by omega);go_wp2
   go_ret
   exact⟨be,_,rfl,AAt.refl HH.out,HV.out⟩
  ·obtain rfl:k=n:=by omega
   go_wp2
   go_ret
   exact⟨be,_,rfl,AAt.refl HH.out,HV.out⟩
end Go.Proofs.YtkmgcggoemlaaaaGreatDoor
end
section
/- A chunk that is fed, in the law's 'applied'. -/
namespace Go.Proofs.YtkmgcggoemlaaaaGreatDoor
open Go.RowKit Go.Fwm
def XG (X:Nat->Prop)(g:Nat)(b:Nat):Prop:=X b\/b=g
theorem chunk_in {w1 wr w2:World}{X:Nat->Prop}{pa pf bf be be':Nat}{a:Ap}{f:Fl}(hat:AAt w1 X pa pf bf be a f wr be')(hb:Below wr.heap.size wr w2)(hg:wr.heap.size<w2.heap.size):ARep w2 (XG X wr.heap.size) pa pf bf be' a f:=
 hat.rep.takeIn ⟨hb.size,λb hb' _=>hb.block b hb'⟩ (λb hlt x=>x.elim id λe=>by omega) λb x=>by
  rcases x with x|x
  ·have:=hat.rep.glt b x;omega
  ·omega
theorem chunk_out {w1 wr w2 w3 w4:World}{X:Nat->Prop}{pa pf bf be be' be3:Nat}{a a':Ap}{f f':Fl}{v:Value}{fl:Flt}(hat:AAt w1 X pa pf bf be a f wr be')(hb:Below wr.heap.size wr w2)(k:AAt w2 (XG X wr.heap.size) pa pf bf be' a' f' w3 be3)
  (hv:FltV w3 (AF_ (PX pa (XG X wr.heap.size)) pf bf be3) v fl) (hbut:But wr.heap.size w3 w4):AAt w1 X pa pf bf be a' f' w4 be3/\FltV w4 (AF_ (PX pa X) pf bf be3) v fl:=by
 have hle:=hat.on.le;have hon4:Only (λb=>b=wr.heap.size) w3 w4:=Only.but hbut rfl;have hr4:=k.rep.only hon4 λb e _=>.inr e
 have hsz:w2.heap.size<=w3.heap.size:=k.on.le;refine⟨⟨hr4.give λb x=>.inl x,?_,?_⟩,?_⟩
 ·rcases k.bq with e | e
  ·rw[e];exact hat.bq
  ·exact .inr (by have:=hb.size;omega)
 ·have o2:Only (λ_=>False) wr w2:=⟨hb.size,λb hb' _=>hb.block b hb'⟩;have h12:Only (AO pa pf bf be) w1 w2:=hat.on.trans o2 λb _ x=>x.elim
  have h13:Only (AO pa pf bf be) w1 w3:=h12.trans k.on λb hlt x=>by
   rcases x with x|x|x|x
   ·exact .inl x
   ·exact .inr (.inl x)
   ·exact .inr (.inr (.inl x))
   ·rcases hat.bq with y | y
    ·exact .inr (.inr (.inr (x.trans y)))
    ·omega
  exact h13.trans hon4 λb hlt x=>by omega
 ·exact(hv.but hbut (.inl (.inr (.inr rfl)))).imp λb x=>x.imp (λy=>y.imp id .inl) id
def Ints (w:World)(A:Option Addr)(n:Nat):Prop:=
 ∀k,k<n->∃b o z,A=some ⟨b,o,none⟩/\w.cell? ⟨b,o+k,none⟩=some (.int .i64 z)/\-9223372036854775808<=z/\z<=9223372036854775807
theorem Ints.keep {w w':World}{A:Option Addr}{n:Nat}(h:Ints w A n)(e:∀a,A=some a->a.block<w.heap.size->w'.heap[a.block]? = w.heap[a.block]?):Ints w' A n:=by
 intro k hk;obtain⟨b,o,z,rfl,hc,hz⟩:=h k hk;exact⟨b,o,z,rfl,by rw[World.cell?_of_block (a:=⟨b,o+k,none⟩) (e ⟨b,o,none⟩ rfl (block_lt_of_cell (a:=⟨b,o+k,none⟩) hc))];exact hc,hz⟩
theorem Flt.num_sticky {x:AF}{l m:List UInt8}(h:(x.feed l).a.fault.num≠0):(x.feed (l++m)).a.fault=(x.feed l).a.fault:=by
 have:(x.feed l).a.fault≠.none:=by intro e;rw[e] at h;exact h rfl
 rw[feed_app,feed_bad this]
structure Lp (w1:World) (X:Nat->Prop) (pa pf bf be:Nat) (f:Fl) (patch:List UInt8) (at_:Nat) (wr:World):Prop where
 ex:∃be',AAt w1 X pa pf bf be (AF.feed ⟨Ap.init,f⟩ (patch.take at_)).a (AF.feed ⟨Ap.init,f⟩ (patch.take at_)).f wr be'
theorem chunk_on {w1 wr w2 w3:World}{X X':Nat->Prop}{pa pf bf be be' be3:Nat}{a a':Ap}{f f':Fl}(hat:AAt w1 X pa pf bf be a f wr be')(hb:Below wr.heap.size wr w2)(k:AAt w2 X' pa pf bf be' a' f' w3 be3):Only (AO pa pf bf be) w1 w2/\Only (AO pa pf bf be) w1 w3:=by
 have hle:=hat.on.le;have o2:Only (λ_=>False) wr w2:=⟨hb.size,λb hb' _=>hb.block b hb'⟩;have h12:Only (AO pa pf bf be) w1 w2:=hat.on.trans o2 λb _ x=>x.elim
 refine⟨h12,h12.trans k.on λb hlt x=>?_⟩;rcases x with x|x|x|x
 ·exact .inl x
 ·exact .inr (.inl x)
 ·exact .inr (.inr (.inl x))
 ·rcases hat.bq with y | y
  ·exact .inr (.inr (.inr (x.trans y)))
  ·omega
structure Chain (w1:World) (X:Nat->Prop) (pa pf bf be:Nat) (f:Fl) (patch:List UInt8) (k L c0:Nat) (A0:Option Addr) (wr:World) (g:Nat) (R2:World->Prop) (R3 R4:Value->World->Prop) (R5:World->Prop) (F':Nat):Prop where
 roomy:Calls Tryz.prog 36 #[.slice A0 L c0] wr λe w2=>e=.returned (.slice (some ⟨g,0,none⟩) L (L+2))/\R2 w2
 feed:∀w2,R2 w2->Calls Tryz.prog 33 #[.pointer (some ⟨pa,0,none⟩),.slice (some ⟨g,0,none⟩) L (L+2)] w2 λe w3=>∃v,e=.returned v/\R3 v w3
 still:∀v w3,R3 v w3->Calls Tryz.prog 37 #[.slice (some ⟨g,0,none⟩) L (L+2),.slice A0 L c0] w3 λe w4=>e=.returned (.bool true)/\R4 v w4
 tell:∀v w4,R4 v w4->Calls Tryz.prog 16 #[v] w4 λe w5=>e=.returned (.int .i64 (F':Int))/\R5 w5
 num:F'=(AF.feed ⟨Ap.init,f⟩ (patch.take (k+L))).a.fault.num
 held:∀w5,R5 w5->Calls Tryz.prog 39 #[.pointer (some ⟨pa,0,none⟩)] w5 λe w6=>∃z:Int,e=.returned (.int .i64 z)/\w6=w5
 fin:∀w5,R5 w5->Lp w1 X pa pf bf be f patch (k+L) w5
theorem chunk_chain (w1:World)(X:Nat->Prop)(pa pf bf be:Nat)(f:Fl)(patch:List UInt8)(k L c0:Nat)(A0:Option Addr)(wr:World)(hn:patch.length<=1000000)(hk:k+L<=patch.length)(hg:GV w1)(hz:¬AO pa pf bf be 0)(h1:f.old.length<=4096)(h2:f.pages<=64)(hE:f.events.length<=1000000)(hR:f.reads<=100000000000)
  (hx:∀w',Only (AO pa pf bf be) w1 w'->Bytes w' A0 ((patch.drop k).take L)) {be1:Nat} (hat:AAt w1 X pa pf bf be (AF.feed ⟨Ap.init,f⟩ (patch.take k)).a (AF.feed ⟨Ap.init,f⟩ (patch.take k)).f wr be1) :
  ∃g R2 R3 R4 R5 F',Chain w1 X pa pf bf be f patch k L c0 A0 wr g R2 R3 R4 R5 F':=by
 obtain⟨zs,hzs⟩:∃zs,(patch.drop k).take L=zs:=⟨_,rfl⟩;have hzl:zs.length=L:=by rw[←hzs];simp;omega
 rw[hzs] at hx;obtain⟨x,hxe⟩:∃x,AF.feed ⟨Ap.init,f⟩ (patch.take k)=x:=⟨_,rfl⟩;have hnext:AF.feed ⟨Ap.init,f⟩ (patch.take (k+L))=x.feed zs:=by rw[List.take_add,feed_app,hxe,hzs]
 have hS:Stt f f.reads x:=by rw[←hxe];exact(init_stt f h1 h2).feed _
 have hat0:x.a.at_<=k:=by rw[←hxe];have:=feed_at (patch.take k) ⟨Ap.init,f⟩;simp only[List.length_take] at this;have e:Ap.init.at_=0:=rfl;omega
 rw[hxe] at hat;have hbe1:be1≠0:=by
  have:=hg.lt;rcases hat.bq with e|e
  ·rw[e];exact λe2=>hz (.inr (.inr (.inr e2.symm)))
  ·omega
 refine⟨wr.heap.size,λw2=>Below wr.heap.size wr w2/\w2.heap[wr.heap.size]? = some (.cells (zs.map enc++[Value.int .u8 71,Value.int .u8 72]).toArray 5 (0,0)),λv w3=>∃w2 be3,Below wr.heap.size wr w2/\AAt w2 (XG X wr.heap.size) pa pf bf be1 (x.feed zs).a (x.feed zs).f w3 be3/\FltV w3 (AF_ (PX pa (XG X wr.heap.size)) pf bf be3) v (x.feed zs).a.fault/\w3.heap[wr.heap.size]? = some (.cells (zs.map enc++[Value.int .u8 71,Value.int .u8 72]).toArray 5 (0,0)),λv w4=>∃be3,AAt w1 X pa pf bf be (x.feed zs).a (x.feed zs).f w4 be3/\FltV w4 (AF_ (PX pa X) pf bf be3) v (x.feed zs).a.fault,λw5=>∃be3,AAt w1 X pa pf bf be (x.feed zs).a (x.feed zs).f w5 be3,(x.feed zs).a.fault.num,?_,?_,?_,?_,?_,?_,?_⟩
 ·have:=roomy_big wr A0 c0 zs (by omega) (hx wr hat.on);rw[hzl] at this;exact this
 ·rintro w2 ⟨hb,hgb⟩;have hlt:wr.heap.size<w2.heap.size:=(Array.getElem?_eq_some_iff.1 hgb).1;have hr:=chunk_in hat hb hlt;have hoff:¬AO pa pf bf be1 wr.heap.size:=λq=>by
   have:=hat.lt wr.heap.size;rcases q with q|q|q|q
   ·have:=this (.inl (.inl q));omega
   ·have:=this (.inr (.inl q));omega
   ·have:=this (.inr (.inr (.inl q)));omega
   ·have:=this (.inr (.inr (.inr q)));omega
  have hg2:GV w2:=(hg.only hat.on hz).below hb;have:=feed_ok w2 (XG X wr.heap.size) pa pf bf be1 x hr hg2 (λq=>by rcases q with q | q | q | q;exact hz (.inl q);exact hz (.inr (.inl q));exact hz (.inr (.inr (.inl q)));exact hbe1 q.symm) hS hE hR (some ⟨wr.heap.size,0,none⟩) L (L+2) zs hzl (by omega) (Bytes.of_blk hgb) (λa ha q=>by cases ha;exact hoff q) (by omega);refine this.mono ?_;rintro e w3 ⟨be3,v,rfl,hA,hv⟩;exact⟨v,rfl,w2,be3,hb,hA,hv,by rw[hA.on.keep _ hlt hoff];exact hgb⟩
 ·rintro v w3 ⟨w2,be3,hb,hA,hv,hgb⟩;have:=still_big w3 wr.heap.size A0 c0 zs (by omega) hgb (hx w3 (chunk_on hat hb hA).2);rw[hzl] at this;refine this.mono ?_;rintro e w4 ⟨rfl,hbut⟩;obtain⟨q1,q2⟩:=chunk_out hat hb hA hv hbut;exact⟨rfl,be3,q1,q2⟩
 ·rintro v w4 ⟨be3,hA,hv⟩;have:=tell_ok w4 (hg.only hA.on hz) _ v _ hv;refine this.mono ?_;rintro e w5 ⟨rfl,hb⟩;exact⟨rfl,be3,hA.below hb⟩
 ·rw[hnext]
 ·rintro w5 ⟨be3,hA⟩;exact held_ok w5 X pa pf bf be3 _ _ hA.rep
 ·rintro w5 ⟨be3,hA⟩;exact⟨be3,by rw[hnext];exact hA⟩
theorem finish_again (x:AF):(x.finish.x.a.fault≠.none)/\(x.finish.fault.num≠0->x.finish.x.a.fault.num=x.finish.fault.num)/\(x.finish.fault.num=0->x.finish.x.a.fault.num=9\/x.a.fault≠.none/\x.a.fault.num=0):=by
 unfold AF.finish;by_cases h:x.a.fault≠.none
 ·rw[if_pos h];exact⟨h,λ_=>rfl,λe=>.inr ⟨h,e⟩⟩
 ·rw[if_neg h];by_cases hd:x.a.digits≠-1
  ·rw[if_pos hd];exact⟨by simp,λ_=>rfl,λe=>by cases e⟩
  ·rw[if_neg hd];simp only;split
   ·exact⟨by simp,λ_=>rfl,λe=>by rename_i e1 he;exact absurd e (by have:e1≠0:=by { unfold Fl.commit at he;split at he;(cases he;decide);split at he;(cases he;decide);cases he };exact this)⟩
   ·exact⟨by simp,λe=>absurd rfl e,λ_=>.inl rfl⟩
theorem finish_stick (x:AF)(h:x.a.fault.num≠0):x.finish.fault.num=x.a.fault.num:=by
 have:x.a.fault≠.none:=by intro e;rw[e] at h;exact h rfl
 rw[fin_bad this]
theorem Stt.num0 {f0:Fl}{R0:Nat}{x:AF}(h:Stt f0 R0 x):x.a.fault.num=0->x.a.fault=.none:=by
 cases h with
 | ok out h=>exact λ_=>h.nofault
 | bad e hf h=>
  rw[hf];intro e1;have:=h.num;split at e1
  ·cases e1
  ·have e1:e=0:=e1;omega
structure Tail (w w1:World) (X:Nat->Prop) (pa pf bf be:Nat) (y:AF) (M G:Nat) (A:Option Addr) (n c:Nat) (wr:World) (T1:Value->World->Prop) (T2:World->Prop) (T3:Value->World->Prop) (T4:Value->Value->World->Prop) (T5:Value->World->Prop) (T6:World->Prop):Prop where
 fin:Calls Tryz.prog 32 #[.pointer (some ⟨pa,0,none⟩)] wr λe w2=>∃v,e=.returned v/\T1 v w2
 tell1:∀v w2,T1 v w2->Calls Tryz.prog 16 #[v] w2 λe w3=>e=.returned (.int .i64 (M:Int))/\T2 w3
 held:∀w3,T2 w3->Calls Tryz.prog 39 #[.pointer (some ⟨pa,0,none⟩)] w3 λe w6=>∃z:Int,e=.returned (.int .i64 z)/\w6=w3
 feed2:∀w3,T2 w3->Calls Tryz.prog 33 #[.pointer (some ⟨pa,0,none⟩),.slice A n c] w3 λe w4=>∃v,e=.returned v/\T3 v w4
 fin2:∀v w4,T3 v w4->Calls Tryz.prog 32 #[.pointer (some ⟨pa,0,none⟩)] w4 λe w5=>∃v',e=.returned v'/\T4 v v' w5
 tell2:∀v v' w5,T4 v v' w5->Calls Tryz.prog 16 #[v] w5 λe w6=>e=.returned (.int .i64 (G:Int))/\T5 v' w6
 tell3:∀v' w6,T5 v' w6->Calls Tryz.prog 16 #[v'] w6 λe w7=>e=.returned (.int .i64 (G:Int))/\T6 w7
 done:∀w7,T6 w7->∃be',FRep w7 X pf bf be' y.f/\(be'=be\/w.heap.size<=be')/\Only (FF pf bf be) w w7
theorem tail_chain (w w1:World)(X:Nat->Prop)(pa pf bf be:Nat)(f:Fl)(patch:List UInt8)(n c:Nat)(A:Option Addr)(wr:World)(hl:patch.length=n)(hn:n<=1000000)(hg:GV w1)(hz:¬AO pa pf bf be 0)(h1:f.old.length<=4096)(h2:f.pages<=64)(hE:f.events.length<=1000000)
  (hb:Below pa w w1) (hpa:w.heap.size=pa) (hx:∀w',Only (AO pa pf bf be) w1 w'->Bytes w' A patch) {be1:Nat} (hat:AAt w1 X pa pf bf be (AF.feed ⟨Ap.init,f⟩ patch).a (AF.feed ⟨Ap.init,f⟩ patch).f wr be1) :
  ∃T1 T2 T3 T4 T5 T6,Tail w w1 X pa pf bf be (f.apply patch).x (f.apply patch).fault.num (f.apply patch).x.a.fault.num A n c wr T1 T2 T3 T4 T5 T6:=by
 obtain⟨x,hxe⟩:∃x,AF.feed ⟨Ap.init,f⟩ patch=x:=⟨_,rfl⟩;have happ:f.apply patch=x.finish:=by unfold Fl.apply;rw[hxe]
 have hS:Stt f f.reads x:=by rw[←hxe];exact(init_stt f h1 h2).feed _
 rw[hxe] at hat;rw[happ];have hfa:=finish_again x;have hfin:Calls Tryz.prog 32 #[.pointer (some ⟨pa,0,none⟩)] wr (FeTo wr X pa pf bf be1 x.finish.x x.finish.fault):=by
  by_cases hf:x.a.fault=.none
  ·refine finish_ok wr X pa pf bf be1 x hat.rep ?_;cases hS with
   | ok out h=>have:=h.evs_le;omega
   | bad e hf2 h=>rw[hf] at hf2;split at hf2<;>cases hf2
  ·exact finish_bad wr X pa pf bf be1 x hat.rep hf
 generalize x.finish=r at hfa hfin ⊢;have hgl:∀w' be' a' f',AAt w1 X pa pf bf be a' f' w' be'->GV w':=λw' be' a' f' h=>hg.only h.on hz
 refine⟨λv w2=>∃be2,AAt w1 X pa pf bf be r.x.a r.x.f w2 be2/\FltV w2 (AF_ (PX pa X) pf bf be2) v r.fault,λw3=>∃be3,AAt w1 X pa pf bf be r.x.a r.x.f w3 be3,λv w4=>∃be4,AAt w1 X pa pf bf be r.x.a r.x.f w4 be4/\FltV w4 (AF_ (PX pa X) pf bf be4) v r.x.a.fault,λv v' w5=>∃be5 F,AAt w1 X pa pf bf be r.x.a r.x.f w5 be5/\FltV w5 F v r.x.a.fault/\FltV w5 (AF_ (PX pa X) pf bf be5) v' r.x.a.fault,λv' w6=>∃be6,AAt w1 X pa pf bf be r.x.a r.x.f w6 be6/\FltV w6 (AF_ (PX pa X) pf bf be6) v' r.x.a.fault,λw7=>∃be7,AAt w1 X pa pf bf be r.x.a r.x.f w7 be7,?_,?_,?_,?_,?_,?_,?_,?_⟩
 ·refine hfin.mono ?_;rintro e w2 ⟨be2,v,rfl,hA,hv⟩;exact⟨v,rfl,be2,hat.then_ hA,hv⟩
 ·rintro v w2 ⟨be2,hA,hv⟩;refine(tell_ok w2 (hgl _ _ _ _ hA) _ v _ hv).mono ?_;rintro e w3 ⟨rfl,hb⟩;exact⟨rfl,be2,hA.below hb⟩
 ·rintro w3 ⟨be3,hA⟩;exact held_ok w3 X pa pf bf be3 _ _ hA.rep
 ·rintro w3 ⟨be3,hA⟩;refine(feed_done w3 X pa pf bf be3 r.x hA.rep hfa.1 A n c patch hl hn (hx w3 hA.on)).mono ?_;rintro e w4 ⟨be4,v,rfl,hB,hv⟩;exact⟨v,rfl,be4,hA.then_ hB,hv⟩
 ·rintro v w4 ⟨be4,hA,hv⟩;have:=finish_bad w4 X pa pf bf be4 r.x hA.rep hfa.1;rw[fin_bad hfa.1] at this;refine this.mono ?_;rintro e w5 ⟨be5,v',rfl,hB,hv'⟩;refine⟨v',rfl,be5,AF_ (PX pa X) pf bf be4,hA.then_ hB,?_,hv'⟩;exact hv.only (hB.on.mono λb _ q=>by
   rcases q with q|q
   ·exact .inl (.inl q)
   ·exact .inr q) λb _ q=>q
 ·rintro v v' w5 ⟨be5,F,hA,hv,hv'⟩;refine(tell_ok w5 (hgl _ _ _ _ hA) _ v _ hv).mono ?_;rintro e w6 ⟨rfl,hb⟩;exact⟨rfl,be5,hA.below hb,hv'.below hb⟩
 ·rintro v' w6 ⟨be6,hA,hv'⟩;refine(tell_ok w6 (hgl _ _ _ _ hA) _ v' _ hv').mono ?_;rintro e w7 ⟨rfl,hb⟩;exact⟨rfl,be6,hA.below hb⟩
 ·rintro w7 ⟨be7,hA⟩;refine⟨be7,hA.rep.fl.wider λb _ q=>.inr q,hA.bq.imp id λq=>Nat.le_trans hb.size q,?_⟩;refine⟨Nat.le_trans hb.size hA.on.le,λb hlt hn=>?_⟩;rw[hA.on.keep b (Nat.lt_of_lt_of_le hlt hb.size) λq=>q.elim (λe=>by omega) hn];exact hb.block b (by omega)
end Go.Proofs.YtkmgcggoemlaaaaGreatDoor
end
