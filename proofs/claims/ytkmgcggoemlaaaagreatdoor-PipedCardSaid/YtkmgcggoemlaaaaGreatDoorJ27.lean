/-
  Part 27 of the common ground of this seat: what single parts show stands ahead of each.
  No condition.
-/
import Derived.Test.YtkmgcggoemlaaaaGreatDoorJ26
import Derived.Test.YtkmgcggoemlaaaaGreatDoorJ24
import Derived.Test.YtkmgcggoemlaaaaGreatDoorJ07
set_option linter.unusedSimpArgs false
set_option linter.unusedVariables false
set_option linter.constructorNameAsVariable false
section
/- A network in the machine: its moves (a channel is closed, found closed; a message is put, and got). -/
namespace Go.Fw
open Go Go.Conc Go.Net
open Go.ConcN (sumTo sumTo_upd)
variable {P:Program} {FN:FuncId->Bool}
theorem NT.pend_ {live:Nat->Prop}{rng:Nat->Nat->Prop}{Sh:Nat->Prop}{top:Nat}{pend pend' chn:Nat->Prop}{t:Trace}(h:NT live rng Sh top pend chn t)(hp:∀c,pend c->pend' c):NT live rng Sh top pend' chn t:=
 ⟨h.clean,h.deaf,h.know,λi a ha hm=>(h.tip i a ha hm).imp id λ⟨c,p,op,h1,h2⟩=>⟨c,p,op,hp c h1,h2⟩,h.obj⟩
section
variable {K:Cfg} {N0:Nat} {W0:World} {κ:Ren P.globals.size} {S:Net.St Tpe Msg} {ν:Nat->Option Nat} {ι:Nat->Nat} {D:Nat->PD P} {Sh:Nat->Prop} {gs:Array Goroutine} {W:World} {t:Trace} {q:Nat->Nat} {Post:Value->World->Prop}
theorem MI.woken1 (h:MI P FN K N0 W0 κ S ν ι D Sh gs W t q){a c:Nat}(hc:ν a=some c){W':World}(hk:∀B,B≠c->W'.heap[B]? = W.heap[B]?){p:Nat}{s:Scr Tpe Msg}(hs:S.st p=.run s)(hn:q (ι p)=0->¬((∃m k,s=.send a m k)\/∃fl,wants s a fl)){x x':Goroutine}:woken P x x' W' (D p).g=(D p).g:=by
 refine(h.sit p s hs).woken_ (h.ne ⟨s,hs⟩) λb c' hq hb hw=>?_
 have hba:b≠a:=λe=>by subst e;exact hn hq hw
 have ho:S.ch b=.open:=by
  rcases hw with⟨m,k,rfl⟩|⟨fl,hw⟩
  ·exact h.ps p b m k hs hq
  ·exact h.pr p s b fl hs hw hq
 obtain⟨s0,e⟩:=h.chOpen hb ho;exact⟨_,_,_,_,(hk c' λe=>hba (h.chi b a c (e ▸ hb) hc)).trans e⟩
theorem Mv.close {p a:Nat}(m:Mv P FN Post K N0 W0 κ S ν ι D Sh gs W t q p (.close a))(sl:Option (Nat × Nat)):Goes1 P Post (ι p) gs W sl t:=by
 have hg:=m.h.gr p m.atw;have hd:=m.h.does p _ m.st;unfold Does at hd;obtain⟨hsn,hp0,hcap,hne,c,hc,hsim⟩:=hd.resolve_left (m.h.novac m.atw);have ho:S.ch a=.open:=m.h.open_ hc λhp=>m.nb ⟨p,_,m.st,.inl hp⟩
 obtain⟨s0,hcc⟩:=m.h.chOpen hc ho;rw[hcap] at hcc;obtain⟨hmw,g',k,hg',hq,hst⟩:=hsim (D p).β (D p).FS hg.rel;have hgl:(D p).g=gorL (D p).FS:=m.gl λb fl hb=>hb
 have hι0:ι p≠0:=λe=>hp0 (m.h.inj p 0 m.atw m.h.main (by rw[e,m.h.zero]))
 have hι0':(ι p == 0)=false:=by simpa using hι0
 have ltp:ι p<gs.size:=(Array.getElem?_eq_some_iff.1 (m.h.gat p m.atw)).1;have hrT:=runT_crowd_go (P:=P) (sl:=sl) (i:=ι p) (m.h.gat p m.atw) ((m.same _ W).trans (by rw[hι0'];exact hst W s0 s0 hcc));rw[hgl] at hrT;have hc':(W.setChan c 0 #[] true s0 s0 false).heap[c]? = some (.chan 0 #[] true s0 s0 false):=heap_setChan_self W hcc ..;have hk:∀B,B≠c->(W.setChan c 0 #[] true s0 s0 false).heap[B]? = W.heap[B]?:=λB hB=>heap_setChan_ne W 0 #[] true s0 s0 false (Ne.symm hB)
 have hmv:Net.Move K.R S p (W.tape,0,0) ⟨Net.upd S.st p .left,Net.upd S.ch a .closed⟩:=Net.Move.mk m.st (.close a) ⟨λq x x' e=>(by cases e),λb y y' e=>by cases e;exact⟨ho,hsn⟩⟩;have hstay:∀x y,gs[x]? = some y->(∀j s',S.st j=.run s'->ι j=x->j≠p->q (ι j)=0->∀fl,¬wants s' a fl)->x≠ι p->woken P (gorL (D p).FS) g' (W.setChan c 0 #[] true s0 s0 false) y=y:=λx y hx hno hxp=>by
  by_cases hpx:∃j,AtWork S j/\ι j=x
  ·obtain⟨j,⟨s',hj⟩,rfl⟩:=hpx;have hjp:j≠p:=λe=>hxp (by rw[e])
   have:=m.h.gat j ⟨s',hj⟩;rw[hx] at this;obtain rfl:=Option.some.inj this;refine m.h.woken1 hc hk hj λhq0=>?_
   rintro(⟨m',k',rfl⟩|⟨fl,hw⟩)
   ·exact hjp (((m.h.does j _ hj).sender (m.h.novac ⟨_,hj⟩)).1.symm.trans hsn)
   ·exact hno j s' hj rfl hjp hq0 fl hw
  ·exact woken_quitsD (m.h.lv x y hx λj h1 h2=>hpx ⟨j,h1,h2⟩)
 by_cases hr:∃s' fl,S.st (K.R.receiver a)=.run s'/\wants s' a fl/\q (ι (K.R.receiver a))=0
 ·obtain⟨s',fl,hj,hw,hq0⟩:=hr;obtain⟨j,hjd⟩:∃j,j=K.R.receiver a:=⟨_,rfl⟩;rw[←hjd] at hj hq0;have aj:AtWork S j:=⟨_,hj⟩;have hjp:j≠p:=λe=>by rw[e,m.st] at hj;cases hj;exact hw
  have hι:ι j≠ι p:=λe=>hjp (m.h.inj _ _ aj m.atw e)
  have ltj:ι j<gs.size:=(Array.getElem?_eq_some_iff.1 (m.h.gat j aj)).1;obtain⟨Zj,hgj,hstj,hpar⟩:=m.h.theReceiver (i:=ι p) hc hj hw hq0 hι;have hwk:woken P (gorL (D p).FS) g' (W.setChan c 0 #[] true s0 s0 false) (D j).g = { parked (gorL (D j).FS) #[rcase c Zj] (.recv fl) with status:=.running }:=by
   rw[hgj];unfold Go.Conc.woken;rw[hmw,hg'];simp only[bne,Bool.true_and];exact again_recv_closed hc'
  have h1:=m.h.turn hj (g':={ parked (gorL (D j).FS) #[rcase c Zj] (.recv fl) with status:=.running }) (k':=1) (.wk hw) (u:=#[]) (by simp) (λe=>by cases e) (λe=>by cases e);rw[Array.append_empty] at h1;refine⟨_,_,_,_,hrT,m.nx p _ _ hmv _ _ _ _ _ _ _ _ sl (h1.close m.atw hp0 hc hcap hq (s0:=s0) (λx s hx hxp hwt=>?_) (by simp) (by simp[ltp]) (λx hx=>?_))⟩
  ·rcases hwt with⟨fl',hw'⟩ | ⟨m',k',rfl⟩
   ·have:x=j:=by rw[hjd,←((m.h.does x _ hx).receiver (m.h.novac ⟨_,hx⟩) hw').1]
    rw[this,ConcN.upd_same];exact Nat.one_ne_zero
   ·exact absurd (((m.h.does x _ hx).sender (m.h.novac ⟨_,hx⟩)).1.symm.trans hsn) hxp
  ·rw[Array.getElem?_setIfInBounds_ne (Ne.symm hx),Array.getElem?_map];by_cases hxj:x=ι j
   ·subst hxj;rw[m.h.gat j aj,Array.getElem?_setIfInBounds_self_of_lt ltj];exact congrArg some hwk
   ·rw[Array.getElem?_setIfInBounds_ne (Ne.symm hxj)];cases hy:gs[x]? with
    | none=>rfl
    | some y=>
     refine congrArg some (hstay x y hy (λj' s2 h2 h3 h4 h5 fl' h6=>?_) hx);have:j'=j:=by rw[hjd,←((m.h.does j' _ h2).receiver (m.h.novac ⟨_,h2⟩) h6).1]
     exact hxj (by rw[←h3,this])
 ·refine⟨_,_,_,_,hrT,m.nx p _ _ hmv _ _ _ _ _ _ _ _ sl (m.h.close m.atw hp0 hc hcap hq (s0:=s0) (λx s hx hxp hwt hq0=>?_) (by simp) (by simp[ltp]) (λx hx=>?_))⟩
  ·rcases hwt with⟨fl',hw'⟩ | ⟨m',k',rfl⟩
   ·have:=((m.h.does x _ hx).receiver (m.h.novac ⟨_,hx⟩) hw').1;exact hr ⟨s,fl',by rw[this];exact hx,hw',by rw[this];exact hq0⟩
   ·exact absurd (((m.h.does x _ hx).sender (m.h.novac ⟨_,hx⟩)).1.symm.trans hsn) hxp
  ·rw[Array.getElem?_setIfInBounds_ne (Ne.symm hx),Array.getElem?_map];cases hy:gs[x]? with
   | none=>rfl
   | some y=>
    refine congrArg some (hstay x y hy (λj' s2 h2 h3 h4 h5 fl' h6=>?_) hx);have:=((m.h.does j' _ h2).receiver (m.h.novac ⟨_,h2⟩) h6).1;exact hr ⟨s2,fl',by rw[this];exact h2,h6,by rw[this];exact h5⟩
theorem Mv.shut {p a:Nat}{k:Scr Tpe Msg}(m:Mv P FN Post K N0 W0 κ S ν ι D Sh gs W t q p (.shut a k))(sl:Option (Nat × Nat)):Goes1 P Post (ι p) gs W sl t:=by
 have hg:=m.h.gr p m.atw;have hd:=m.h.does p _ m.st;unfold Does at hd;obtain⟨hrr,hcap,hne,c,z,nx,hc,hsim,hdn⟩:=hd.resolve_left (m.h.novac m.atw);obtain⟨Z,k1,k2,k3⟩:=hsim (D p).β (D p).FS hg.rel;have ltp:ι p<gs.size:=(Array.getElem?_eq_some_iff.1 (m.h.gat p m.atw)).1;have hch:=m.h.chan a;cases hy:S.ch a with
 | none=>rw[hy] at hch;have h2:ν a=none:=hch;rw[hc] at h2;cases h2
 | full m'=>exact(m.nb ⟨p,_,m.st,.inl (.inr (.inr ⟨m',hy⟩))⟩).elim
 | spent=>exact(m.nb ⟨p,_,m.st,.inl (.inr (.inl hy))⟩).elim
 | over=>exact(m.nb ⟨p,_,m.st,.inl (.inl hy)⟩).elim
 | «open»=>
  obtain⟨s0,hcc⟩:=m.h.chOpen hc hy;rw[hcap] at hcc;have hno:∀i m1 k1,S.st i=.run (.send a m1 k1)->q (ι i)≠0:=λi m1 k1 h1 _=>
   m.nb ⟨i,_,h1,.inr ⟨((m.h.does i _ h1).sender (m.h.novac ⟨_,h1⟩)).1,.inl ⟨k,by rw[hrr];exact m.st⟩⟩⟩
  refine m.waits k2 (λcc hcc'=>?_) (.precv (show wants _ a true from ⟨rfl,rfl⟩) hc k2) (λb m' k' e=>by cases e) (λb fl hb=>?_) sl
  ·simp only[List.mem_toArray,List.mem_cons,List.not_mem_nil,or_false] at hcc';subst hcc';exact ways_recv_none hcc (m.h.noSender hc λm1 k1 h1=>hno _ m1 k1 h1)
  ·obtain⟨rfl,rfl⟩:=hb;exact⟨hy,hno⟩
 | closed=>
  rw[hy] at hch;obtain⟨c',s0,e1,_,hcc⟩:=hch;rw[hc] at e1;cases e1;have hrT:=crowd_recv_closed (P:=P) (sl:=sl) (m.h.gat p m.atw) ((m.same _ W).trans (k2 _ W)) hcc (m.h.noSender hc λm1 k1 h1 h2=>by have:=m.h.ps _ a m1 k1 h1 h2;rw[hy] at this;cases this);obtain⟨FS',g1,g2,g3⟩:=k3 z Z false k1;rw[finishComm_recv,g3,ofEvents_nil,Array.empty_append] at hrT;have hmv:Net.Move K.R S p (W.tape,0,0) ⟨Net.upd S.st p (.run k),Net.upd S.ch a .over⟩:=Net.Move.mk m.st (.shut a k) ⟨λq x x' e=>(by cases e),λb y y' e=>by cases e;exact⟨hy,hrr⟩⟩;refine⟨_,_,_,_,hrT,m.nx p _ _ hmv _ _ _ _ _ _ _ _ sl (m.h.one m.atw g1 hdn hc (y':=.over) (λ_ _=>rfl) rfl rfl rfl rfl ⟨c,s0,hc,hcc⟩ (λx s hx hxp hwt hq0=>?_) (by simp) (by simp[ltp]) (λx hx=>by rw[Array.getElem?_setIfInBounds_ne (Ne.symm hx)]) (λg=>Deaf_quiet t g _ (by simp)) (m.h.tr.shut ⟨p,m.atw,rfl⟩ λx ⟨b,h1,h2⟩ hxc=>⟨b,?_,h2⟩))⟩
  ·have ho:S.ch a=.open:=by
    rcases hwt with⟨fl',hw'⟩|⟨m',k',rfl⟩
    ·exact m.h.pr x s a fl' hx hw' hq0
    ·exact m.h.ps x a m' k' hx hq0
   rw[hy] at ho;cases ho
  ·rw[Net.upd_ne _ _ λe=>hxc ?_]
   ·exact h1
   ·subst e;rw[hc] at h2;exact(Option.some.inj h2).symm
theorem Mv.get {p a:Nat}{G:Msg->Prop}{k:Msg->Scr Tpe Msg}(m:Mv P FN Post K N0 W0 κ S ν ι D Sh gs W t q p (.get a G k))(sl:Option (Nat × Nat)):Goes1 P Post (ι p) gs W sl t:=by
 have hg:=m.h.gr p m.atw;have hd:=m.h.does p _ m.st;unfold Does at hd;obtain⟨hrr,hcap,hne,c,z,nx,hc,hsim,hdn⟩:=hd.resolve_left (m.h.novac m.atw);obtain⟨Z,k1,k2,k3⟩:=hsim (D p).β (D p).FS hg.rel;have ltp:ι p<gs.size:=(Array.getElem?_eq_some_iff.1 (m.h.gat p m.atw)).1;have hno:∀i m1 k1,S.st i=.run (.send a m1 k1)->q (ι i)≠0:=λi m1 k1 h1 _=>by
  have:=((m.h.does i _ h1).sender (m.h.novac ⟨_,h1⟩)).2;omega
 have hch:=m.h.chan a;cases hy:S.ch a with
 | none=>rw[hy] at hch;have h2:ν a=none:=hch;rw[hc] at h2;cases h2
 | spent=>exact(m.nb ⟨p,_,m.st,.inl (.inr (.inl hy))⟩).elim
 | over=>exact(m.nb ⟨p,_,m.st,.inl (.inl hy)⟩).elim
 | closed=>exact(m.nb ⟨p,_,m.st,.inl (.inr (.inr (.inl hy)))⟩).elim
 | «open»=>
  obtain⟨s0,hcc⟩:=m.h.chOpen hc hy;refine m.waits k2 (λcc hcc'=>?_) (.precv (show wants _ a false from ⟨rfl,rfl⟩) hc k2) (λb m' k' e=>by cases e) (λb fl hb=>?_) sl
  ·simp only[List.mem_toArray,List.mem_cons,List.not_mem_nil,or_false] at hcc';subst hcc';exact ways_recv_none hcc (m.h.noSender hc λm1 k1 h1=>hno _ m1 k1 h1)
  ·obtain⟨rfl,rfl⟩:=hb;exact⟨hy,hno⟩
 | full m'=>
  have hG:G m':=Classical.byContradiction λhn=>m.nb ⟨p,_,m.st,.inl (.inr (.inr (.inr ⟨m',hy,hn⟩)))⟩
  rw[hy] at hch;obtain⟨c',s0,v,V,e1,rfl,hv,_,hcc⟩:=hch;rw[hc] at e1;cases e1;have hrT:=crowd_recv_buf (P:=P) (sl:=sl) (m.h.gat p m.atw) ((m.same _ W).trans (k2 _ W)) hcc (by simp) (m.h.noSender hc λm1 k1 h1=>hno _ m1 k1 h1);obtain⟨FS',g1,g2,g3⟩:=k3 v V true (hv.mono (m.h.le p m.atw));have eb:(#[V]:Array Value).getD 0 undef=V:=rfl;have ex:(#[V]:Array Value).extract 1 (#[V]:Array Value).size=#[]:=rfl;rw[eb,ex,finishComm_recv,g3,ofEvents_nil,Array.empty_append] at hrT;have hmv:Net.Move K.R S p (W.tape,0,0) ⟨Net.upd S.st p (.run (k (.val v))),Net.upd S.ch a .spent⟩:=Net.Move.mk m.st (.get a G k (.val v) hG) ⟨λq x x' e=>(by cases e),λb y y' e=>by cases e;exact⟨hy,hrr⟩⟩;refine⟨_,_,_,_,hrT,m.nx p _ _ hmv _ _ _ _ _ _ _ _ sl (m.h.one m.atw g1 (hdn v hG) hc (y':=.spent) (λB hB=>heap_setChan_ne W _ _ _ _ _ _ (Ne.symm hB)) (by simp[World.setChan]) rfl rfl rfl ⟨c,s0+1,hc,?_⟩ (λx s hx hxp hwt hq0=>?_) (by simp) (by simp[ltp]) (λx hx=>by rw[Array.getElem?_setIfInBounds_ne (Ne.symm hx)]) (λg=>Deaf_quiet t g _ (by simp)) ((m.h.tr.quiet (by simp[MemAct.touch?])).pend_ λx ⟨b,h1,h2⟩=>⟨b,?_,h2⟩))⟩
  ·rw[hcap];exact heap_setChan_self W hcc ..
  ·have ho:S.ch a=.open:=by
    rcases hwt with⟨fl',hw'⟩|⟨m',k',rfl⟩
    ·exact m.h.pr x s a fl' hx hw' hq0
    ·exact m.h.ps x a m' k' hx hq0
   rw[hy] at ho;cases ho
  ·rw[Net.upd_ne _ _ λe=>?_]
   ·exact h1
   ·subst e;rw[hy] at h1;cases h1
end
end Go.Fw
end
section
/- A network in the machine: a message is put; whatever the schedule does, the machine comes to its end. -/
namespace Go.Fw
open Go Go.Conc Go.Net
open Go.ConcN (sumTo sumTo_upd)
variable {P:Program} {FN:FuncId->Bool}
section
variable {K:Cfg} {N0:Nat} {W0:World} {κ:Ren P.globals.size} {S:Net.St Tpe Msg} {ν:Nat->Option Nat} {ι:Nat->Nat} {D:Nat->PD P} {Sh:Nat->Prop} {gs:Array Goroutine} {W:World} {t:Trace} {q:Nat->Nat} {Post:Value->World->Prop}
theorem Mv.put {p a:Nat}{m0:Msg}{k:Scr Tpe Msg}(m:Mv P FN Post K N0 W0 κ S ν ι D Sh gs W t q p (.put a m0 k))(sl:Option (Nat × Nat)):Goes1 P Post (ι p) gs W sl t:=by
 have hg:=m.h.gr p m.atw;have hd:=m.h.does p _ m.st;unfold Does at hd;obtain⟨hsn,hcap,hne,c,v,fs',hc,hne',rfl,hin,hsim,hdn⟩:=hd.resolve_left (m.h.novac m.atw);have ho:S.ch a=.open:=m.h.open_ hc λhp=>m.nb ⟨p,_,m.st,.inl hp⟩
 obtain⟨s0,hcc⟩:=m.h.chOpen hc ho;rw[hcap] at hcc;obtain⟨V,Z,FS',k1,k2,k3,k4,k5⟩:=hsim (D p).β (D p).FS hg.rel;have ltp:ι p<gs.size:=(Array.getElem?_eq_some_iff.1 (m.h.gat p m.atw)).1;have hκ:=(hin.to m.h.x0 m.h.dom (m.h.le p m.atw) (m.h.le p m.atw) k1).1;have hmv:Net.Move K.R S p (W.tape,0,0) ⟨Net.upd S.st p (.run k),Net.upd S.ch a (.full (.val v))⟩:=Net.Move.mk m.st (.put a (.val v) k) ⟨λq x x' e=>(by cases e),λb y y' e=>by cases e;exact⟨ho,hsn⟩⟩;have hpend:∀x,(∃b,S.ch b=.closed/\ν b=some x)->∃b,Net.upd S.ch a (.full (.val v)) b=.closed/\ν b=some x:=λx ⟨b,h1,h2⟩=>by
  refine⟨b,?_,h2⟩;rw[Net.upd_ne _ _ λe=>?_]
  ·exact h1
  ·subst e;rw[ho] at h1;cases h1
 have nosend:∀x m' k',S.st x=.run (.send a m' k')->False:=λx m' k' hx=>by
  have:=((m.h.does x _ hx).sender (m.h.novac ⟨_,hx⟩)).2;omega
 by_cases hr:∃s' fl,S.st (K.R.receiver a)=.run s'/\wants s' a fl/\q (ι (K.R.receiver a))=0
 ·obtain⟨s',fl,hj,hw,hq⟩:=hr;obtain⟨j,hjd⟩:∃j,j=K.R.receiver a:=⟨_,rfl⟩;rw[←hjd] at hj hq;have aj:AtWork S j:=⟨_,hj⟩;have hjp:j≠p:=λe=>by rw[e,m.st] at hj;cases hj;exact hw
  have hι:ι j≠ι p:=λe=>hjp (m.h.inj _ _ aj m.atw e)
  have ltj:ι j<gs.size:=(Array.getElem?_eq_some_iff.1 (m.h.gat j aj)).1;obtain⟨Zj,hgj,hstj,hpar⟩:=m.h.theReceiver (i:=ι p) hc hj hw hq hι;have hdj:=m.h.does j _ hj;have hrc:=hdj.receiver (m.h.novac aj) hw;have hfl:fl=false:=by
   cases fl with
   | false=>rfl
   | true=>have:=hrc.2.1 rfl;omega
  cases s' with
  | get b G kj=>
   obtain⟨rfl,_⟩:=hw;subst hfl;have hG:G (.val v):=Classical.byContradiction λhn=>m.nb1 p _ _ hmv ⟨j,_,(Net.upd_ne _ _ hjp).trans hj,.inl (.inr (.inr (.inr ⟨.val v,Net.upd_same _ _ _,hn⟩)))⟩
   unfold Does at hdj;obtain⟨hrr,_,hnej,c2,z,nx,hc2,hsimj,hdnj⟩:=hdj.resolve_left (m.h.novac aj);rw[hc] at hc2;cases hc2;obtain⟨Zr,l1,l2,l3⟩:=hsimj (D j).β (D j).FS (m.h.gr j aj).rel;obtain rfl:=rcase_inj (hstj true W) (l2 true W);obtain⟨FSj,g1,g2,g3⟩:=l3 v V true (hκ.mono (m.h.le j aj));have hgat:=m.h.gat j aj;rw[hgj] at hgat;have hrT:=crowd_send_meets (P:=P) (sl:=sl) (m.h.gat p m.atw) ((m.same _ W).trans (k2 _ W)) hcc hι hgat hpar;rw[finishComm_send,finishComm_recv,k5,g3,ofEvents_nil,Array.empty_append] at hrT;have t1:=m.h.turn hj (g':=gorL (D j).FS) (k':=1) .run (u:=#[]) (by simp) (λe=>by cases e) (λe=>by cases e);rw[Array.append_empty] at t1;have e1:∀x,x≠j->Net.upd D j { D j with g:=gorL (D j).FS } x=D x:=λx hx=>Net.upd_ne _ _ hx
   have e2:Net.upd D j { D j with g:=gorL (D j).FS } j = { D j with g:=gorL (D j).FS }:=Net.upd_same _ _ _;generalize Net.upd D j { D j with g:=gorL (D j).FS }=D1 at t1 e1 e2;have ep:=e1 p (Ne.symm hjp);have nw:∀x s,S.st x=.run s->x≠p->((∃fl,wants s b fl)\/∃m k,s=.send b m k)->ConcN.upd q (ι j) 1 (ι x)≠0:=λx s hx hxp hwt=>by
    rcases hwt with⟨fl',hw'⟩|⟨m',k',rfl⟩
    ·have:x=j:=by rw[hjd,←((m.h.does x _ hx).receiver (m.h.novac ⟨_,hx⟩) hw').1]
     rw[this,ConcN.upd_same];exact Nat.one_ne_zero
    ·exact(nosend x m' k' hx).elim
   have hcc1:(W.setChan c 1 #[V] false (s0+1) s0 false).heap[c]? = some (.chan 1 #[V] false (s0+1) s0 false):=heap_setChan_self W hcc ..;have t2:=t1.one (p:=p) m.atw (s':=k) (fs':=fs') (FS':=FS') (by rw[ep];exact k3) (by rw[ep];exact hdn) hc (y':=.full (.val v)) (W':=W.setChan c 1 #[V] false (s0+1) s0 false) (λB hB=>heap_setChan_ne W _ _ _ _ _ _ (Ne.symm hB)) (by simp[World.setChan]) rfl rfl rfl ⟨c,s0,v,V,hc,rfl,hκ,hcap,hcc1⟩ nw
    (gs':=(gs.setIfInBounds (ι j) (gorL (D j).FS)).setIfInBounds (ι p) (gorL FS')) (by simp) (by simp[ltp]) (λx hx=>by rw[Array.getElem?_setIfInBounds_ne (Ne.symm hx)]) (λg=>rfl) (t1.tr.pend_ hpend)
   have d2:Net.upd D1 p ⟨⟨fs',(D1 p).σ.w,(D1 p).σ.lp⟩,(D1 p).β,FS',gorL FS'⟩ j = { D j with g:=gorL (D j).FS }:=(Net.upd_ne _ _ hjp).trans e2;generalize Net.upd D1 p ⟨⟨fs',(D1 p).σ.w,(D1 p).σ.lp⟩,(D1 p).β,FS',gorL FS'⟩=D2 at t2 d2;have hS1j:(Net.St.mk (Net.upd S.st p (.run k)) (Net.upd S.ch b (.full (.val v)))).st j=.run (.get b G kj):=(Net.upd_ne _ _ hjp).trans hj;have hmv2:Net.Move K.R ⟨Net.upd S.st p (.run k),Net.upd S.ch b (.full (.val v))⟩ j (W.tape,0,0) ⟨Net.upd (Net.upd S.st p (.run k)) j (.run (kj (.val v))),Net.upd (Net.upd S.ch b (.full (.val v))) b .spent⟩:=
    Net.Move.mk hS1j (.get b G kj (.val v) hG) ⟨λq x x' e=>(by cases e),λb' y y' e=>by cases e;exact⟨Net.upd_same _ _ _,hrr⟩⟩
   have qj:ConcN.upd (ConcN.upd q (ι j) 1) (ι p) 1 (ι j)=1:=(ConcN.upd_ne _ _ hι).trans (ConcN.upd_same _ _ _);have qp:ConcN.upd (ConcN.upd q (ι j) 1) (ι p) 1 (ι p)=1:=ConcN.upd_same _ _ _;let u:Trace:=#[{ g:=ι p,fn:=(gorL (D p).FS).frame.fn,pos:=(gorL (D p).FS).frame.place,act:=.send c s0 },{ g:=ι j,fn:=(gorL (D j).FS).frame.fn,pos:=(gorL (D j).FS).frame.place,act:=.recv c s0 1 },{ g:=ι p,fn:=(gorL (D p).FS).frame.fn,pos:=(gorL (D p).FS).frame.place,act:=.sendDone c s0 },{ g:=ι j,fn:=(gorL (D j).FS).frame.fn,pos:=(gorL (D j).FS).frame.place,act:=.recvDone c s0 }]
   have huq:∀op∈u,op.act.touch? = none/\op.act≠.mark .disable/\op.act≠.mark .enable:=quiet4 (a:=0);have hcc2:(W.setChan c 1 #[] false (s0+1) (s0+1) false).heap[c]? = some (.chan 1 #[] false (s0+1) (s0+1) false):=heap_setChan_self W hcc ..;have t3:=t2.one (p:=j) ⟨_,hS1j⟩ (s':=kj (.val v)) (fs':=nx v true) (FS':=FSj) (by rw[d2];exact g1) (by rw[d2];exact hdnj v hG) hc (y':=.spent) (W':=W.setChan c 1 #[] false (s0+1) (s0+1) false)
    (λB hB=>(heap_setChan_ne W _ _ _ _ _ _ (Ne.symm hB)).trans (heap_setChan_ne W _ _ _ _ _ _ (Ne.symm hB)).symm) (by simp[World.setChan]) rfl rfl rfl ⟨c,s0+1,hc,by rw[hcap];exact hcc2⟩ (λx s hx hxj hwt=>?_)
    (gs':=(gs.setIfInBounds (ι j) (gorL FSj)).setIfInBounds (ι p) (gorL FS')) (by simp) (by rw[Array.getElem?_setIfInBounds_ne (Ne.symm hι)];simp[ltj]) (λx hx=>?_) (t':=t++u) (λg=>Deaf_quiet t g u λop h=>(huq op h).2)
    ((t2.tr.quiet huq).pend_ λx ⟨b',h1,h2⟩=>by
     refine⟨b',?_,h2⟩;rw[Net.upd_ne _ _ λe=>?_]
     ·exact h1
     ·subst e;rw[show (Net.St.mk (Net.upd S.st p (.run k)) (Net.upd S.ch b' (.full (.val v)))).ch b'=.full (.val v) from Net.upd_same _ _ _] at h1;cases h1)
   ·exact⟨_,_,_,_,hrT,m.nx2 p _ _ j _ _ hmv hmv2 _ _ _ _ _ _ _ _ sl t3⟩
   ·by_cases hxp:x=p
    ·subst hxp;rw[qp];exact Nat.one_ne_zero
    ·have hx':S.st x=.run s:=(Net.upd_ne S.st (.run k) hxp).symm.trans hx;rcases hwt with⟨fl',hw'⟩|⟨m',k',rfl⟩
     ·have:x=j:=by rw[hjd,←((m.h.does x _ hx').receiver (m.h.novac ⟨_,hx'⟩) hw').1]
      exact absurd this hxj
     ·exact(nosend x m' k' hx').elim
   ·by_cases hxp:x=ι p
    ·subst hxp;simp[ltp]
    ·rw[Array.getElem?_setIfInBounds_ne (Ne.symm hxp),Array.getElem?_setIfInBounds_ne (Ne.symm hx),Array.getElem?_setIfInBounds_ne (Ne.symm hxp),Array.getElem?_setIfInBounds_ne (Ne.symm hx)]
  | recv b G kj=>obtain⟨_,e⟩:=hw;rw[hfl] at e;cases e
  | shut b kj=>obtain⟨_,e⟩:=hw;rw[hfl] at e;cases e
  | _=>exact hw.elim
 ·have hrT:=crowd_send_room (P:=P) (sl:=sl) (m.h.gat p m.atw) ((m.same _ W).trans (k2 _ W)) hcc (by simp) (m.h.noReceiver hc λs fl h1 h2 h3=>hr ⟨s,fl,h1,h2,h3⟩);have eb:(#[]:Array Value).push V=#[V]:=rfl;rw[eb,finishComm_send,k5,ofEvents_nil,Array.empty_append] at hrT;refine⟨_,_,_,_,hrT,m.nx p _ _ hmv _ _ _ _ _ _ _ _ sl (m.h.one m.atw k3 hdn hc (y':=.full (.val v)) (λB hB=>heap_setChan_ne W _ _ _ _ _ _ (Ne.symm hB)) (by simp[World.setChan]) rfl rfl rfl ⟨c,s0,v,V,hc,rfl,hκ,hcap,heap_setChan_self W hcc ..⟩ (λx s hx hxp hwt hq0=>?_) (by simp) (by simp[ltp]) (λx hx=>by rw[Array.getElem?_setIfInBounds_ne (Ne.symm hx)]) (λg=>Deaf_quiet t g _ (by simp)) ((m.h.tr.quiet (by simp[MemAct.touch?])).pend_ hpend))⟩;rcases hwt with⟨fl',hw'⟩|⟨m',k',rfl⟩
  ·have:=((m.h.does x _ hx).receiver (m.h.novac ⟨_,hx⟩) hw').1;exact hr ⟨s,fl',by rw[this];exact hx,hw',by rw[this];exact hq0⟩
  ·exact nosend x m' k' hx
theorem Mv.goes {p:Nat}{s:Scr Tpe Msg}(m:Mv P FN Post K N0 W0 κ S ν ι D Sh gs W t q p s)(hs:s≠.done)(sl:Option (Nat × Nat)):Goes1 P Post (ι p) gs W sl t:=by
 cases s with
 | step F=>exact m.step sl
 | mk a k=>exact m.mk_ sl
 | fork n c k=>exact m.fork sl
 | send a m0 k=>exact m.send sl
 | recv a G k=>exact m.recv sl
 | close a=>exact m.close sl
 | shut a k=>exact m.shut sl
 | put a m0 k=>exact m.put sl
 | get a G k=>exact m.get sl
 | done=>exact absurd rfl hs
theorem MI.some_ (h:MI P FN K N0 W0 κ S ν ι D Sh gs W t q)(ho:OP K.R S):∃p,AtWork S p/\0<q (ι p):=by
 have key:∀p s,S.st p=.run s->q (ι p)=0->(∃a m k,s=.send a m k)\/∃a fl,wants s a fl:=λp s hp hq=>by
  have hsit:=h.sit p s hp;rw[hq] at hsit;generalize hz:0=z at hsit;generalize (D p).g=g at hsit;cases hsit with
  | psend hs _ _=>exact .inl ⟨_,_,_,hs⟩
  | precv hw _ _=>exact .inr ⟨_,_,hw⟩
  | _=>cases hz
 refine Classical.byContradiction λhn=>?_
 have hz:∀p,AtWork S p->q (ι p)=0:=λp hp=>by
  rcases Nat.eq_zero_or_pos (q (ι p)) with e|e
  ·exact e
  ·exact(hn ⟨p,hp,e⟩).elim
 rcases ho.cases_ (W0.tape,0,0) with hf|⟨i,hi⟩
 ·rcases key 0 _ hf.zero (hz 0 h.main) with⟨_,_,_,e⟩ | ⟨_,_,e⟩
  ·cases e
  ·exact e
 ·obtain⟨T,hT⟩:=hi (W0.tape,0,0);obtain⟨e,ac,p⟩:=hT;rename_i s A;rcases key i s e (hz i ⟨_,e⟩) with⟨a,m,k,rfl⟩|⟨a,fl,hw⟩
  ·cases ac with
   | send _ _ _ G k' hG=>
    have hj:=(p.p _ _ _ rfl).1;exact h.pk a i _ m k _ e (hz i ⟨_,e⟩) hj ⟨true,rfl,rfl⟩ (hz _ ⟨_,hj⟩)
  ·have ho:=h.pr i s a fl e hw (hz i ⟨_,e⟩);cases ac with
   | shut b k=>
    obtain⟨rfl,_⟩:=hw;have:=(p.c _ _ _ rfl).1;rw[ho] at this;cases this
   | get b G k m hG=>
    obtain⟨rfl,_⟩:=hw;have:=(p.c _ _ _ rfl).1;rw[ho] at this;cases this
   | _=>exact hw
theorem net_ends (hD:∀fs w,K.D fs w->CEnds P FN N0 W0 Post [] fs w){Inv:Net.St Tpe Msg->Prop}(hI:∀S T i t,Inv S->Net.Move K.R S i t T->Inv T)(hF:∀S,Inv S->S.st 0=.run .done->Net.Final S){S:Net.St Tpe Msg}(hO:OP K.R S)(hi:Inv S):NGoal P FN Post K N0 W0 κ S:=by
 have hacc:=hO.acc (W0.tape,0,0);suffices hs:NGoal P FN Post K N0 W0 κ S/\∀i t T,Net.Move K.R S i t T->NGoal P FN Post K N0 W0 κ T from hs.1
 induction hacc with
 | intro S _ ih=>
  have nx:∀i t T,Net.Move K.R S i t T->NGoal P FN Post K N0 W0 κ T/\∀j u U,Net.Move K.R T j u U->NGoal P FN Post K N0 W0 κ U:=λi t T hm=>ih T ⟨i,t,hm⟩ (hO.move hm) (hI S T i t hi hm)
  refine⟨?_,λi t T hm=>(nx i t T hm).1⟩;intro ν ι D Sh gs W t q sl h;generalize hM:sumTo gs.size q=M;induction M using Nat.strongRecOn generalizing D gs W t q sl with
  | _ M ihM=>
   obtain⟨d,sl',hpk⟩:=h.pick (h.some_ hO) sl;rcases hpk with⟨p,⟨s,hs⟩,hq,hst⟩|⟨gs',ops,q',hst,h',hlt,_⟩
   ·have hd:=h.at_ d;have mv:(∀m W,stepG P m (D p).g W=stepG P m (gorL (D p).FS) W)->((∀a fl,¬wants s a fl)->(D p).g=gorL (D p).FS)->s≠.done->Ends P Post gs W sl t:=λhsame hgl hne=>by
     have m:Mv P FN Post K N0 W0 κ S ν ι D Sh gs (W.at d) t q p s:=⟨hd,hs,hsame,hq,hO.notBad (W0.tape,0,0),hgl,λi t T hm=>(nx i t T hm).1,λi t T j u U hm hm2=>(nx i t T hm).2 j u U hm2,λi t T hm=>(hO.move hm).notBad (W0.tape,0,0),λD' gs' t' q' sl2 hmi hsz hlt=>ihM (sumTo gs'.size q') (by rw[hsz];omega) D' gs' (W.at d) t' q' sl2 hmi rfl⟩
     obtain⟨gs',W',sl2,ops,h1,h2⟩:=m.goes hne sl';exact run_more (hst.trans h1) h2
    have hsit:=h.sit p s hs;have hlt:ι p<gs.size:=(Array.getElem?_eq_some_iff.1 (h.gat p ⟨s,hs⟩)).1;have fin:s=.done->(D p).g=gorL (D p).FS->Ends P Post gs W sl t:=λe hgl=>by
     subst e;have hdp:=h.does p _ hs;unfold Does at hdp;obtain⟨rfl,hne,hlp,hK⟩:=hdp.resolve_left (h.novac ⟨_,hs⟩);have hf:=hF S hi hs;have only0:∀p',AtWork S p'->p'=0:=λp' ⟨s',hs'⟩=>Classical.byContradiction λe=>hf.rest p' e s' hs'
     have hg0:=h.gr 0 ⟨_,hs⟩;refine hD _ _ hK (D 0).β gs W sl t q ⟨⟨(D 0).FS,?_,hg0.rel⟩,hg0.wr,⟨λi g hi0 hig=>h.lv i g hig λp' hp'=>?_,h.above⟩,h.tr.past ⟨0,⟨_,hs⟩,h.zero⟩ (λg ⟨p',hp',e⟩=>?_) (λc ⟨a,ha,_⟩=>hf.ch a ha),h.n0,λB hB=>(h.old B hB).2,λb B hb hB=>h.frz 0 ⟨_,hs⟩ b B hb (h.old B hB).1,h.os,h.out,h.tp,λc hc=>(by cases hc),.nil⟩
     ·have:=h.gat 0 ⟨_,hs⟩;rw[h.zero,hgl] at this;exact this
     ·rw[only0 p' hp',h.zero];omega
     ·rw[←e,only0 p' hp',h.zero]
    by_cases hdn:s=.done
    ·generalize hk:q (ι p)=k at hsit;generalize hgg:(D p).g=g at hsit;cases hsit with
     | run=>exact fin hdn hgg
     | unborn hg hst0=>
      have hrT:=runT_crowd_go (P:=P) (sl:=sl') (i:=ι p) (hd.gat p ⟨s,hs⟩) (by rw[hgg];exact hst0 _ (W.at d));rw[ofEvents_nil,hd.map_woken λ_ _ _ _=>rfl] at hrT;have t1:=hd.turn hs (g':=gorL (D p).FS) (k':=1) .run (u:=#[]) (by simp) (λe=>by cases e) (λe=>by cases e);have h2:=sumTo_upd q 1 id hlt;have h3:sumTo gs.size (ConcN.upd q (ι p) 1)+q (ι p)=sumTo gs.size q+1:=by simpa using h2
      exact run_more (hst.trans hrT) (ihM (sumTo (gs.setIfInBounds (ι p) (gorL (D p).FS)).size (ConcN.upd q (ι p) 1)) (by simp only[Array.size_setIfInBounds];omega) _ _ _ _ _ _ t1 rfl)
     | psend e _ _=>rw[hdn] at e;cases e
     | precv e _ _=>rw[hdn] at e;exact e.elim
     | wk e=>rw[hdn] at e;exact e.elim
    ·generalize hk:q (ι p)=k at hsit;generalize hgg:(D p).g=g at hsit;cases hsit with
     | run=>exact mv (λm W=>by rw[hgg]) (λ_=>hgg) hdn
     | unborn hg hst0=>
      have hrT:=runT_crowd_go (P:=P) (sl:=sl') (i:=ι p) (hd.gat p ⟨s,hs⟩) (by rw[hgg];exact hst0 _ (W.at d));rw[ofEvents_nil,hd.map_woken λ_ _ _ _=>rfl] at hrT;have t1:=hd.turn hs (g':=gorL (D p).FS) (k':=1) .run (u:=#[]) (by simp) (λe=>by cases e) (λe=>by cases e);have h2:=sumTo_upd q 1 id hlt;have h3:sumTo gs.size (ConcN.upd q (ι p) 1)+q (ι p)=sumTo gs.size q+1:=by simpa using h2
      exact run_more (hst.trans hrT) (ihM (sumTo (gs.setIfInBounds (ι p) (gorL (D p).FS)).size (ConcN.upd q (ι p) 1)) (by simp only[Array.size_setIfInBounds];omega) _ _ _ _ _ _ t1 rfl)
     | psend _ _ _=>omega
     | precv _ _ _=>omega
     | wk hw=>exact mv (λm W=>by rw[hgg];exact stepG_same rfl rfl rfl W) (λhn=>absurd hw (hn _ _)) hdn
   ·exact run_more hst (ihM (sumTo gs'.size q') (by omega) D gs' (W.at d) (t++ops) q' sl' h' rfl)
end
end Go.Fw
end
section
/- A pipe: where its first participant is done, all is done. -/
namespace Go.Net
variable {τ μ:Type} {R:Roles}
def Shs (a:Nat):Scr τ μ->Prop
 | .step F=>∀t,Shs a (F t)
 | .mk _ k=>∀t,Shs a (k t)
 | .fork _ _ k=>Shs a k
 | .send _ _ k=>Shs a k
 | .recv _ G k=>∀m,G m->Shs a (k m)
 | .close _=>False
 | .shut b k=>b=a\/Shs a k
 | .put _ _ k=>Shs a k
 | .get _ G k=>∀m,G m->Shs a (k m)
 | .done=>False
def Fit:Scr τ μ->Nat->Prop
 | .step F,p=>∀t,Fit (F t) p
 | .mk _ k,p=>∀t,Fit (k t) p
 | .fork q c k,p=>((p=0/\q=1/\Shs 2 c)\/(p=1/\q=2))/\Fit c q/\Fit k p
 | .send _ _ k,p=>Fit k p
 | .recv _ G k,p=>∀m,G m->Fit (k m) p
 | .close a,p=>(p=1/\a=0)\/(p=2/\a=2)
 | .shut _ k,p=>Fit k p
 | .put _ _ k,p=>Fit k p
 | .get _ G k,p=>∀m,G m->Fit (k m) p
 | .done,p=>p=0
structure PI (S:St τ μ):Prop where
 fit:∀p s,S.st p=.run s->Fit s p
 far:∀p,3<=p->S.st p=.unborn
 z0:∀s,S.st 0=.run s->Shs 0 s\/S.ch 0=.over
 o1:∀s,S.st 1=.run s->Shs 2 s\/S.ch 2=.over
 l1:S.st 1=.left->S.ch 2=.over
 cl:∀a,S.ch a=.closed\/S.ch a=.over->S.st (pipeR.sender a)=.left
 c02:∀a,S.ch a=.closed->a=0\/a=2
theorem PI.final {S:St τ μ}(h:PI S)(hd:S.st 0=.run .done):Final S:=by
 have c0:S.ch 0=.over:=(h.z0 _ hd).resolve_left id;have l1:S.st 1=.left:=h.cl 0 (.inr c0);have c2:=h.l1 l1;have l2:S.st 2=.left:=h.cl 2 (.inr c2);refine⟨hd,λp hp s hs=>?_,λa ha=>?_⟩
 ·rcases Nat.lt_or_ge p 3 with hlt | hge
  ·obtain rfl | rfl:p=1\/p=2:=by omega
   ·rw[l1] at hs;cases hs
   ·rw[l2] at hs;cases hs
  ·rw[h.far p hge] at hs;cases hs
 ·rcases h.c02 a ha with rfl | rfl
  ·rw[c0] at ha;cases ha
  ·rw[c2] at ha;cases ha
theorem app_st_cases {A:Act τ μ}{i:Nat}{S:St τ μ}(p:Nat):(A.app i S).st p=S.st p\/(p=i/\(A.app i S).st p=A.s')\/∃x x',A.p=some (p,x,x')/\(A.app i S).st p=x':=by
 by_cases h:∃x x',A.p=some (p,x,x')
 ·obtain⟨x,x',e⟩:=h;exact .inr (.inr ⟨x,x',e,app_st_p e⟩)
 ·by_cases e:p=i
  ·subst e;exact .inr (.inl ⟨rfl,app_st_same λq x x' e e2=>h ⟨x,x',by rw[←e2];exact e⟩⟩)
  ·exact .inl (app_st_ne e λq x x' e e2=>h ⟨x,x',by rw[e2];exact e⟩)
theorem app_ch_cases {A:Act τ μ}{i:Nat}{S:St τ μ}(a:Nat):(A.app i S).ch a=S.ch a\/∃y y',A.c=some (a,y,y')/\(A.app i S).ch a=y':=by
 by_cases h:∃y y',A.c=some (a,y,y')
 ·obtain⟨y,y',e⟩:=h;exact .inr ⟨y,y',e,app_ch_c e⟩
 ·exact .inl (app_ch_ne λb y y' e e2=>h ⟨y,y',by rw[e2];exact e⟩)
theorem PI.move {S T:St τ μ}{i:Nat}{t:τ}(h:PI S)(hm:Move pipeR S i t T):PI T:=by
 have hfw:=λa=>hm.fwd a
 obtain⟨e,ac,pre⟩:=hm;rename_i s A;have over:∀a,S.ch a=.over->(A.app i S).ch a=.over:=λa ha=>by
  rcases hfw a with x|⟨x,_⟩|⟨x,_⟩|⟨x,_⟩|⟨⟨m,x⟩,_⟩
  ·rw[x];exact ha
  all_goals (rw[ha] at x;cases x)
 have left:∀p,S.st p=.left->(A.app i S).st p=.left:=λp hp=>by
  rcases app_st_cases (A:=A) (i:=i) (S:=S) p with x | ⟨rfl,_⟩ | ⟨x,x',hx,_⟩
  ·rw[x];exact hp
  ·rw[e] at hp;cases hp
  ·have:=(pre.p p x x' hx).1;rw[hp] at this;subst this;cases ac<;>cases hx
 have next:∀s1,A.s'=.run s1->(∀a,Shs a s->Shs a s1\/(A.app i S).ch a=.over)/\(∀p,Fit s p->Fit s1 p):=λs1 h1=>by
  cases ac with
  | step F=>cases h1;exact⟨λa hs=>.inl (hs t),λp hf=>hf t⟩
  | mk a k=>cases h1;exact⟨λa hs=>.inl (hs t),λp hf=>hf t⟩
  | fork q c k=>cases h1;exact⟨λa hs=>.inl hs,λp hf=>hf.2.2⟩
  | send a m k G k' hG=>cases h1;exact⟨λa hs=>.inl hs,λp hf=>hf⟩
  | close a=>cases h1
  | shut a k=>
   cases h1;refine⟨λb hs=>?_,λp hf=>hf⟩;rcases hs with rfl|hs
   ·exact .inr (app_ch_c rfl)
   ·exact .inl hs
  | put a m k=>cases h1;exact⟨λa hs=>.inl hs,λp hf=>hf⟩
  | get a G k m hG=>cases h1;exact⟨λa hs=>.inl (hs m hG),λp hf=>hf m hG⟩
 have part:∀q x x',A.p=some (q,x,x')->∃c,x'=.run c/\((∃k,s=.fork q c k/\x=.unborn)\/∃r,x=.run r/\(∀a,Shs a r->Shs a c)/\∀p,Fit r p->Fit c p):=λq x x' hx=>by
  cases ac with
  | fork q c k=>cases hx;exact⟨c,rfl,.inl ⟨k,rfl,rfl⟩⟩
  | send a m k G k' hG=>cases hx;exact⟨_,rfl,.inr ⟨_,rfl,λa hs=>hs m hG,λp hf=>hf m hG⟩⟩
  | _=>cases hx
 have hfi:=h.fit i s e;have run:∀p s1,(A.app i S).st p=.run s1->Fit s1 p/\((∃r,S.st p=.run r/\∀a,Shs a r->Shs a s1\/(A.app i S).ch a=.over)\/(S.st p=.unborn/\((p=1/\Shs 2 s1)\/p=2))):=λp s1 h1=>by
  rcases app_st_cases (A:=A) (i:=i) (S:=S) p with x | ⟨rfl,x⟩ | ⟨x,x',hx,hx2⟩
  ·rw[x] at h1;exact⟨h.fit p s1 h1,.inl ⟨s1,h1,λa ha=>.inl ha⟩⟩
  ·rw[x] at h1;obtain⟨g1,g2⟩:=next s1 h1
   exact⟨g2 _ hfi,.inl ⟨s,e,g1⟩⟩
  ·rw[hx2] at h1;subst h1;obtain⟨c,hc,hk⟩:=part p x _ hx;cases hc;have hS:=(pre.p p x _ hx).1;rcases hk with⟨k,rfl,rfl⟩|⟨r,rfl,g1,g2⟩
   ·obtain⟨f1,f2,_⟩:=hfi;refine⟨f2,.inr ⟨hS,?_⟩⟩;rcases f1 with⟨_,f3,f4⟩|⟨_,f3⟩
    ·exact .inl ⟨f3,f4⟩
    ·exact .inr f3
   ·exact⟨g2 p (h.fit p r hS),.inl ⟨r,hS,λa ha=>.inl (g1 a ha)⟩⟩
 have leaves:∀p,(A.app i S).st p=.left->S.st p=.left\/(p=i/\∃a,s=.close a):=λp h1=>by
  rcases app_st_cases (A:=A) (i:=i) (S:=S) p with x | ⟨rfl,x⟩ | ⟨x,x',hx,hx2⟩
  ·rw[x] at h1;exact .inl h1
  ·rw[x] at h1;cases ac with
   | close a=>exact .inr ⟨rfl,a,rfl⟩
   | _=>cases h1
  ·rw[hx2] at h1;subst h1;obtain⟨c,hc,_⟩:=part p x _ hx;cases hc
 have closes:∀a,(A.app i S).ch a=.closed->S.ch a=.closed\/s=.close a:=λa h1=>by
  rcases app_ch_cases (A:=A) (i:=i) (S:=S) a with x | ⟨y,y',hy,hy2⟩
  ·rw[x] at h1;exact .inl h1
  ·rw[hy2] at h1;subst h1;cases ac<;>cases hy
   exact .inr rfl
 refine⟨λp s1 h1=>(run p s1 h1).1,λp hp=>?_,λs1 h1=>?_,λs1 h1=>?_,λh1=>?_,λa h1=>?_,λa h1=>?_⟩
 ·have hu:=h.far p hp;rcases app_st_cases (A:=A) (i:=i) (S:=S) p with x | ⟨rfl,_⟩ | ⟨x,x',hx,_⟩
  ·rw[x];exact hu
  ·rw[e] at hu;cases hu
  ·have hS:=(pre.p p x x' hx).1;rw[hu] at hS;subst hS;obtain⟨c,_,hk⟩:=part p _ x' hx;rcases hk with⟨k,rfl,_⟩|⟨r,hr,_⟩
   ·rcases hfi.1 with⟨_,f3,_⟩ | ⟨_,f3⟩<;>omega
   ·cases hr
 ·rcases(run 0 s1 h1).2 with⟨r,hr,g⟩ | ⟨_,⟨hx,_⟩ | hx⟩
  ·rcases h.z0 r hr with x | x
   ·exact g 0 x
   ·exact .inr (over 0 x)
  ·omega
  ·omega
 ·rcases(run 1 s1 h1).2 with⟨r,hr,g⟩ | ⟨_,⟨_,hx⟩ | hx⟩
  ·rcases h.o1 r hr with x | x
   ·exact g 2 x
   ·exact .inr (over 2 x)
  ·exact .inl hx
  ·omega
 ·rcases leaves 1 h1 with x | ⟨hi,a,rfl⟩
  ·exact over 2 (h.l1 x)
  ·subst hi;exact over 2 ((h.o1 _ e).resolve_left id)
 ·by_cases hc:S.ch a=.closed\/S.ch a=.over
  ·exact left _ (h.cl a hc)
  ·rcases app_ch_cases (A:=A) (i:=i) (S:=S) a with x | ⟨y,y',hy,hy2⟩
   ·rw[x] at h1;exact absurd h1 hc
   ·have hS:=(pre.c a y y' hy).1;rw[hy2] at h1;cases ac with
    | close b=>
     cases hy;have:pipeR.sender a=i:=(pre.c a _ _ rfl).2;rw[this];exact app_st_same λq x x' e=>by cases e
    | shut b k=>cases hy;exact absurd (.inl hS) hc
    | step F=>cases hy
    | fork q c k=>cases hy
    | mk b k=>cases hy;rcases h1 with h1 | h1<;>cases h1
    | send b m k G k' hG=>cases hy;rcases h1 with h1 | h1<;>cases h1
    | put b m k=>cases hy;rcases h1 with h1 | h1<;>cases h1
    | get b G k m hG=>cases hy;rcases h1 with h1 | h1<;>cases h1
 ·rcases closes a h1 with x | rfl
  ·exact h.c02 a x
  ·rcases hfi with⟨_,f⟩ | ⟨_,f⟩
   ·exact .inl f
   ·exact .inr f
theorem steps_fit {K:Scr τ μ->Prop}{s:Scr τ μ}{p:Nat}(h:Steps K s)(hK:∀k,K k->Fit k p):Fit s p:=by
 induction h with
 | step F _ ih=>exact λt=>ih t
 | base h=>exact hK _ h
theorem steps_shs {K:Scr τ μ->Prop}{s:Scr τ μ}{a:Nat}(h:Steps K s)(hK:∀k,K k->Shs a k):Shs a s:=by
 induction h with
 | step F _ ih=>exact λt=>ih t
 | base h=>exact hK _ h
theorem snd_fit {a p:Nat}{L:List (μ->Prop)}{s:Scr τ μ}(h:SndS a L s)(hp:(p=1/\a=0)\/(p=2/\a=2)):Fit s p:=by
 induction h with
 | step F _ ih=>exact λt=>ih t
 | send _ _ ih=>exact ih
 | close=>exact hp
theorem rcv_fit {a p:Nat}{K:Scr τ μ->Prop}{L:List (μ->Prop)}{s:Scr τ μ}(h:RcvS a K L s)(hK:∀k,K k->Fit k p):Fit s p:=by
 induction h with
 | step F _ ih=>exact λt=>ih t
 | recv _ ih=>exact λm hm=>ih m hm
 | @shut k h=>exact(show Fit k p from hK k h)
theorem rcv_shs {a:Nat}{K:Scr τ μ->Prop}{L:List (μ->Prop)}{s:Scr τ μ}(h:RcvS a K L s):Shs a s:=by
 induction h with
 | step F _ ih=>exact λt=>ih t
 | recv _ ih=>exact λm hm=>ih m hm
 | shut h=>exact .inl rfl
theorem put_fit {Q1:μ->Prop}{L0:List (μ->Prop)}{s:Scr τ μ}(h:PutS Q1 L0 s):Fit s 1:=
 steps_fit h λk ⟨m,k',e,_,hs⟩=>by subst e;show Fit k' 1;exact snd_fit hs (.inl ⟨rfl,rfl⟩)
theorem mid_fit {Q1:μ->Prop}{L0:List (μ->Prop)}{s:Scr τ μ}(h:MidS Q1 L0 s):Fit s 1/\Shs 2 s:=by
 refine⟨steps_fit h λk ⟨k',e,hk⟩=>?_,steps_shs h λk ⟨k',e,hk⟩=>?_⟩
 ·subst e;intro t;refine steps_fit (hk t) λk2 ⟨c,k3,L2,e2,hc,hr⟩=>?_
  subst e2;exact⟨.inr ⟨rfl,rfl⟩,snd_fit hc (.inr ⟨rfl,rfl⟩),rcv_fit hr λ_=>put_fit⟩
 ·subst e;intro t;refine steps_shs (hk t) λk2 ⟨c,k3,L2,e2,hc,hr⟩=>?_
  subst e2;exact rcv_shs (s:=k3) hr
theorem end_fit {Q1:μ->Prop}{L0:List (μ->Prop)}{s:Scr τ μ}(h:EndS Q1 L0 s):Fit s 0/\Shs 0 s:=by
 refine⟨steps_fit h λk ⟨k',e,hk⟩=>?_,steps_shs h λk ⟨k',e,hk⟩=>?_⟩
 ·subst e;exact λm hm=>rcv_fit (hk m hm) λ_ hd=>steps_fit hd λ_ e=>by subst e;rfl
 ·subst e;exact λm hm=>rcv_shs (hk m hm)
theorem main_pi {Q1:μ->Prop}{L0:List (μ->Prop)}{s:Scr τ μ}(h:MainS Q1 L0 s):PI (start s):=by
 have hf:Fit s 0/\Shs 0 s:=by
  refine⟨steps_fit h λk ⟨k1,e,hk⟩=>?_,steps_shs h λk ⟨k1,e,hk⟩=>?_⟩
  ·subst e;intro t;refine steps_fit (hk t) λk2 ⟨k3,e2,hk3⟩=>?_
   subst e2;intro t;refine steps_fit (hk3 t) λk4 ⟨c,k5,e4,hc,hk5⟩=>?_
   subst e4;exact⟨.inl ⟨rfl,rfl,(mid_fit hc).2⟩,(mid_fit hc).1,(end_fit hk5).1⟩
  ·subst e;intro t;refine steps_shs (hk t) λk2 ⟨k3,e2,hk3⟩=>?_
   subst e2;intro t;refine steps_shs (hk3 t) λk4 ⟨c,k5,e4,hc,hk5⟩=>?_
   subst e4;exact(end_fit hk5).2
 have st:∀p,(start s).st p=if p=0 then .run s else .unborn:=λp=>rfl
 have ch:∀a,(start s).ch a=.none:=λa=>rfl
 refine⟨λp s1 h1=>?_,λp hp=>by rw[st,if_neg (by omega)],λs1 h1=>?_,λs1 h1=>?_,λh1=>?_,λa h1=>?_,λa h1=>?_⟩
 ·rw[st] at h1;by_cases e:p=0
  ·subst e;rw[if_pos rfl] at h1;cases h1;exact hf.1
  ·rw[if_neg e] at h1;cases h1
 ·rw[st,if_pos rfl] at h1;cases h1;exact .inl hf.2
 ·rw[st,if_neg (by decide)] at h1;cases h1
 ·rw[st,if_neg (by decide)] at h1;cases h1
 ·rw[ch] at h1;rcases h1 with h1 | h1<;>cases h1
 ·rw[ch] at h1;cases h1
end Go.Net
end
section
/- A network begins where goroutine 0 is alone; senders and receivers of values as scripts. -/
namespace Go.Fw
open Go Go.Conc Go.Net
open Go.ConcN (sumTo sumTo_upd)
variable {P:Program} {FN:FuncId->Bool}
section
variable {N0:Nat} {W0:World} {Post:Value->World->Prop}
theorem CEnds.net {fs:List Frame}{w:World}
  (h:∀(β:Ren P.globals.size) (FS:List Frame) (W:World),FrsR P FN β fs FS->WR FN β w W->∃(K:Cfg) (s:Scr Tpe Msg) (Q1:Msg->Prop) (L0:List (Msg->Prop)),K.R=pipeR/\(K.X0 0/\K.X0 P.globals.size)/\(∀b,K.X0 b->β.f b≠none)/\
   (∀fs w,K.D fs w->CEnds P FN N0 W0 Post [] fs w)/\Does P FN K (λ_=>none) 0 s ⟨fs,w,λ_=>none⟩/\MainS Q1 L0 s):CEnds P FN N0 W0 Post [] fs w:=by
 intro β gs W sl t q hc;obtain⟨FS,hg0,hfs⟩:=hc.g0;obtain⟨K,s,Q1,L0,hR,hx0,hdom,hD,hdo,hs⟩:=h β FS W hfs hc.wr;have hO:OP K.R (Net.start s):=by rw[hR];exact op_pipe hs
 have aw:∀p,AtWork (Net.start s) p->p=0:=λp ⟨s',h'⟩=>Classical.byContradiction λe=>by
  have:(Net.start s).st p=.unborn:=if_neg e;rw[this] at h';cases h'
 have st0:(Net.start s).st 0=.run s:=rfl;have nz:∀p s',(Net.start s).st p=.run s'->p=0/\s'=s:=λp s' h'=>by
  have e:=aw p ⟨s',h'⟩;subst e;rw[st0] at h';cases h';exact⟨rfl,rfl⟩
 refine net_ends (κ:=β.res K.X0 hx0) hD (Inv:=PI) (λS T i t hi hm=>PI.move hi (by rw[hR] at hm;exact hm)) (λS hi hd=>hi.final hd) hO (main_pi hs) (λ_=>none) id (λ_=>⟨⟨fs,w,λ_=>none⟩,β,FS,gorL FS⟩) (λB=>B<N0) gs W t (ConcN.upd q 0 1) sl ?_;refine { zero:=rfl,main:=⟨s,rfl⟩,inj:=λp p' h1 h2 _=>by rw[aw p h1,aw p' h2],gat:=λp h1=>?_,sit:=λp s' h1=>?_,does:=λp s' h1=>?_,gr:=λp _=>⟨hfs,hc.wr,λl o hl=>by cases hl⟩,le:=λp _=>res_le,x0:=hx0,dom:=λb hb=>?_,kx:=λb B hb=>(res_some (hX:=hx0) hb).1,sep:=λp p' h1 h2 hne=>absurd (by rw[aw p h1,aw p' h2]) hne,frz:=λp _ b B hb hB=>hc.oldf b B hb hB,shlt:=λB hB=>Nat.lt_of_lt_of_le hB hc.n0,lps:=λp p' h1 h2 l h3=>absurd rfl h3,lp0:=λp _ l h3=>absurd rfl h3,lpsh:=λp _ l h3=>absurd rfl h3,chan:=λa=>rfl,ch0:=λa c hx=>(by cases hx),chi:=λa b c hx=>(by cases hx),n0:=hc.n0,old:=λB hB=>⟨hB,hc.old B hB⟩,os:=hc.os,out:=hc.out,tp:=hc.tp,lv:=λi g hi hn=>?_,above:=hc.lv.above,tr:=?_,pk:=λa i j m k s' h1 h2=>?_,pr:=λj s' a fl h1 h2 h3=>?_,ps:=λi a m k h1 h2=>?_ }
 ·rw[aw p h1];exact hg0
 ·obtain⟨rfl,rfl⟩:=nz p s' h1;show Sit P _ _ _ (ConcN.upd q 0 1 0) _;rw[ConcN.upd_same];exact .run
 ·obtain⟨rfl,rfl⟩:=nz p s' h1;exact hdo
 ·rw[res_f hb];exact hdom b hb
 ·have hi0:i≠0:=λe=>hn 0 ⟨s,rfl⟩ e.symm
  rw[ConcN.upd_ne q 1 hi0];exact hc.lv.old i g (by omega) hi
 ·have e1:(λg=>∃p,AtWork (Net.start s) p/\id p=g)=λg=>g=0:=funext λg=>propext ⟨λ⟨p,h1,h2⟩=>(by rw[←h2,aw p h1];rfl),λe=>⟨0,⟨s,rfl⟩,e.symm⟩⟩
  have e2:(λc=>∃a,(Net.start s).ch a=.closed/\(λ_:Nat=>(none:Option Nat)) a=some c)=λ_=>False:=funext λc=>propext ⟨λ⟨a,_,h2⟩=>(by cases h2),False.elim⟩
  rw[e1,e2];exact NT.start hc.past rfl
 ·obtain⟨rfl,_⟩:=nz i _ h1;have h2:ConcN.upd q 0 1 0=0:=h2;rw[ConcN.upd_same] at h2;cases h2
 ·obtain⟨rfl,_⟩:=nz j _ h1;have h3:ConcN.upd q 0 1 0=0:=h3;rw[ConcN.upd_same] at h3;cases h3
 ·obtain⟨rfl,_⟩:=nz i _ h1;have h2:ConcN.upd q 0 1 0=0:=h2;rw[ConcN.upd_same] at h2;cases h2
end
def valQ (v:Value):Msg->Prop:=λm=>m=.val v
theorem snd_inh (a:Nat)(L:List Value):∃s:Scr Tpe Msg,SndS a (L.map valQ) s:=by
 induction L with
 | nil=>exact⟨_,.close⟩
 | cons v L ih=>obtain⟨s,hs⟩:=ih;exact⟨_,.send (m:=.val v) (show valQ v (.val v) from rfl) hs⟩
theorem rcv_inh (a:Nat){C:Scr Tpe Msg->Prop}(hC:∃s,C s)(L:List (Msg->Prop)):∃s:Scr Tpe Msg,RcvS a C L s:=by
 induction L with
 | nil=>obtain⟨s,hs⟩:=hC;exact⟨_,.shut hs⟩
 | cons v L ih=>obtain⟨s,hs⟩:=ih;exact⟨.recv a v λ_=>s,.recv λm _=>hs⟩
theorem snd_does {K:Cfg}{ν:Nat->Option Nat}{i a c:Nat}(hs:K.R.sender a=i)(hi:i≠0)(hcap:K.cap a=0)(hc:ν a=some c)(lp:Nat->Option Obj){L:List Value}{fs:List Frame}{w:World}(h:Snd P FN c L fs w)(hL:∀v∈L,InX FN P.globals.size K.X0 v) :
  ∃s,Does P FN K ν i s ⟨fs,w,lp⟩/\SndS a (L.map valQ) s:=by
 induction h with
 | step F G hne hneF hsim _ ih=>
  refine⟨.step λtp=>Classical.choose (ih tp.1 hL),?_,.step _ λtp=>(Classical.choose_spec (ih tp.1 hL)).2⟩;unfold Does;exact .inr ⟨hne,λtp _ _=>⟨F tp,G tp,lp⟩,λtp _ _=>hneF tp,λtp=>simG_of lp (hsim tp),λtp _ _=>(Classical.choose_spec (ih tp hL)).1⟩
 | @send v L fs fs' w hne hsim _ ih=>
  obtain⟨s,h1,h2⟩:=ih λv hv=>hL v (List.mem_cons_of_mem _ hv)
  by_cases hne':fs'=[]
  ·refine⟨.send a (.val v) s,.vac λβ FS W hg=>?_,.send (show valQ v (.val v) from rfl) h2⟩;obtain⟨V,Z,FS',_,_,g3,g4,_⟩:=hsim β FS hg.rel;subst hne';cases g3;exact g4 rfl
  ·refine⟨.send a (.val v) s,?_,.send (show valQ v (.val v) from rfl) h2⟩;unfold Does;exact .inr ⟨hs,hcap,hne,c,v,fs',w,hc,hne',hsim,⟨rfl,hL v List.mem_cons_self,rfl⟩,h1⟩
 | close hne hsim=>
  refine⟨.close a,?_,.close⟩;unfold Does;exact .inr ⟨hs,hi,hcap,hne,c,hc,hsim⟩
 | vac hv=>
  obtain⟨s,hs'⟩:=snd_inh a _;exact⟨s,.vac λβ FS W hg=>hv β FS W hg.rel hg.wr,hs'⟩
theorem rcv_does {K:Cfg}(hDt:∀fs w t,K.D fs (tpd w t)->K.D fs w){ν:Nat->Option Nat}{i a c:Nat}(hr:K.R.receiver a=i)(hcap:K.cap a=0)(hc:ν a=some c)(lp:Nat->Option Obj){C:Scr Tpe Msg->Prop}(hC:∃s,C s){K':List Frame->World->Prop}(hK:∀fs w,K' fs w->∃s,Does P FN K ν i s ⟨fs,w,lp⟩/\C s)
  {L:List Value} {fs:List Frame} {w:World} (h:Rcv P FN c K' L fs w):∃s,Does P FN K ν i s ⟨fs,w,lp⟩/\RcvS a C (L.map valQ) s:=by
 induction h with
 | step F G hne hneF hsim _ ih=>
  refine⟨.step λtp=>Classical.choose (ih tp.1),?_,.step _ λtp=>(Classical.choose_spec (ih tp.1)).2⟩;unfold Does;exact .inr ⟨hne,λtp _ _=>⟨F tp,G tp,lp⟩,λtp _ _=>hneF tp,λtp=>simG_of lp (hsim tp),λtp _ _=>(Classical.choose_spec (ih tp)).1⟩
 | @recv v L fs w z nx hne hsim _ ih=>
  obtain⟨s,h1,h2⟩:=ih;refine⟨.recv a (valQ v) λ_=>s,?_,.recv λm _=>h2⟩;unfold Does;refine .inr ⟨hr,hcap,hne,c,z,nx,hc,hsim,λm hm=>?_⟩;cases hm;exact h1
 | @shut fs w z nx hne hsim hk=>
  obtain⟨tp,hk⟩:=hk;obtain⟨s,h1,h2⟩:=hK _ _ hk;refine⟨.shut a s,?_,.shut h2⟩;unfold Does;exact .inr ⟨hr,hcap,hne,c,z,nx,hc,hsim,h1.tp hDt s⟩
 | vac hv=>
  obtain⟨s,hs'⟩:=rcv_inh a hC (List.map valQ _);exact⟨s,.vac λβ FS W hg=>hv β FS W hg.rel hg.wr,hs'⟩
end Go.Fw
end
section
/- A loop over a function, in a network: its record lies outside the private world. -/
namespace Go.Fw
open Go Go.Conc Go.Net
variable {P:Program} {FN:FuncId->Bool}
section
variable {w:World} {l:Nat} {r:Loop}
def wput (w:World)(l:Nat)(o:Obj):World:={ w with heap:=w.heap.setIfInBounds l o }
def ev1 (l:Nat):Array Event:=#[⟨.obj l,false,false⟩]
def ev2 (l:Nat):Array Event:=#[⟨.obj l,false,false⟩,⟨.obj l,true,false⟩]
theorem rt_enter (fn:FuncId)(tmps:Array Value)(ps:Array Tmp)(assign body:Code) :
  (Instr.enterLoop fn tmps ps assign body none).runT P w #[]=(.ok (w.heap.size+1,[{ target:=.collected w.heap.size,args:=#[] }]) ((w.alloc (.deferred (some []))).alloc (.loop { state:=.ready,pending:=none,fn,tmps,params:=ps,assign,body,defers:=w.heap.size })),#[]):=by
 simp only[Instr.enterLoop,newObj,bind,Sem.bind,Sem.runT,pure,Array.size_push];rfl
theorem rt_yield (h:w.heap[l]? = some (.loop r)){args:Array Value}(hs:args.size=r.params.size) :
  (Instr.yield l args).runT P w #[]=(.ok (.round l r.fn ((r.params.zip args).foldl (λtmps (t,a)=>tmps.setIfInBounds t a) r.tmps) r.assign r.body) w,ev1 l):=by
 simp only[Instr.yield,Instr.getLoop,getObj,bind,Sem.bind,pure,Sem.runT,h,hs,ne_eq,not_true_eq_false,if_false];rfl
theorem rt_begin (h:w.heap[l]? = some (.loop r))(hr:r.state=.ready):(Instr.beginRound l).runT P w #[]=(.ok () (wput w l (.loop { r with state:=.busy })),ev2 l):=by
 simp only[Instr.beginRound,Instr.getLoop,getObj,setObj,bind,Sem.bind,pure,Sem.runT,h,hr];rfl
theorem rt_end (h:w.heap[l]? = some (.loop r)):(Instr.endRound l none).runT P w #[]=(.ok (.bool true) (wput w l (.loop { r with state:=.ready,pending:=none })),ev2 l):=by
 simp only[Instr.endRound,Instr.getLoop,getObj,setObj,bind,Sem.bind,pure,Sem.runT,h];rfl
theorem rt_over (h:w.heap[l]? = some (.loop r))(hb:r.state=.ready)(hp:r.pending=none):(Instr.endLoop l).runT P w #[]=(.ok none (wput w l (.loop { r with state:=.exhausted })),ev2 l):=by
 have:(r.state == LoopState.busy)=false:=by rw[hb];rfl
 simp only[Instr.endLoop,Instr.getLoop,getObj,setObj,bind,Sem.bind,pure,Sem.runT,h,this,hp,if_false,Bool.false_eq_true];rfl
theorem rt_take (h:w.heap[l]? = some (.deferred (some []))):(Instr.takeDeferred l).runT P w #[]=(.ok [] (wput w l (.deferred none)),ev2 l):=by
 simp only[Instr.takeDeferred,getObj,setObj,bind,Sem.bind,pure,Sem.runT,h];rfl
theorem wput_self {w:World}{l:Nat}{o:Obj}(h:w.heap[l]? = some o):wput w l o=w:=by
 obtain⟨hlt,rfl⟩:=Array.getElem?_eq_some_iff.1 h;unfold wput;have:w.heap.setIfInBounds l w.heap[l]=w.heap:=by
  apply Array.ext_getElem?;intro i;by_cases e:i=l
  ·subst e;rw[Array.getElem?_setIfInBounds_self_of_lt hlt];exact h.symm
  ·rw[Array.getElem?_setIfInBounds_ne (Ne.symm e)]
 rw[this]
theorem wput_same {w:World}{l:Nat}{o:Obj}(h:l<w.heap.size):(wput w l o).heap[l]? = some o:=by
 show (w.heap.setIfInBounds l o)[l]? = _;rw[Array.getElem?_setIfInBounds_self_of_lt h]
theorem wput_ne {w:World}{l B:Nat}{o:Obj}(h:B≠l):(wput w l o).heap[B]? = w.heap[B]?:=by
 show (w.heap.setIfInBounds l o)[B]? = _;rw[Array.getElem?_setIfInBounds_ne (Ne.symm h)]
theorem wput_size (w:World)(l:Nat)(o:Obj):(wput w l o).heap.size=w.heap.size:=by simp[wput]
theorem ev_loc {l:Nat}{e:Event}(h:e∈ev2 l\/e∈ev1 l):e.loc=.obj l/\e.sync=false:=by
 rcases h with h | h<;>simp only[ev1,ev2,List.mem_toArray,List.mem_cons,List.not_mem_nil,or_false] at h
 ·rcases h with rfl | rfl<;>exact⟨rfl,rfl⟩
 ·subst h;exact⟨rfl,rfl⟩
end
section
variable {K:Cfg} {C:Scr Tpe Msg->Prop} {ν:Nat->Option Nat} {i:Nat} {lp:Nat->Option Obj} {fs:List Frame} {w:World}
theorem Does.back (hD:∀fs w t,K.D fs (tpd w t)->K.D fs w){s:Scr Tpe Msg}(h:Does P FN K ν i s ⟨fs,w,lp⟩)(t:Tape):Does P FN K ν i s ⟨fs,tpd w t,lp⟩:=
 Does.tp hD s (t:=w.tape) (by rw[tpd_tpd,tpd_self];exact h)
theorem JC.own (hD:∀fs w t,K.D fs (tpd w t)->K.D fs w)(hs:∀F,(∀t,C (F t))->C (.step F))(hne:fs≠[])(S:Nat->Nat->Pst)(hneS:∀l r,(S l r).fs≠[])(hsim:∀tp,SimG P FN ⟨fs,tpd w tp,lp⟩ λl r=>⟨(S l r).fs,tpd (S l r).w tp,(S l r).lp⟩)
  (h:∀l r,∃s,Does P FN K ν i s (S l r)/\C s):JC P FN K C ν i lp fs w:=by
 refine⟨.step λtp=>Classical.choose (h tp.2.1 tp.2.2),?_,hs _ λtp=>(Classical.choose_spec (h tp.2.1 tp.2.2)).2⟩;unfold Does;exact .inr ⟨hne,λtp l r=>⟨(S l r).fs,tpd (S l r).w tp,(S l r).lp⟩,λtp l r=>hneS l r,hsim,λtp l r=>Does.back hD (Classical.choose_spec (h l r)).1 tp⟩
theorem JC.put (hD:∀fs w t,K.D fs (tpd w t)->K.D fs w)(hs:∀F,(∀t,C (F t))->C (.step F))(hne:fs≠[]){fs':List Frame}(hne':fs'≠[]){l:Nat}{o o':Obj}(hl:lp l=some o)
  (hst:∀(β:Ren P.globals.size) (FS:List Frame) (W:World) (O:Obj),FrsR P FN β fs FS->W.heap[l]? = some O->SOR FN β o O->∃(O':Obj) (FS':List Frame) (ES:Array Event),SOR FN β o' O'/\FrsR P FN β fs' FS'/\(∀m,stepG P m (gorL FS) W=.go (gorL FS') (wput W l O') ES)/\∀e∈ES,e∈ev2 l\/e∈ev1 l)
  (h:JC P FN K C ν i (Net.upd lp l (some o')) fs' w):JC P FN K C ν i lp fs w:=by
 refine JC.own hD hs hne (λ_ _=>⟨fs',w,Net.upd lp l (some o')⟩) (λ_ _=>hne') (λtp β FS W hg ht=>?_) λ_ _=>h
 obtain⟨O,e1,e2⟩:=hg.lpr l o hl;obtain⟨O',FS',ES,h1,h2,h3,h4⟩:=hst β FS W O hg.rel e1 e2;have hlt:=(Array.getElem?_eq_some_iff.1 e1).1;have hnb:∀b B,β.f b=some B->B≠l:=λb B hb e=>wr_notlp hg hl b (e ▸ hb)
 refine⟨β,FS',wput W l O',ES,0,0,⟨h2,⟨λb B hb=>by rw[wput_ne (hnb b B hb)];exact hg.wr.blk b B hb,hg.wr.gl,by rw[wput_size];exact hg.wr.gr⟩,λm om hm=>?_⟩,⟨Ren.le_refl _,by rw[wput_size];exact Nat.le_refl _,Nat.le_refl _,λB hB hf hn=>wput_ne λe=>?_,λb B hb=>.inl hb,λB hB=>.inl ?_,λB hB=>?_,λb B hb hf=>hf,rfl,rfl,rfl⟩,h3,λe he=>.inr ⟨l,(ev_loc (h4 e he)).1,(ev_loc (h4 e he)).2,?_⟩⟩
 ·by_cases e:m=l
  ·subst e;have hm':Net.upd lp m (some o') m=some om:=hm;rw[Net.upd_same] at hm';cases hm';exact⟨O',wput_same hlt,h1⟩
  ·have hm':Net.upd lp l (some o') m=some om:=hm;rw[Net.upd_ne _ _ e] at hm';obtain⟨O2,g1,g2⟩:=hg.lpr m om hm';exact⟨O2,(wput_ne e).trans g1,g2⟩
 ·subst e;have hn':lp B=none:=hn;rw[hl] at hn';cases hn'
 ·by_cases e:B=l
  ·subst e;show lp B≠none;rw[hl];simp
  ·have hB':Net.upd lp l (some o') B≠none:=hB;rw[Net.upd_ne _ _ e] at hB';exact hB'
 ·show Net.upd lp l (some o') B≠none;by_cases e:B=l
  ·subst e;rw[Net.upd_same];simp
  ·rw[Net.upd_ne _ _ e];exact hB
 ·show Net.upd lp l (some o') l≠none;rw[Net.upd_same];simp
end
end Go.Fw
end
