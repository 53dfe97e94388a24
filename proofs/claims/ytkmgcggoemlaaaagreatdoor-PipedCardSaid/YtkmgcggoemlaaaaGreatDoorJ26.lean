/-
  Part 26 of the common ground of this seat: what single parts show stands ahead of each.
  No condition.
-/
import Derived.Test.YtkmgcggoemlaaaaGreatDoorJ25
set_option linter.unusedSimpArgs false
set_option linter.unusedVariables false
set_option linter.constructorNameAsVariable false
section
/- A network in the machine: one participant and one channel turn. -/
namespace Go.Fw
open Go Go.Conc Go.Net
open Go.ConcN (sumTo sumTo_upd)
variable {P:Program} {FN:FuncId->Bool}
section
variable {K:Cfg} {N0:Nat} {W0:World} {κ:Ren P.globals.size} {S:Net.St Tpe Msg} {ν:Nat->Option Nat} {ι:Nat->Nat} {D:Nat->PD P} {Sh:Nat->Prop} {gs:Array Goroutine} {W:World} {t:Trace} {q:Nat->Nat}
theorem MI.one (h:MI P FN K N0 W0 κ S ν ι D Sh gs W t q){p:Nat}(hp:AtWork S p){s':Scr Tpe Msg}{fs' FS':List Frame}(hr:FrsR P FN (D p).β fs' FS')(hd:Does P FN K ν p s' ⟨fs',(D p).σ.w,(D p).σ.lp⟩)
  {a c:Nat} {y':CS Msg} (hc:ν a=some c) {W':World} (kp:∀B,B≠c->W'.heap[B]? = W.heap[B]?) (hsW:W'.heap.size=W.heap.size) (hos:W'.os=W.os) (hout:W'.output=W.output) (htp:W'.tape=W.tape) (hch:ChR P FN K κ W' ν a y')
  (hnp:∀x s,S.st x=.run s->x≠p->((∃fl,wants s a fl)\/∃m k,s=.send a m k)->q (ι x)≠0)
  {gs':Array Goroutine} (hsz:gs'.size=gs.size) (gp:gs'[ι p]? = some (gorL FS')) (go:∀x,x≠ι p->gs'[x]? = gs[x]?)
  {t':Trace} (hdf:∀g,Deaf t' g=Deaf t g) (hT:NT (λg=>∃p,AtWork S p/\ι p=g) (λg B=>∃p,AtWork S p/\ι p=g/\RngL (D p) B) Sh W.heap.size (λc=>∃b,Net.upd S.ch a y' b=.closed/\ν b=some c) (λc=>∃a,ν a=some c) t') :
  MI P FN K N0 W0 κ ⟨Net.upd S.st p (.run s'),Net.upd S.ch a y'⟩ ν ι (Net.upd D p ⟨⟨fs',(D p).σ.w,(D p).σ.lp⟩,(D p).β,FS',gorL FS'⟩) Sh gs' W' t' (ConcN.upd q (ι p) 1):=by
 obtain⟨S',hS'⟩:∃S':Net.St Tpe Msg,S'=⟨Net.upd S.st p (.run s'),Net.upd S.ch a y'⟩:=⟨_,rfl⟩;obtain⟨D',hD'⟩:∃D',D'=Net.upd D p ⟨⟨fs',(D p).σ.w,(D p).σ.lp⟩,(D p).β,FS',gorL FS'⟩:=⟨_,rfl⟩;have sc:∀b,b≠a->S'.ch b=S.ch b:=λb e=>by rw[hS'];exact Net.upd_ne _ _ e
 have sca:S'.ch a=y':=by rw[hS'];exact Net.upd_same _ _ _
 have scu:S'.ch=Net.upd S.ch a y':=by rw[hS']
 rw[←hS',←hD'];rw[←scu] at hT;have sp:S'.st p=.run s':=by rw[hS'];exact Net.upd_same _ _ _
 have so:∀x,x≠p->S'.st x=S.st x:=λx h1=>by rw[hS'];exact Net.upd_ne _ _ h1
 have dp:D' p=⟨⟨fs',(D p).σ.w,(D p).σ.lp⟩,(D p).β,FS',gorL FS'⟩:=by rw[hD'];exact Net.upd_same _ _ _
 have do':∀x,x≠p->D' x=D x:=λx h1=>by rw[hD'];exact Net.upd_ne _ _ h1
 have live:∀x,AtWork S' x↔AtWork S x:=λx=>by
  by_cases e:x=p
  ·subst e;exact⟨λ_=>hp,λ_=>⟨_,sp⟩⟩
  ·unfold AtWork;rw[so x e]
 have dβ:∀x,(D' x).β=(D x).β:=λx=>by
  by_cases e:x=p
  ·subst e;rw[dp]
  ·rw[do' x e]
 have dw:∀x,(D' x).σ.w=(D x).σ.w:=λx=>by
  by_cases e:x=p
  ·subst e;rw[dp]
  ·rw[do' x e]
 have dl:∀x,(D' x).σ.lp=(D x).σ.lp:=λx=>by
  by_cases e:x=p
  ·subst e;rw[dp]
  ·rw[do' x e]
 have hι:∀x,AtWork S x->x≠p->ι x≠ι p:=λx h1 h2 e=>h2 (h.inj x p h1 hp e)
 have wrk:∀x,AtWork S x->WR FN (D x).β (D x).σ.w W':=λx hx=>by
  have hg:=h.gr x hx;exact⟨λb B hb=>by rw[kp B λe=>h.chrng hc hx (e ▸ ⟨b,hb⟩)];exact hg.wr.blk b B hb,hg.wr.gl,by rw[hsW];exact hg.wr.gr⟩
 have lpk:∀x,AtWork S x->∀l o,(D x).σ.lp l=some o->∃O,W'.heap[l]? = some O/\SOR FN (D x).β o O:=λx hx l o hl=>by
  obtain⟨O,e1,e2⟩:=(h.gr x hx).lpr l o hl;refine⟨O,(kp l λe=>?_).trans e1,e2⟩;have:=h.chlp hc hx;rw[e,this] at hl;cases hl
 refine { h with main:=(live 0).2 h.main,inj:=λx y h1 h2=>h.inj x y ((live x).1 h1) ((live y).1 h2),gat:=λx h1=>?_,sit:=λx s h1=>?_,does:=λx s h1=>?_,gr:=λx h1=>?_,le:=λx h1=>by rw[dβ];exact h.le x ((live x).1 h1),sep:=λx y h1 h2 hne B h3 h4=>by rw[dβ] at h3 h4;exact h.sep x y ((live x).1 h1) ((live y).1 h2) hne B h3 h4,frz:=λx h1 b B hb hB=>by rw[dβ] at hb;rw[dw];exact h.frz x ((live x).1 h1) b B hb hB,shlt:=λB hB=>by rw[hsW];exact h.shlt B hB,lps:=λx y h1 h2 l h3 h4=>by rw[dl] at h3 h4;exact h.lps x y ((live x).1 h1) ((live y).1 h2) l h3 h4,lp0:=λx h1 l h3=>by rw[dl] at h3;exact h.lp0 x ((live x).1 h1) l h3,lpsh:=λx h1 l h3=>by rw[dl] at h3;exact h.lpsh x ((live x).1 h1) l h3,chan:=λb=>?_,n0:=by rw[hsW];exact h.n0,old:=λB hB=>⟨(h.old B hB).1,(kp B (by have:=h.ch0 a c hc;omega)).trans (h.old B hB).2⟩,os:=hos.trans h.os,out:=hout.trans h.out,tp:=htp.trans h.tp,lv:=λx g hx hn=>?_,above:=λx hx=>by rw[hdf];exact h.above x (by rw[←hsz];exact hx),tr:=?_,pk:=λb x y m' k' s1 h1 h2 h3 h4 h5=>?_,pr:=λy s1 b fl h1 h2 h3=>?_,ps:=λx b m' k' h1 h2=>?_ }
 ·by_cases e:x=p
  ·subst e;rw[dp];exact gp
  ·rw[do' x e,go _ (hι x ((live x).1 h1) e)];exact h.gat x ((live x).1 h1)
 ·by_cases e:x=p
  ·subst e;rw[dp,ConcN.upd_same];exact .run
  ·rw[so x e] at h1;rw[do' x e,ConcN.upd_ne q 1 (hι x ⟨s,h1⟩ e)];exact h.sit x s h1
 ·by_cases e:x=p
  ·subst e;rw[sp] at h1;cases h1;rw[dp];exact hd
  ·rw[so x e] at h1;rw[do' x e];exact h.does x s h1
 ·have h1':=(live x).1 h1;by_cases e:x=p
  ·subst e;rw[dp];exact⟨hr,wrk x h1',lpk x h1'⟩
  ·rw[do' x e];exact⟨(h.gr x h1').rel,wrk x h1',lpk x h1'⟩
 ·by_cases eb:b=a
  ·subst eb;rw[sca];exact hch
  ·rw[sc b eb];exact(h.chan b).of_heap λc' hc'=>kp c' λe=>eb (h.chi b a c (by rw[←e];exact hc') hc)
 ·have e1:x≠ι p:=λe=>hn p ((live p).2 hp) e.symm
  rw[go x e1] at hx;rw[ConcN.upd_ne q 1 e1,hdf];exact h.lv x g hx λy h1=>hn y ((live y).2 h1)
 ·have e1:(λg=>∃p,AtWork S' p/\ι p=g)=λg=>∃p,AtWork S p/\ι p=g:=funext λg=>propext ⟨λ⟨p,a,b⟩=>⟨p,(live p).1 a,b⟩,λ⟨p,a,b⟩=>⟨p,(live p).2 a,b⟩⟩
  have e2:(λg B=>∃p,AtWork S' p/\ι p=g/\RngL (D' p) B)=λg B=>∃p,AtWork S p/\ι p=g/\RngL (D p) B:=funext λg=>funext λB=>propext ⟨λ⟨p,a,b,c⟩=>⟨p,(live p).1 a,b,by unfold RngL at c;rw[dβ,dl] at c;exact c⟩,λ⟨p,a,b,c⟩=>⟨p,(live p).2 a,b,by unfold RngL;rw[dβ,dl];exact c⟩⟩
  rw[e1,e2,hsW];exact hT
 ·by_cases ex:x=p
  ·subst ex;rw[ConcN.upd_same] at h2;cases h2
  ·by_cases ey:y=p
   ·subst ey;rw[ConcN.upd_same] at h5;cases h5
   ·rw[so x ex] at h1;rw[so y ey] at h3;rw[ConcN.upd_ne q 1 (hι x ⟨_,h1⟩ ex)] at h2;rw[ConcN.upd_ne q 1 (hι y ⟨_,h3⟩ ey)] at h5;exact h.pk b x y m' k' s1 h1 h2 h3 h4 h5
 ·by_cases ey:y=p
  ·subst ey;rw[ConcN.upd_same] at h3;cases h3
  ·rw[so y ey] at h1;rw[ConcN.upd_ne q 1 (hι y ⟨_,h1⟩ ey)] at h3;by_cases eb:b=a
   ·subst eb;exact absurd h3 (hnp y s1 h1 ey (.inl ⟨fl,h2⟩))
   ·rw[sc b eb];exact h.pr y s1 b fl h1 h2 h3
 ·by_cases ex:x=p
  ·subst ex;rw[ConcN.upd_same] at h2;cases h2
  ·rw[so x ex] at h1;rw[ConcN.upd_ne q 1 (hι x ⟨_,h1⟩ ex)] at h2;by_cases eb:b=a
   ·subst eb;exact absurd h2 (hnp x _ h1 ex (.inr ⟨_,_,rfl⟩))
   ·rw[sc b eb];exact h.ps x b m' k' h1 h2
end
end Go.Fw
end
section
/- A network in the machine: one closes its channel, and leaves. -/
namespace Go.Fw
open Go Go.Conc Go.Net
open Go.ConcN (sumTo sumTo_upd)
variable {P:Program} {FN:FuncId->Bool}
section
variable {K:Cfg} {N0:Nat} {W0:World} {κ:Ren P.globals.size} {S:Net.St Tpe Msg} {ν:Nat->Option Nat} {ι:Nat->Nat} {D:Nat->PD P} {Sh:Nat->Prop} {gs:Array Goroutine} {W:World} {t:Trace} {q:Nat->Nat}
theorem MI.close (h:MI P FN K N0 W0 κ S ν ι D Sh gs W t q){p:Nat}(hp:AtWork S p)(hp0:p≠0){a c s0 k:Nat}(hc:ν a=some c)(hcap:K.cap a=0){g':Goroutine}(hq:QuitsD P k 0 g')
  (hnp:∀x s,S.st x=.run s->x≠p->((∃fl,wants s a fl)\/∃m k,s=.send a m k)->q (ι x)≠0)
  {gs':Array Goroutine} (hsz:gs'.size=gs.size) (gp:gs'[ι p]? = some g') (go:∀x,x≠ι p->gs'[x]? = gs[x]?) {fn:FuncId} {pos:String} :
  MI P FN K N0 W0 κ ⟨Net.upd S.st p .left,Net.upd S.ch a .closed⟩ ν ι D Sh gs' (W.setChan c 0 #[] true s0 s0 false) (t++MemOp.ofEvents (ι p) fn pos (closeEvents c)) (ConcN.upd q (ι p) k):=by
 obtain⟨S',hS'⟩:∃S':Net.St Tpe Msg,S'=⟨Net.upd S.st p .left,Net.upd S.ch a .closed⟩:=⟨_,rfl⟩;obtain⟨W',hW'⟩:∃W',W'=W.setChan c 0 #[] true s0 s0 false:=⟨_,rfl⟩;rw[←hS',←hW'];have sc:∀b,b≠a->S'.ch b=S.ch b:=λb e=>by rw[hS'];exact Net.upd_ne _ _ e
 have sca:S'.ch a=.closed:=by rw[hS'];exact Net.upd_same _ _ _
 have sp:S'.st p=.left:=by rw[hS'];exact Net.upd_same _ _ _
 have so:∀x,x≠p->S'.st x=S.st x:=λx h1=>by rw[hS'];exact Net.upd_ne _ _ h1
 have live:∀x,AtWork S' x↔AtWork S x/\x≠p:=λx=>by
  by_cases e:x=p
  ·subst e;exact⟨λ⟨s,hs⟩=>(by rw[sp] at hs;cases hs),λz=>absurd rfl z.2⟩
  ·unfold AtWork;rw[so x e];exact⟨λz=>⟨z,e⟩,λz=>z.1⟩
 have hι:∀x,AtWork S x->x≠p->ι x≠ι p:=λx h1 h2 e=>h2 (h.inj x p h1 hp e)
 have kp:∀B,B≠c->W'.heap[B]? = W.heap[B]?:=λB hB=>by rw[hW'];exact heap_setChan_ne W 0 #[] true s0 s0 false (Ne.symm hB)
 have hsW:W'.heap.size=W.heap.size:=by rw[hW'];simp[World.setChan]
 have hcc:W'.heap[c]? = some (.chan 0 #[] true s0 s0 false):=by
  obtain⟨cap,buf,cl,s,r,e⟩:=h.chanAt hc;rw[hW'];exact heap_setChan_self W e ..
 have nw:∀e∈closeEvents c,NoWord e:=λe he=>by
  simp only[closeEvents,List.mem_toArray,List.mem_cons,List.not_mem_nil,or_false] at he;rcases he with rfl | rfl<;>simp[NoWord]
 have hdf:∀g,Deaf (t++MemOp.ofEvents (ι p) fn pos (closeEvents c)) g=Deaf t g:=λg=>Deaf_quiet t g _ (quiet_ofEvents nw)
 have wrk:∀x,AtWork S x->GR P FN (D x).β (D x).σ (D x).FS W':=λx hx=>by
  have hg:=h.gr x hx;refine⟨hg.rel,⟨λb B hb=>by rw[kp B λe=>h.chrng hc hx (e ▸ ⟨b,hb⟩)];exact hg.wr.blk b B hb,hg.wr.gl,by rw[hsW];exact hg.wr.gr⟩,λl o hl=>?_⟩;obtain⟨O,e1,e2⟩:=hg.lpr l o hl;refine⟨O,(kp l λe=>?_).trans e1,e2⟩;have:=h.chlp hc hx;rw[e,this] at hl;cases hl
 refine { h with main:=(live 0).2 ⟨h.main,Ne.symm hp0⟩,inj:=λx y h1 h2=>h.inj x y ((live x).1 h1).1 ((live y).1 h2).1,gat:=λx h1=>?_,sit:=λx s h1=>?_,does:=λx s h1=>?_,gr:=λx h1=>wrk x ((live x).1 h1).1,le:=λx h1=>h.le x ((live x).1 h1).1,sep:=λx y h1 h2 hne B h3 h4=>h.sep x y ((live x).1 h1).1 ((live y).1 h2).1 hne B h3 h4,frz:=λx h1 b B hb hB=>h.frz x ((live x).1 h1).1 b B hb hB,shlt:=λB hB=>by rw[hsW];exact h.shlt B hB,lps:=λx y h1 h2 l h3 h4=>h.lps x y ((live x).1 h1).1 ((live y).1 h2).1 l h3 h4,lp0:=λx h1 l h3=>h.lp0 x ((live x).1 h1).1 l h3,lpsh:=λx h1 l h3=>h.lpsh x ((live x).1 h1).1 l h3,chan:=λb=>?_,n0:=by rw[hsW];exact h.n0,old:=λB hB=>⟨(h.old B hB).1,(kp B (by have:=h.ch0 a c hc;omega)).trans (h.old B hB).2⟩,os:=by rw[hW'];exact h.os,out:=by rw[hW'];exact h.out,tp:=by rw[hW'];exact h.tp,lv:=λx g hx hn=>?_,above:=λx hx=>by rw[hdf];exact h.above x (by rw[←hsz];exact hx),tr:=?_,pk:=λb x y m' k' s1 h1 h2 h3 h4 h5=>?_,pr:=λy s1 b fl h1 h2 h3=>?_,ps:=λx b m' k' h1 h2=>?_ }
 ·obtain⟨h1',e⟩:=(live x).1 h1;rw[go _ (hι x h1' e)];exact h.gat x h1'
 ·obtain⟨h1',e⟩:=(live x).1 ⟨s,h1⟩;rw[so x e] at h1;rw[ConcN.upd_ne q k (hι x ⟨s,h1⟩ e)];exact h.sit x s h1
 ·obtain⟨h1',e⟩:=(live x).1 ⟨s,h1⟩;rw[so x e] at h1;exact h.does x s h1
 ·by_cases eb:b=a
  ·subst eb;rw[sca];exact⟨c,s0,hc,hcap,hcc⟩
  ·rw[sc b eb];exact(h.chan b).of_heap λc' hc'=>kp c' λe=>eb (h.chi b a c (by rw[←e];exact hc') hc)
 ·by_cases e1:x=ι p
  ·subst e1;rw[gp] at hx;obtain rfl:=Option.some.inj hx;rw[ConcN.upd_same,hdf,h.tr.deaf _ ⟨p,hp,rfl⟩];exact hq
  ·rw[go x e1] at hx;rw[ConcN.upd_ne q k e1,hdf];exact h.lv x g hx λy h1 h2=>by
    by_cases ey:y=p
    ·subst ey;exact e1 h2.symm
    ·exact hn y ((live y).2 ⟨h1,ey⟩) h2
 ·rw[hsW];have e2:∀g,g≠ι p->(∃x,AtWork S' x/\ι x=g) = ∃x,AtWork S x/\ι x=g:=λg hg=>propext ⟨λ⟨x,a,b⟩=>⟨x,((live x).1 a).1,b⟩,λ⟨x,a,b⟩=>⟨x,(live x).2 ⟨a,λe=>hg (by rw[←b,e])⟩,b⟩⟩
  have hT:=h.tr.close (live':=λg=>∃x,AtWork S' x/\ι x=g) (s:=ι p) (c:=c) (pend':=λc=>∃b,S'.ch b=.closed/\ν b=some c) (fn:=fn) (pos:=pos) ⟨p,hp,rfl⟩ ⟨a,hc⟩ (λg ⟨x,h1,h2⟩=>⟨x,((live x).1 h1).1,h2⟩) (λg hg hne=>by rw[e2 g hne];exact hg) (λc' ⟨b,h1,h2⟩=>by
    by_cases eb:b=a
    ·subst eb;exact⟨b,sca,h2⟩
    ·exact⟨b,by rw[sc b eb];exact h1,h2⟩) ⟨a,sca,hc⟩ (λc' ⟨b,hb⟩=>⟨h.chlt hb,λg _ ⟨x,h1,_,h3⟩=>h.chrngL hb h1 h3⟩) (λg B _ ⟨x,h1,_,h3⟩=>h.rltL h1 h3) (λg _ hne B ⟨x,h1,h2,h3⟩ ⟨y,k1,k2,k3⟩=>h.sepL h1 k1 (λe=>hne (by rw[←h2,e,k2])) h3 k3)
  exact hT.imp (λg B _ ⟨x,h1,h2,h3⟩=>.inl ⟨x,((live x).1 h1).1,h2,h3⟩) (λ_ z=>z) (Nat.le_refl _) (λ_ z=>z)
 ·obtain⟨hx',ex⟩:=(live x).1 ⟨_,h1⟩;obtain⟨hy',ey⟩:=(live y).1 ⟨_,h3⟩;rw[so x ex] at h1;rw[so y ey] at h3;rw[ConcN.upd_ne q k (hι x ⟨_,h1⟩ ex)] at h2;rw[ConcN.upd_ne q k (hι y ⟨_,h3⟩ ey)] at h5;exact h.pk b x y m' k' s1 h1 h2 h3 h4 h5
 ·obtain⟨hy',ey⟩:=(live y).1 ⟨_,h1⟩;rw[so y ey] at h1;rw[ConcN.upd_ne q k (hι y ⟨_,h1⟩ ey)] at h3;by_cases eb:b=a
  ·subst eb;exact absurd h3 (hnp y s1 h1 ey (.inl ⟨fl,h2⟩))
  ·rw[sc b eb];exact h.pr y s1 b fl h1 h2 h3
 ·obtain⟨hx',ex⟩:=(live x).1 ⟨_,h1⟩;rw[so x ex] at h1;rw[ConcN.upd_ne q k (hι x ⟨_,h1⟩ ex)] at h2;by_cases eb:b=a
  ·subst eb;exact absurd h2 (hnp x _ h1 ex (.inr ⟨_,_,rfl⟩))
  ·rw[sc b eb];exact h.ps x b m' k' h1 h2
end
end Go.Fw
end
section
/- A network in the machine: a channel is made; a go statement. -/
namespace Go.Fw
open Go Go.Conc Go.Net
open Go.ConcN (sumTo sumTo_upd)
variable {P:Program} {FN:FuncId->Bool}
theorem Does.mono {K:Cfg}:∀(s:Scr Tpe Msg) {ν ν':Nat->Option Nat} {i:Nat} {σ:Pst},(∀a c,ν a=some c->ν' a=some c)->Does P FN K ν i s σ->Does P FN K ν' i s σ:=by
 intro s;induction s with
 | step F ih=>
  intro ν ν' i σ hν h;unfold Does at h ⊢;exact h.imp id λ⟨h1,T,h2,h3,h4⟩=>⟨h1,T,h2,h3,λtp l r=>ih (tp,l,r) hν (h4 tp l r)⟩
 | mk a k ih=>
  intro ν ν' i σ hν h;unfold Does at h ⊢;refine h.imp id λ⟨h1,h2,nx,h3,h4,h5⟩=>⟨h1,h2,nx,h3,h4,λt=>ih t (λb c' hb=>?_) (h5 t)⟩
  by_cases e:b=a
  ·subst e;rw[Net.upd_same] at hb ⊢;exact hb
  ·rw[Net.upd_ne _ _ e] at hb ⊢;exact hν b c' hb
 | fork q ch k ih1 ih2=>
  intro ν ν' i σ hν h;unfold Does at h ⊢;exact h.imp id λ⟨h1,h2,h3,X,f,xs,fs',h4,h5,h6,h7,h8,h9,h10⟩=>⟨h1,h2,h3,X,f,xs,fs',h4,h5,h6,h7,h8,ih1 hν h9,ih2 hν h10⟩
 | send a m k ih=>
  intro ν ν' i σ hν h;unfold Does at h ⊢;exact h.imp id λ⟨h1,h2,h3,c,v,fs',w',h4,h5,h6,h7,h8⟩=>⟨h1,h2,h3,c,v,fs',w',hν _ _ h4,h5,h6,h7,ih hν h8⟩
 | recv a Q k ih=>
  intro ν ν' i σ hν h;unfold Does at h ⊢;exact h.imp id λ⟨h1,h2,h3,c,z,nx,h4,h6,h7⟩=>⟨h1,h2,h3,c,z,nx,hν _ _ h4,h6,λm hm=>ih m hν (h7 m hm)⟩
 | close a=>
  intro ν ν' i σ hν h;unfold Does at h ⊢;exact h.imp id λ⟨h1,h2,h3,h4,c,h5,h6⟩=>⟨h1,h2,h3,h4,c,hν _ _ h5,h6⟩
 | shut a k ih=>
  intro ν ν' i σ hν h;unfold Does at h ⊢;exact h.imp id λ⟨h1,h2,h3,c,z,nx,h4,h6,h7⟩=>⟨h1,h2,h3,c,z,nx,hν _ _ h4,h6,ih hν h7⟩
 | put a m k ih=>
  intro ν ν' i σ hν h;unfold Does at h ⊢;exact h.imp id λ⟨h1,h2,h3,c,v,fs',h4,h5,h6,h7,h8,h9⟩=>⟨h1,h2,h3,c,v,fs',hν _ _ h4,h5,h6,h7,h8,ih hν h9⟩
 | get a Q k ih=>
  intro ν ν' i σ hν h;unfold Does at h ⊢;exact h.imp id λ⟨h1,h2,h3,c,z,nx,h4,h6,h7⟩=>⟨h1,h2,h3,c,z,nx,hν _ _ h4,h6,λv hv=>ih _ hν (h7 v hv)⟩
 | done=>
  intro ν ν' i σ hν h;unfold Does at h ⊢;exact h
theorem Sit.mono {ν ν':Nat->Option Nat}(hν:∀a c,ν a=some c->ν' a=some c){s:Scr Tpe Msg}{FS:List Frame}{k:Nat}{g:Goroutine}(h:Sit P ν s FS k g):Sit P ν' s FS k g:=by
 cases h with
 | run=>exact .run
 | unborn hg h=>exact .unborn hg h
 | psend hs hc h=>exact .psend hs (hν _ _ hc) h
 | precv hs hc h=>exact .precv hs (hν _ _ hc) h
 | wk h=>exact .wk h
section
variable {K:Cfg} {N0:Nat} {W0:World} {κ:Ren P.globals.size} {S:Net.St Tpe Msg} {ν:Nat->Option Nat} {ι:Nat->Nat} {D:Nat->PD P} {Sh:Nat->Prop} {gs:Array Goroutine} {W:World} {t:Trace} {q:Nat->Nat}
theorem MI.made (h:MI P FN K N0 W0 κ S ν ι D Sh gs W t q){p:Nat}(hp:AtWork S p){a:Nat}(hno:S.ch a=.none){s':Scr Tpe Msg}{fs' FS':List Frame}(hr:FrsR P FN (D p).β fs' FS')
  (hd:Does P FN K (Net.upd ν a (some W.heap.size)) p s' ⟨fs',(D p).σ.w,(D p).σ.lp⟩) {gs':Array Goroutine} (hsz:gs'.size=gs.size) (gp:gs'[ι p]? = some (gorL FS')) (go:∀x,x≠ι p->gs'[x]? = gs[x]?) :
  MI P FN K N0 W0 κ ⟨Net.upd S.st p (.run s'),Net.upd S.ch a .open⟩ (Net.upd ν a (some W.heap.size)) ι (Net.upd D p ⟨⟨fs',(D p).σ.w,(D p).σ.lp⟩,(D p).β,FS',gorL FS'⟩) Sh gs' (W.alloc (.chan (K.cap a) #[] false 0 0 false)) t (ConcN.upd q (ι p) 1):=by
 have hνa:ν a=none:=by have:=h.chan a;rw[hno] at this;exact this
 obtain⟨ν',hν'⟩:∃ν',ν'=Net.upd ν a (some W.heap.size):=⟨_,rfl⟩;obtain⟨S',hS'⟩:∃S':Net.St Tpe Msg,S'=⟨Net.upd S.st p (.run s'),Net.upd S.ch a .open⟩:=⟨_,rfl⟩;obtain⟨D',hD'⟩:∃D',D'=Net.upd D p ⟨⟨fs',(D p).σ.w,(D p).σ.lp⟩,(D p).β,FS',gorL FS'⟩:=⟨_,rfl⟩;obtain⟨W',hW'⟩:∃W',W'=W.alloc (.chan (K.cap a) #[] false 0 0 false):=⟨_,rfl⟩;rw[←hν'] at hd;rw[←hS',←hD',←hν',←hW'];have νa:ν' a=some W.heap.size:=by rw[hν'];exact Net.upd_same _ _ _
 have νo:∀b,b≠a->ν' b=ν b:=λb e=>by rw[hν'];exact Net.upd_ne _ _ e
 have hν:∀b c,ν b=some c->ν' b=some c:=λb c hb=>by
  rw[νo b λe=>by rw[e,hνa] at hb;cases hb];exact hb
 have sc:∀b,b≠a->S'.ch b=S.ch b:=λb e=>by rw[hS'];exact Net.upd_ne _ _ e
 have sca:S'.ch a=.open:=by rw[hS'];exact Net.upd_same _ _ _
 have sp:S'.st p=.run s':=by rw[hS'];exact Net.upd_same _ _ _
 have so:∀x,x≠p->S'.st x=S.st x:=λx h1=>by rw[hS'];exact Net.upd_ne _ _ h1
 have dp:D' p=⟨⟨fs',(D p).σ.w,(D p).σ.lp⟩,(D p).β,FS',gorL FS'⟩:=by rw[hD'];exact Net.upd_same _ _ _
 have do':∀x,x≠p->D' x=D x:=λx h1=>by rw[hD'];exact Net.upd_ne _ _ h1
 have live:∀x,AtWork S' x↔AtWork S x:=λx=>by
  by_cases e:x=p
  ·subst e;exact⟨λ_=>hp,λ_=>⟨_,sp⟩⟩
  ·unfold AtWork;rw[so x e]
 have dβ:∀x,(D' x).β=(D x).β:=λx=>by
  by_cases e:x=p
  ·subst e;rw[dp]
  ·rw[do' x e]
 have dw:∀x,(D' x).σ.w=(D x).σ.w:=λx=>by
  by_cases e:x=p
  ·subst e;rw[dp]
  ·rw[do' x e]
 have dl:∀x,(D' x).σ.lp=(D x).σ.lp:=λx=>by
  by_cases e:x=p
  ·subst e;rw[dp]
  ·rw[do' x e]
 have hι:∀x,AtWork S x->x≠p->ι x≠ι p:=λx h1 h2 e=>h2 (h.inj x p h1 hp e)
 have hsW:W'.heap.size=W.heap.size+1:=by rw[hW'];show (W.heap.push _).size=_;simp
 have kp:∀B,B<W.heap.size->W'.heap[B]? = W.heap[B]?:=λB hB=>by rw[hW'];exact push_lt (w:=W) hB
 have hcc:W'.heap[W.heap.size]? = some (.chan (K.cap a) #[] false 0 0 false):=by rw[hW'];exact push_eq (w:=W)
 have wrk:∀x,AtWork S x->WR FN (D x).β (D x).σ.w W':=λx hx=>by
  have hg:=h.gr x hx;exact⟨λb B hb=>by rw[kp B (h.rnglt hx ⟨b,hb⟩)];exact hg.wr.blk b B hb,hg.wr.gl,by rw[hsW];have:=hg.wr.gr;omega⟩
 have lpk:∀x,AtWork S x->∀l o,(D x).σ.lp l=some o->∃O,W'.heap[l]? = some O/\SOR FN (D x).β o O:=λx hx l o hl=>by
  obtain⟨O,e1,e2⟩:=(h.gr x hx).lpr l o hl;exact⟨O,(kp l (Array.getElem?_eq_some_iff.1 e1).1).trans e1,e2⟩
 refine { h with main:=(live 0).2 h.main,inj:=λx y h1 h2=>h.inj x y ((live x).1 h1) ((live y).1 h2),gat:=λx h1=>?_,sit:=λx s h1=>?_,does:=λx s h1=>?_,gr:=λx h1=>?_,le:=λx h1=>by rw[dβ];exact h.le x ((live x).1 h1),sep:=λx y h1 h2 hne B h3 h4=>by rw[dβ] at h3 h4;exact h.sep x y ((live x).1 h1) ((live y).1 h2) hne B h3 h4,frz:=λx h1 b B hb hB=>by rw[dβ] at hb;rw[dw];exact h.frz x ((live x).1 h1) b B hb hB,shlt:=λB hB=>by rw[hsW];have:=h.shlt B hB;omega,lps:=λx y h1 h2 l h3 h4=>by rw[dl] at h3 h4;exact h.lps x y ((live x).1 h1) ((live y).1 h2) l h3 h4,lp0:=λx h1 l h3=>by rw[dl] at h3;exact h.lp0 x ((live x).1 h1) l h3,lpsh:=λx h1 l h3=>by rw[dl] at h3;exact h.lpsh x ((live x).1 h1) l h3,chan:=λb=>?_,ch0:=λb c hb=>?_,chi:=λb b' c h1 h2=>?_,n0:=by rw[hsW];have:=h.n0;omega,old:=λB hB=>⟨(h.old B hB).1,(kp B (by have:=h.n0;omega)).trans (h.old B hB).2⟩,os:=by rw[hW'];exact h.os,out:=by rw[hW'];exact h.out,tp:=by rw[hW'];exact h.tp,lv:=λx g hx hn=>?_,above:=λx hx=>h.above x (by rw[←hsz];exact hx),tr:=?_,pk:=λb x y m' k' s1 h1 h2 h3 h4 h5=>?_,pr:=λy s1 b fl h1 h2 h3=>?_,ps:=λx b m' k' h1 h2=>?_ }
 ·by_cases e:x=p
  ·subst e;rw[dp];exact gp
  ·rw[do' x e,go _ (hι x ((live x).1 h1) e)];exact h.gat x ((live x).1 h1)
 ·by_cases e:x=p
  ·subst e;rw[dp,ConcN.upd_same];exact .run
  ·rw[so x e] at h1;rw[do' x e,ConcN.upd_ne q 1 (hι x ⟨s,h1⟩ e)];exact(h.sit x s h1).mono hν
 ·by_cases e:x=p
  ·subst e;rw[sp] at h1;cases h1;rw[dp];exact hd
  ·rw[so x e] at h1;rw[do' x e];exact(h.does x s h1).mono s hν
 ·have h1':=(live x).1 h1;by_cases e:x=p
  ·subst e;rw[dp];exact⟨hr,wrk x h1',lpk x h1'⟩
  ·rw[do' x e];exact⟨(h.gr x h1').rel,wrk x h1',lpk x h1'⟩
 ·by_cases eb:b=a
  ·subst eb;rw[sca];exact⟨_,0,νa,hcc⟩
  ·rw[sc b eb];have h1:ChR P FN K κ W' ν b (S.ch b):=(h.chan b).of_heap λc hc=>kp c (h.chlt hc)
   cases hy:S.ch b<;>rw[hy] at h1
   ·exact(νo b eb).trans h1
   ·obtain⟨c,s,e1,e2⟩:=h1;exact⟨c,s,(νo b eb).trans e1,e2⟩
   ·obtain⟨c,s,v,V,e1,e2⟩:=h1;exact⟨c,s,v,V,(νo b eb).trans e1,e2⟩
   ·obtain⟨c,s,e1,e2⟩:=h1;exact⟨c,s,(νo b eb).trans e1,e2⟩
   ·obtain⟨c,s,e1,e2⟩:=h1;exact⟨c,s,(νo b eb).trans e1,e2⟩
   ·obtain⟨c,s,e1,e2⟩:=h1;exact⟨c,s,(νo b eb).trans e1,e2⟩
 ·by_cases eb:b=a
  ·subst eb;rw[νa] at hb;cases hb;exact h.n0
  ·rw[νo b eb] at hb;exact h.ch0 b c hb
 ·by_cases eb:b=a
  ·subst eb;rw[νa] at h1;cases h1;by_cases eb':b'=b
   ·exact eb'.symm
   ·rw[νo b' eb'] at h2;have:=h.chlt h2;omega
  ·rw[νo b eb] at h1;by_cases eb':b'=a
   ·subst eb';rw[νa] at h2;cases h2;have:=h.chlt h1;omega
   ·rw[νo b' eb'] at h2;exact h.chi b b' c h1 h2
 ·have e1:x≠ι p:=λe=>hn p ((live p).2 hp) e.symm
  rw[go x e1] at hx;rw[ConcN.upd_ne q 1 e1];exact h.lv x g hx λy h1=>hn y ((live y).2 h1)
 ·have e1:(λg=>∃p,AtWork S' p/\ι p=g)=λg=>∃p,AtWork S p/\ι p=g:=funext λg=>propext ⟨λ⟨p,a,b⟩=>⟨p,(live p).1 a,b⟩,λ⟨p,a,b⟩=>⟨p,(live p).2 a,b⟩⟩
  have e2:(λg B=>∃p,AtWork S' p/\ι p=g/\RngL (D' p) B)=λg B=>∃p,AtWork S p/\ι p=g/\RngL (D p) B:=funext λg=>funext λB=>propext ⟨λ⟨p,a,b,c⟩=>⟨p,(live p).1 a,b,by unfold RngL at c;rw[dβ,dl] at c;exact c⟩,λ⟨p,a,b,c⟩=>⟨p,(live p).2 a,b,by unfold RngL;rw[dβ,dl];exact c⟩⟩
  rw[e1,e2,hsW];have hk:=h.tr;refine⟨hk.clean,hk.deaf,λg hg i x hx hm=>(hk.know g hg i x hx hm).imp id λz=>z.imp (λ⟨y1,y2⟩=>⟨y1,by omega⟩) id,λi x hx hm=>(hk.tip i x hx hm).imp id λ⟨c,pp,op,⟨b,hb1,hb2⟩,z⟩=>⟨c,pp,op,⟨b,(by
   by_cases eb:b=a
   ·subst eb;rw[hno] at hb1;cases hb1
   ·rw[sc b eb];exact hb1),hν _ _ hb2⟩,z⟩,λc ⟨b,hb⟩ g hg i x hx hm hbl=>?_⟩
  ·by_cases eb:b=a
   ·subst eb;rw[νa] at hb;cases hb;rcases hk.know g hg i x hx hm with z|⟨_,z⟩|⟨_,z⟩
    ·exact .inl z
    ·omega
    ·exact .inr z
   ·rw[νo b eb] at hb;exact hk.obj c ⟨b,hb⟩ g hg i x hx hm hbl
 ·by_cases ex:x=p
  ·subst ex;rw[ConcN.upd_same] at h2;cases h2
  ·by_cases ey:y=p
   ·subst ey;rw[ConcN.upd_same] at h5;cases h5
   ·rw[so x ex] at h1;rw[so y ey] at h3;rw[ConcN.upd_ne q 1 (hι x ⟨_,h1⟩ ex)] at h2;rw[ConcN.upd_ne q 1 (hι y ⟨_,h3⟩ ey)] at h5;exact h.pk b x y m' k' s1 h1 h2 h3 h4 h5
 ·by_cases ey:y=p
  ·subst ey;rw[ConcN.upd_same] at h3;cases h3
  ·rw[so y ey] at h1;rw[ConcN.upd_ne q 1 (hι y ⟨_,h1⟩ ey)] at h3;have:=h.pr y s1 b fl h1 h2 h3;by_cases eb:b=a
   ·subst eb;exact sca
   ·rw[sc b eb];exact this
 ·by_cases ex:x=p
  ·subst ex;rw[ConcN.upd_same] at h2;cases h2
  ·rw[so x ex] at h1;rw[ConcN.upd_ne q 1 (hι x ⟨_,h1⟩ ex)] at h2;have:=h.ps x b m' k' h1 h2;by_cases eb:b=a
   ·subst eb;exact sca
   ·rw[sc b eb];exact this
end
end Go.Fw
end
section
/- A network in the machine: a go statement. -/
namespace Go.Fw
open Go Go.Conc Go.Net
open Go.ConcN (sumTo sumTo_upd)
variable {P:Program} {FN:FuncId->Bool}
theorem BlkR.res {G:Nat}{β:Ren G}{X0 X:Nat->Prop}{w W:World}(hP:Part FN G X0 X w){b B:Nat}(hb:X b)(h:BlkR FN β w.heap[b]? W.heap[B]?):BlkR FN (β.res X hP.sp) w.heap[b]? W.heap[B]?:=by
 rcases h with⟨c,C,t,fr,FR,e1,e2,hR,hfz⟩|⟨a,A,l,e1,e2,e3⟩
 ·refine .inl ⟨c,C,t,fr,FR,e1,e2,⟨hR.1,λi x V hx hV=>?_⟩,hfz⟩;exact hP.cells b c t fr hb e1 x (by have:=Array.mem_of_getElem? hx;simpa using this) β hP.sp V (hR.2 i x V hx hV)
 ·exact absurd e1 (hP.nonum b a l hb)
theorem ArrR.inX {G:Nat}{β:Ren G}{X:Nat->Prop}(hX:X 0/\X G){xs XS:Array Value}(h:ArrR FN β xs XS)(hi:∀x∈xs.toList,InX FN G X x):ArrR FN (β.res X hX) xs XS:=
 ⟨h.1,λi x V hx hV=>hi x (by have:=Array.mem_of_getElem? hx;simpa using this) β hX V (h.2 i x V hx hV)⟩
section
variable {K:Cfg} {N0:Nat} {W0:World} {κ:Ren P.globals.size} {S:Net.St Tpe Msg} {ν:Nat->Option Nat} {ι:Nat->Nat} {D:Nat->PD P} {Sh:Nat->Prop} {gs:Array Goroutine} {W:World} {t:Trace} {q:Nat->Nat}
theorem MI.fork (h:MI P FN K N0 W0 κ S ν ι D Sh gs W t q){p n:Nat}(hp:AtWork S p)(hn:S.st n=.unborn)(hnp:n≠p){X:Nat->Prop}(hP:Part FN P.globals.size K.X0 X (D p).σ.w){sp sn:Scr Tpe Msg}{fs' FS' fsn FSn:List Frame}{gn:Goroutine}
  (hr:FrsR P FN (D p).β fs' FS') (hd:Does P FN K ν p sp ⟨fs',frzX X (D p).σ.w,(D p).σ.lp⟩) (hrn:FrsR P FN ((D p).β.res X hP.sp) fsn FSn) (hdn:Does P FN K ν n sn ⟨fsn,frzX X (D p).σ.w,λ_=>none⟩) (hgn:gn.status=.running) (hst:∀m W,stepG P m gn W=.go (gorL FSn) W #[])
  {fn fn':FuncId} {pos pos':String} :
  MI P FN K N0 W0 κ ⟨Net.upd (Net.upd S.st p (.run sp)) n (.run sn),S.ch⟩ ν (Net.upd ι n gs.size) (Net.upd (Net.upd D p ⟨⟨fs',frzX X (D p).σ.w,(D p).σ.lp⟩,(D p).β,FS',gorL FS'⟩) n ⟨⟨fsn,frzX X (D p).σ.w,λ_=>none⟩,(D p).β.res X hP.sp,FSn,gn⟩)
   (λB=>Sh B\/∃b,X b/\(D p).β.f b=some B) ((gs.setIfInBounds (ι p) (gorL FS')).push gn) W (t++#[{ g:=ι p,fn:=fn,pos:=pos,act:=.go gs.size },{ g:=gs.size,fn:=fn',pos:=pos',act:=.start }]) (ConcN.upd (ConcN.upd q (ι p) 1) gs.size 2):=by
 have hnw:¬AtWork S n:=λ⟨s,hs⟩=>by rw[hn] at hs;cases hs
 have hn0:n≠0:=λe=>hnw (e ▸ h.main)
 obtain⟨S',hS'⟩:∃S':Net.St Tpe Msg,S'=⟨Net.upd (Net.upd S.st p (.run sp)) n (.run sn),S.ch⟩:=⟨_,rfl⟩;obtain⟨ι',hι'⟩:∃ι',ι'=Net.upd ι n gs.size:=⟨_,rfl⟩;obtain⟨D',hD'⟩:∃D',D'=Net.upd (Net.upd D p ⟨⟨fs',frzX X (D p).σ.w,(D p).σ.lp⟩,(D p).β,FS',gorL FS'⟩) n ⟨⟨fsn,frzX X (D p).σ.w,λ_=>none⟩,(D p).β.res X hP.sp,FSn,gn⟩:=⟨_,rfl⟩;obtain⟨u,hu⟩:∃u:Trace,u=#[{ g:=ι p,fn:=fn,pos:=pos,act:=.go gs.size },{ g:=gs.size,fn:=fn',pos:=pos',act:=.start }]:=⟨_,rfl⟩;have huq:∀op∈u,op.act.touch? = none/\op.act≠.mark .disable/\op.act≠.mark .enable:=λop hop=>by
  rw[hu] at hop;simp only[List.mem_toArray,List.mem_cons,List.not_mem_nil,or_false] at hop;rcases hop with rfl | rfl<;>simp[MemAct.touch?]
 have tr0:=h.tr;have sn':S'.st n=.run sn:=by rw[hS'];exact Net.upd_same _ _ _
 have sp':S'.st p=.run sp:=by rw[hS'];exact(Net.upd_ne _ _ (Ne.symm hnp)).trans (Net.upd_same _ _ _)
 have so:∀x,x≠p->x≠n->S'.st x=S.st x:=λx h1 h2=>by rw[hS'];exact(Net.upd_ne _ _ h2).trans (Net.upd_ne _ _ h1)
 have sc:S'.ch=S.ch:=by rw[hS']
 have dn':D' n=⟨⟨fsn,frzX X (D p).σ.w,λ_=>none⟩,(D p).β.res X hP.sp,FSn,gn⟩:=by rw[hD'];exact Net.upd_same _ _ _
 have dp':D' p=⟨⟨fs',frzX X (D p).σ.w,(D p).σ.lp⟩,(D p).β,FS',gorL FS'⟩:=by rw[hD'];exact(Net.upd_ne _ _ (Ne.symm hnp)).trans (Net.upd_same _ _ _)
 have do':∀x,x≠p->x≠n->D' x=D x:=λx h1 h2=>by rw[hD'];exact(Net.upd_ne _ _ h2).trans (Net.upd_ne _ _ h1)
 have in':ι' n=gs.size:=by rw[hι'];exact Net.upd_same _ _ _
 have io:∀x,x≠n->ι' x=ι x:=λx h1=>by rw[hι'];exact Net.upd_ne _ _ h1
 have live:∀x,AtWork S' x↔AtWork S x\/x=n:=λx=>by
  by_cases e:x=n
  ·subst e;exact⟨λ_=>.inr rfl,λ_=>⟨_,sn'⟩⟩
  ·by_cases e2:x=p
   ·subst e2;exact⟨λ_=>.inl hp,λ_=>⟨_,sp'⟩⟩
   ·unfold AtWork;rw[so x e2 e];exact⟨.inl,λz=>z.resolve_right e⟩
 have lt:∀x,AtWork S x->ι x<gs.size:=λx hx=>(Array.getElem?_eq_some_iff.1 (h.gat x hx)).1
 have hι:∀x,AtWork S x->x≠p->ι x≠ι p:=λx h1 h2 e=>h2 (h.inj x p h1 hp e)
 have hgp:=h.gr p hp;have neN:∀x,AtWork S x->x≠n:=λx hx e=>hnw (e ▸ hx)
 have rngN:∀B,Rng ((D p).β.res X hP.sp) B->∃b,X b/\(D p).β.f b=some B:=λB ⟨b,hb⟩=>by obtain⟨h1,h2⟩:=res_some hb;exact⟨b,h1,h2⟩
 have frz':∀b B,(D p).β.f b=some B->(Sh B\/∃b,X b/\(D p).β.f b=some B)->Fz (frzX X (D p).σ.w) b:=λb B hb hS=>by
  rcases hS with z|⟨b',h1,h2⟩
  ·exact(h.frz p hp b B hb z).frzX X
  ·have:=(D p).β.inj b b' B hb h2;subst this;exact hgp.wr.fzX hb h1
 have qn:ConcN.upd (ConcN.upd q (ι p) 1) gs.size 2 gs.size=2:=ConcN.upd_same _ _ _;have qp:ConcN.upd (ConcN.upd q (ι p) 1) gs.size 2 (ι p)=1:=(ConcN.upd_ne _ _ (by have:=lt p hp;omega)).trans (ConcN.upd_same _ _ _);have qo:∀x,x≠ι p->x≠gs.size->ConcN.upd (ConcN.upd q (ι p) 1) gs.size 2 x=q x:=λx h1 h2=>(ConcN.upd_ne _ _ h2).trans (ConcN.upd_ne _ _ h1)
 have gsn:((gs.setIfInBounds (ι p) (gorL FS')).push gn)[gs.size]? = some gn:=by rw[Array.getElem?_push,if_pos (by simp)]
 have gsp:((gs.setIfInBounds (ι p) (gorL FS')).push gn)[ι p]? = some (gorL FS'):=by
  rw[Array.getElem?_push_lt (by simpa using lt p hp)];simp[lt p hp]
 have gso:∀x,x≠ι p->x≠gs.size->((gs.setIfInBounds (ι p) (gorL FS')).push gn)[x]? = gs[x]?:=λx h1 h2=>by
  rw[Array.getElem?_push,if_neg (by simpa using h2),Array.getElem?_setIfInBounds_ne (Ne.symm h1)]
 have hdf:∀g,Deaf (t++u) g=Deaf t g:=λg=>Deaf_quiet t g u λop ho=>(huq op ho).2
 rw[←hS',←hι',←hD',←hu];have wrn:WR FN ((D p).β.res X hP.sp) (frzX X (D p).σ.w) W:=by
  refine⟨λb B hb=>?_,by rw[frzX_size];exact hgp.wr.gl,hgp.wr.gr⟩;obtain⟨h1,h2⟩:=res_some hb;rw[frzX_in h1];exact frzO_blk (BlkR.res hP h1 (hgp.wr.blk b B h2))
 refine { zero:=by rw[io 0 (Ne.symm hn0)];exact h.zero,main:=(live 0).2 (.inl h.main),inj:=λx y h1 h2 e=>?_,gat:=λx h1=>?_,sit:=λx s h1=>?_,does:=λx s h1=>?_,gr:=λx h1=>?_,le:=λx h1=>?_,x0:=h.x0,dom:=h.dom,kx:=h.kx,sep:=λx y h1 h2 hne B h3 h4=>?_,frz:=λx h1 b B hb hB=>?_,shlt:=λB hB=>?_,lps:=λx y h1 h2 l h3 h4=>?_,lp0:=λx h1 l h3=>?_,lpsh:=λx h1 l h3 hS=>?_,chan:=λb=>by rw[sc];exact h.chan b,ch0:=h.ch0,chi:=h.chi,n0:=h.n0,old:=λB hB=>⟨.inl (h.old B hB).1,(h.old B hB).2⟩,os:=h.os,out:=h.out,tp:=h.tp,lv:=λx g hx hnx=>?_,above:=λx hx=>?_,tr:=?_,pk:=λb x y m' k' s1 h1 h2 h3 h4 h5=>?_,pr:=λy s1 b fl h1 h2 h3=>?_,ps:=λx b m' k' h1 h2=>?_ }
 ·rcases(live x).1 h1 with hx | rfl
  ·rw[io x (neN x hx)] at e;rcases(live y).1 h2 with hy|rfl
   ·rw[io y (neN y hy)] at e;exact h.inj x y hx hy e
   ·rw[in'] at e;have:=lt x hx;omega
  ·rw[in'] at e;rcases(live y).1 h2 with hy|rfl
   ·rw[io y (neN y hy)] at e;have:=lt y hy;omega
   ·rfl
 ·rcases(live x).1 h1 with hx | rfl
  ·rw[io x (neN x hx)];by_cases e:x=p
   ·subst e;rw[dp'];exact gsp
   ·rw[do' x e (neN x hx),gso _ (hι x hx e) (by have:=lt x hx;omega)];exact h.gat x hx
  ·rw[in',dn'];exact gsn
 ·rcases(live x).1 ⟨s,h1⟩ with hx | rfl
  ·rw[io x (neN x hx)];by_cases e:x=p
   ·subst e;rw[dp',qp];exact .run
   ·rw[so x e (neN x hx)] at h1;rw[do' x e (neN x hx),qo _ (hι x hx e) (by have:=lt x hx;omega)];exact h.sit x s h1
  ·rw[in',dn',qn];exact .unborn hgn hst
 ·rcases(live x).1 ⟨s,h1⟩ with hx | rfl
  ·by_cases e:x=p
   ·subst e;rw[sp'] at h1;cases h1;rw[dp'];exact hd
   ·rw[so x e (neN x hx)] at h1;rw[do' x e (neN x hx)];exact h.does x s h1
  ·rw[sn'] at h1;cases h1;rw[dn'];exact hdn
 ·rcases(live x).1 h1 with hx | rfl
  ·by_cases e:x=p
   ·subst e;rw[dp'];exact⟨hr,hgp.wr.frzX X,hgp.lpr⟩
   ·rw[do' x e (neN x hx)];exact h.gr x hx
  ·rw[dn'];exact⟨hrn,wrn,λl o hl=>by cases hl⟩
 ·rcases(live x).1 h1 with hx | rfl
  ·by_cases e:x=p
   ·subst e;rw[dp'];exact h.le x hx
   ·rw[do' x e (neN x hx)];exact h.le x hx
  ·rw[dn'];intro b B hb;exact(res_f (hX:=hP.sp) (hP.sub b (h.kx b B hb))).trans (h.le p hp b B hb)
 ·
  have cn:∀z,AtWork S z->z≠p->∀B,Rng (D z).β B->Rng ((D p).β.res X hP.sp) B->Sh B\/∃b,X b/\(D p).β.f b=some B:=λz hz hzp B _ k2=>.inr (rngN B k2)
  have βx:∀z,AtWork S z->(D' z).β=(D z).β:=λz hz=>by
   by_cases e:z=p
   ·subst e;rw[dp']
   ·rw[do' z e (neN z hz)]
  rcases(live x).1 h1 with hx|rfl
  ·rw[βx x hx] at h3;rcases(live y).1 h2 with hy|rfl
   ·rw[βx y hy] at h4;exact .inl (h.sep x y hx hy hne B h3 h4)
   ·rw[dn'] at h4;exact .inr (rngN B h4)
  ·rw[dn'] at h3;exact .inr (rngN B h3)
 ·rcases(live x).1 h1 with hx | rfl
  ·by_cases e:x=p
   ·subst e;rw[dp'] at hb ⊢;exact frz' b B hb hB
   ·rw[do' x e (neN x hx)] at hb ⊢;rcases hB with z|⟨b',k1,k2⟩
    ·exact h.frz x hx b B hb z
    ·exact h.frz x hx b B hb (h.sep x p hx hp e B ⟨b,hb⟩ ⟨b',k2⟩)
  ·rw[dn'] at hb ⊢;exact frz' b B (res_some (hX:=hP.sp) hb).2 hB
 ·rcases hB with z | ⟨b,_,k2⟩
  ·exact h.shlt B z
  ·exact h.rnglt hp ⟨b,k2⟩
 ·have lpx:∀z,AtWork S z->(D' z).σ.lp=(D z).σ.lp:=λz hz=>by
   by_cases e:z=p
   ·subst e;rw[dp']
   ·rw[do' z e (neN z hz)]
  rcases(live x).1 h1 with hx|rfl
  ·rcases(live y).1 h2 with hy | rfl
   ·rw[lpx x hx] at h3;rw[lpx y hy] at h4;exact h.lps x y hx hy l h3 h4
   ·rw[dn'] at h4;exact absurd rfl h4
  ·rw[dn'] at h3;exact absurd rfl h3
 ·rcases(live x).1 h1 with hx | rfl
  ·by_cases e:x=p
   ·subst e;rw[dp'] at h3;exact h.lp0 x hx l h3
   ·rw[do' x e (neN x hx)] at h3;exact h.lp0 x hx l h3
  ·rw[dn'] at h3;exact absurd rfl h3
 ·have key:∀y,AtWork S y->(D y).σ.lp l≠none->False:=λy hy hl=>by
   rcases hS with z|⟨b,_,k2⟩
   ·exact h.lpsh y hy l hl z
   ·exact(h.lpat hy hl).2 p hp ⟨b,k2⟩
  rcases(live x).1 h1 with hx|rfl
  ·by_cases e:x=p
   ·subst e;rw[dp'] at h3;exact key x hx h3
   ·rw[do' x e (neN x hx)] at h3;exact key x hx h3
  ·rw[dn'] at h3;exact absurd rfl h3
 ·have e1:x≠ι p:=λe=>hnx p ((live p).2 (.inl hp)) (by rw[io p (Ne.symm hnp)];exact e.symm)
  have e2:x≠gs.size:=λe=>hnx n ((live n).2 (.inr rfl)) (by rw[in'];exact e.symm)
  rw[gso x e1 e2] at hx;rw[qo x e1 e2,hdf];exact h.lv x g hx λy hy e=>hnx y ((live y).2 (.inl hy)) (by rw[io y (neN y hy)];exact e)
 ·rw[hdf];exact h.above x (by simp at hx;omega)
 ·rw[hu,sc];refine h.tr.fork (p:=ι p) (n:=gs.size) ⟨p,hp,rfl⟩ (λ⟨x,h1,h2⟩=>by have:=lt x h1;omega) (h.above _ (Nat.le_refl _)) (λg ⟨x,h1,h2⟩=>?_) (λg ⟨x,h1,h2⟩=>⟨x,(live x).2 (.inl h1),by rw[io x (neN x h1)];exact h2⟩) (λB ⟨x,h1,h2,h3⟩=>?_) (λg B hg ⟨x,h1,h2,h3⟩=>?_) (λB z=>.inl z)
  ·rcases(live x).1 h1 with hx | rfl
   ·rw[io x (neN x hx)] at h2;exact .inl ⟨x,hx,h2⟩
   ·rw[in'] at h2;exact .inr h2.symm
  ·rcases(live x).1 h1 with hx | rfl
   ·rw[io x (neN x hx)] at h2;have:=lt x hx;omega
   ·rw[dn'] at h3;obtain⟨b,_,k2⟩:=rngN B (h3.resolve_right λhx=>absurd rfl hx);exact⟨p,hp,rfl,.inl ⟨b,k2⟩⟩
  ·rcases(live x).1 h1 with hx | rfl
   ·rw[io x (neN x hx)] at h2;by_cases e:x=p
    ·subst e;rw[dp'] at h3;exact⟨x,hx,h2,h3⟩
    ·rw[do' x e (neN x hx)] at h3;exact⟨x,hx,h2,h3⟩
   ·rw[in'] at h2;exact absurd h2.symm hg
 ·have key:∀z s,S'.st z=.run s->ConcN.upd (ConcN.upd q (ι p) 1) gs.size 2 (ι' z)=0->S.st z=.run s/\q (ι z)=0:=λz s k1 k2=>by
   rcases(live z).1 ⟨s,k1⟩ with hz|rfl
   ·rw[io z (neN z hz)] at k2;by_cases e:z=p
    ·subst e;rw[qp] at k2;cases k2
    ·rw[so z e (neN z hz)] at k1;rw[qo _ (hι z hz e) (by have:=lt z hz;omega)] at k2;exact⟨k1,k2⟩
   ·rw[in',qn] at k2;cases k2
  obtain⟨g1,g2⟩:=key x _ h1 h2;obtain⟨g3,g4⟩:=key y _ h3 h5;exact h.pk b x y m' k' s1 g1 g2 g3 h4 g4
 ·rcases(live y).1 ⟨s1,h1⟩ with hz | rfl
  ·rw[io y (neN y hz)] at h3;by_cases e:y=p
   ·subst e;rw[qp] at h3;cases h3
   ·rw[so y e (neN y hz)] at h1;rw[qo _ (hι y hz e) (by have:=lt y hz;omega)] at h3;rw[sc];exact h.pr y s1 b fl h1 h2 h3
  ·rw[in',qn] at h3;cases h3
 ·rcases(live x).1 ⟨_,h1⟩ with hz | rfl
  ·rw[io x (neN x hz)] at h2;by_cases e:x=p
   ·subst e;rw[qp] at h2;cases h2
   ·rw[so x e (neN x hz)] at h1;rw[qo _ (hι x hz e) (by have:=lt x hz;omega)] at h2;rw[sc];exact h.ps x b m' k' h1 h2
  ·rw[in',qn] at h2;cases h2
end
end Go.Fw
end
section
/- A network in the machine: its moves (a step, a channel, a go statement, a wait). -/
namespace Go.Fw
open Go Go.Conc Go.Net
open Go.ConcN (sumTo sumTo_upd)
variable {P:Program} {FN:FuncId->Bool}
section
variable {K:Cfg} {N0:Nat} {W0:World} {κ:Ren P.globals.size} {S:Net.St Tpe Msg} {ν:Nat->Option Nat} {ι:Nat->Nat} {D:Nat->PD P} {Sh:Nat->Prop} {gs:Array Goroutine} {W:World} {t:Trace} {q:Nat->Nat} {Post:Value->World->Prop}
def NGoal (P:Program)(FN:FuncId->Bool)(Post:Value->World->Prop)(K:Cfg)(N0:Nat)(W0:World)(κ:Ren P.globals.size)(S:Net.St Tpe Msg):Prop:=
 ∀(ν:Nat->Option Nat) (ι:Nat->Nat) (D:Nat->PD P) (Sh:Nat->Prop) (gs:Array Goroutine) (W:World) (t:Trace) (q:Nat->Nat) (sl:Option (Nat × Nat)),MI P FN K N0 W0 κ S ν ι D Sh gs W t q->Ends P Post gs W sl t
structure Mv (P:Program) (FN:FuncId->Bool) (Post:Value->World->Prop) (K:Cfg) (N0:Nat) (W0:World) (κ:Ren P.globals.size) (S:Net.St Tpe Msg) (ν:Nat->Option Nat) (ι:Nat->Nat) (D:Nat->PD P) (Sh:Nat->Prop) (gs:Array Goroutine) (W:World) (t:Trace) (q:Nat->Nat) (p:Nat) (s:Scr Tpe Msg):Prop where
 h:MI P FN K N0 W0 κ S ν ι D Sh gs W t q
 st:S.st p=.run s
 same:∀m W,stepG P m (D p).g W=stepG P m (gorL (D p).FS) W
 pos:0<q (ι p)
 nb:¬Net.Bad K.R S
 gl:(∀a fl,¬wants s a fl)->(D p).g=gorL (D p).FS
 nx:∀i t T,Net.Move K.R S i t T->NGoal P FN Post K N0 W0 κ T
 nx2:∀i t T j u U,Net.Move K.R S i t T->Net.Move K.R T j u U->NGoal P FN Post K N0 W0 κ U
 nb1:∀i t T,Net.Move K.R S i t T->¬Net.Bad K.R T
 wt:∀(D':Nat->PD P) (gs':Array Goroutine) (t':Trace) (q':Nat->Nat) (sl:Option (Nat × Nat)),MI P FN K N0 W0 κ S ν ι D' Sh gs' W t' q'->gs'.size=gs.size->sumTo gs.size q'<sumTo gs.size q->Ends P Post gs' W sl t'
theorem Mv.atw {p:Nat}{s:Scr Tpe Msg}(m:Mv P FN Post K N0 W0 κ S ν ι D Sh gs W t q p s):AtWork S p:=⟨s,m.st⟩
theorem upd_self {α:Type}(f:Nat->α)(i:Nat):Net.upd f i (f i)=f:=by
 funext j;unfold Net.upd;split
 ·rename_i e;rw[e]
 ·rfl
theorem upd_eq {α:Type}{f:Nat->α}{i:Nat}{x:α}(h:f i=x):Net.upd f i x=f:=by rw[←h];exact upd_self f i
theorem Mv.step {p:Nat}{F:Tpe->Scr Tpe Msg}(m:Mv P FN Post K N0 W0 κ S ν ι D Sh gs W t q p (.step F))(sl:Option (Nat × Nat)):Goes1 P Post (ι p) gs W sl t:=by
 have hg:=m.h.gr p m.atw;have hd:=m.h.does p _ m.st;unfold Does at hd;obtain⟨hne,T,h1,h2,h3⟩:=hd.resolve_left (m.h.novac m.atw);obtain⟨γ,FS',W',ES,l,r,k1,k2,k3,k4⟩:=h2 (tapeFor (D p).σ.w W) (D p).β (D p).FS W ⟨hg.rel,hg.wr.tpd _,hg.lpr⟩ (tp_tapeFor _ _);have hrT:=runT_crowd_go (P:=P) (sl:=sl) (i:=ι p) (m.h.gat p m.atw) ((m.same _ W).trans (k3 _));have hmv:Net.Move K.R S p (tapeFor (D p).σ.w W,l,r) _:=Net.Move.mk m.st (.step F) ⟨λq x x' e=>(by cases e),λa y y' e=>by cases e⟩;exact⟨_,_,_,_,hrT,m.nx p _ _ hmv _ _ _ _ _ _ _ _ sl (m.h.own m.atw k1 ⟨k2.le,k2.size,k2.sz,k2.keep,k2.new_,k2.lpn,k2.lpk,k2.fzk,k2.os,k2.out,k2.tape⟩ k4 (h3 _ l r))⟩
theorem Mv.mk_ {p a:Nat}{k:Tpe->Scr Tpe Msg}(m:Mv P FN Post K N0 W0 κ S ν ι D Sh gs W t q p (.mk a k))(sl:Option (Nat × Nat)):Goes1 P Post (ι p) gs W sl t:=by
 have hg:=m.h.gr p m.atw;have hd:=m.h.does p _ m.st;unfold Does at hd;obtain⟨hmk,hne,nx,h3,h4,h5⟩:=hd.resolve_left (m.h.novac m.atw);have hno:S.ch a=.none:=Classical.byContradiction λe=>m.nb ⟨p,_,m.st,.inl e⟩
 obtain⟨FS',k1,k2,k3⟩:=h4 (D p).β (D p).FS hg.rel W;have hrT:=runT_crowd_go (P:=P) (sl:=sl) (i:=ι p) (m.h.gat p m.atw) ((m.same _ W).trans (k3 _));have hlt:ι p<gs.size:=(Array.getElem?_eq_some_iff.1 (m.h.gat p m.atw)).1;rw[m.h.map_woken (λb c hb _=>push_lt (w:=W) (m.h.chlt hb)),ofEvents_nil] at hrT;have hmv:Net.Move K.R S p (W.tape,W.heap.size,0) _:=Net.Move.mk m.st (.mk a k) ⟨λq x x' e=>(by cases e),λb y y' e=>by cases e;exact⟨hno,hmk⟩⟩;have hmi:=m.h.made m.atw hno k1 (h5 (W.tape,W.heap.size,0)) (gs':=gs.setIfInBounds (ι p) (gorL FS')) (by simp) (by simp[hlt]) λx hx=>by rw[Array.getElem?_setIfInBounds_ne (Ne.symm hx)]
 exact⟨_,_,_,_,hrT,by rw[Array.append_empty];exact m.nx p _ _ hmv _ _ _ _ _ _ _ _ sl hmi⟩
theorem Mv.fork {p n:Nat}{c k:Scr Tpe Msg}(m:Mv P FN Post K N0 W0 κ S ν ι D Sh gs W t q p (.fork n c k))(sl:Option (Nat × Nat)):Goes1 P Post (ι p) gs W sl t:=by
 have hg:=m.h.gr p m.atw;have hd:=m.h.does p _ m.st;unfold Does at hd;obtain⟨hpar,hnp,hne,X,f,xs,fs',hP,hX,hb,hne',hgo,hc,hk⟩:=hd.resolve_left (m.h.novac m.atw);have hun:S.st n=.unborn:=Classical.byContradiction λe=>m.nb ⟨p,_,m.st,.inr e⟩
 obtain⟨XS,Df,FS',k1,k2,k3,k4,k5⟩:=hgo (D p).β (D p).FS hg.rel;have hrT:=runT_crowd_spawn (P:=P) (sl:=sl) (i:=ι p) (m.h.gat p m.atw) ((m.same _ W).trans (k4 _ W));rw[ofEvents_nil] at hrT;have hmv:Net.Move K.R S p (W.tape,0,0) _:=Net.Move.mk m.st (.fork n c k) ⟨λq x x' e=>by cases e;exact⟨hun,λx=>x,hpar,hnp⟩,λb y y' e=>by cases e⟩;have hmi:=λfn fn' pos pos'=>m.h.fork m.atw hun hnp hP k2 hk (.cons (enter_frR .deferred (by simp) hb (k1.inX hP.sp hX)) (.cons ⟨rfl,rfl,ArrR.nil,rfl,⟨by simp[base0];decide,rfl⟩,⟨rfl,rfl⟩,rfl⟩ .nil)) hc (gn:=born P Df) rfl k5 (fn:=fn) (fn':=fn') (pos:=pos) (pos':=pos')
 exact⟨_,_,_,_,hrT,m.nx p _ _ hmv _ _ _ _ _ _ _ _ sl (hmi _ _ _ _)⟩
theorem Mv.waits {p:Nat}{s:Scr Tpe Msg}(m:Mv P FN Post K N0 W0 κ S ν ι D Sh gs W t q p s){cs:Array CommCase}{sh:CommShape}(hst:∀m W,stepG P m (gorL (D p).FS) W=.comm (gorL (D p).FS) cs true sh W #[])
  (hw:∀cc∈cs,NoWays W (gs.setIfInBounds (ι p) ph) cc) (hsit:Sit P ν s (D p).FS 0 (parked (gorL (D p).FS) cs sh))
  (hps:∀a m k,s=.send a m k->S.ch a=.open/\∀j s' fl,S.st j=.run s'->wants s' a fl->q (ι j)≠0)
  (hpr:∀a fl,wants s a fl->S.ch a=.open/\∀i m k,S.st i=.run (.send a m k)->q (ι i)≠0) (sl:Option (Nat × Nat)):Goes1 P Post (ι p) gs W sl t:=by
 have hlt:ι p<gs.size:=(Array.getElem?_eq_some_iff.1 (m.h.gat p m.atw)).1;have hrT:=crowd_waits (P:=P) (sl:=sl) (m.h.gat p m.atw) ((m.same _ W).trans (hst _ W)) hw;rw[ofEvents_nil] at hrT;refine⟨_,_,_,_,hrT,m.wt _ _ _ _ sl (m.h.turn m.st hsit (u:=#[]) (by simp) (λ_=>hps) (λ_=>hpr)) (by simp) ?_⟩;have hp:=m.pos;have:=sumTo_upd q 0 id hlt;have h2:sumTo gs.size (ConcN.upd q (ι p) 0)+q (ι p)=sumTo gs.size q+0:=by simpa using this
 omega
end
end Go.Fw
end
section
/- A network in the machine: its moves (a message goes over). -/
namespace Go.Fw
open Go Go.Conc Go.Net
open Go.ConcN (sumTo sumTo_upd)
variable {P:Program} {FN:FuncId->Bool}
section
variable {K:Cfg} {N0:Nat} {W0:World} {κ:Ren P.globals.size} {S:Net.St Tpe Msg} {ν:Nat->Option Nat} {ι:Nat->Nat} {D:Nat->PD P} {Sh:Nat->Prop} {gs:Array Goroutine} {W:World} {t:Trace} {q:Nat->Nat} {Post:Value->World->Prop}
theorem MI.open_ (h:MI P FN K N0 W0 κ S ν ι D Sh gs W t q){a c:Nat}(hc:ν a=some c)(hl:¬past1 (S.ch a)):S.ch a=.open:=by
 have hch:=h.chan a;cases hy:S.ch a with
 | none=>rw[hy] at hch;have h2:ν a=none:=hch;rw[hc] at h2;cases h2
 | «open»=>rfl
 | _=>exact(hl (by rw[hy];trivial)).elim
theorem MI.chOpen (h:MI P FN K N0 W0 κ S ν ι D Sh gs W t q){a c:Nat}(hc:ν a=some c)(ho:S.ch a=.open):∃s,W.heap[c]? = some (.chan (K.cap a) #[] false s s false):=by
 have hch:=h.chan a;rw[ho] at hch;obtain⟨c',s0,e1,hcc⟩:=hch;rw[hc] at e1;cases e1;exact⟨s0,hcc⟩
theorem MI.meet (h:MI P FN K N0 W0 κ S ν ι D Sh gs W t q){i j a c:Nat}{m:Msg}{k:Scr Tpe Msg}{G:Msg->Prop}{k':Msg->Scr Tpe Msg}(hi:S.st i=.run (.send a m k))(hj:S.st j=.run (.recv a G k'))(hc:ν a=some c)(ho:S.ch a=.open)(hG:G m) :
  ∃(V Zs Zr:Value) (FSi FSj:List Frame),(∀m W,stepG P m (gorL (D i).FS) W=.comm (gorL (D i).FS) #[scase c V Zs] true .send W #[])/\(∀m W,stepG P m (gorL (D j).FS) W=.comm (gorL (D j).FS) #[rcase c Zr] true (.recv true) W #[])/\
   Go.Conc.served (gorL (D i).FS) undef=gorL FSi/\Go.Conc.served (gorL (D j).FS) (recvd true V true)=gorL FSj/\
   ∀(gs':Array Goroutine) (u:Trace) (s0 n:Nat),gs'.size=gs.size->gs'[ι i]? = some (gorL FSi)->gs'[ι j]? = some (gorL FSj)->(∀x,x≠ι i->x≠ι j->gs'[x]? = gs[x]?)->
    (∀op∈u,op.act.touch? = none/\op.act≠.mark .disable/\op.act≠.mark .enable)->
    (∃(x:Nat) (op:MemOp),u[x]? = some op/\op.g=ι i/\op.act=.send c n/\∃(x':Nat) (op':MemOp),x<x'/\u[x']? = some op'/\op'.g=ι j/\op'.act=.recvDone c n)->
    ∃D' Sh' q',MI P FN K N0 W0 κ ⟨Net.upd (Net.upd S.st i (.run k)) j (.run (k' m)),S.ch⟩ ν ι D' Sh' gs' (W.setChan c 0 #[] false s0 s0 false) (t++u) q':=by
 have ai:AtWork S i:=⟨_,hi⟩;have aj:AtWork S j:=⟨_,hj⟩;have hij:i≠j:=λe=>by subst e;rw[hi] at hj;cases hj
 have gi:=h.gr i ai;have gj:=h.gr j aj;have di:=h.does i _ hi;have dj:=h.does j _ hj;unfold Does at di dj;obtain⟨hsn,hcap,hnei,c1,v,fsi,wi,hc1,hne1,hsim,hM,hdi⟩:=di.resolve_left (h.novac ai);obtain⟨hrr,_,hnej,c2,z,nx,hc2,hsimr,hdj⟩:=dj.resolve_left (h.novac aj);rw[hc] at hc1 hc2;cases hc1;cases hc2;obtain⟨V,Zs,FSi,k1,k2,k3,k4,k5⟩:=hsim (D i).β (D i).FS gi.rel;obtain⟨γ,Sh',G'⟩:=h.give ai aj hij hM k1;obtain⟨Zr,l1,l2,l3⟩:=hsimr γ (D j).FS (gj.rel.mono G'.le);obtain⟨FSj,m1,m2,m3⟩:=l3 _ V true G'.val;refine⟨V,Zs,Zr,FSi,FSj,k2,l2,k5,m3,λgs' u s0 n h1 h2 h3 h4 h5 h6=>⟨_,_,_,h.comm ai aj hij hc ho hcap G' ?_ k3 m1 hdi (hdj m hG) h1 h2 h3 h4 h5 h6⟩⟩;cases m with
 | val u=>obtain⟨_,_,rfl⟩:=hM;exact Nat.le_refl _
 | row C l cc=>obtain⟨b,_,_,_,_,_,_,rfl⟩:=hM;rw[frzX_size];exact Nat.le_refl _
theorem move_send {S:Net.St Tpe Msg}{R:Roles}{i j a:Nat}{m:Msg}{k:Scr Tpe Msg}{G:Msg->Prop}{k':Msg->Scr Tpe Msg}(t:Tpe)(hi:S.st i=.run (.send a m k))(hj:S.st j=.run (.recv a G k'))(hs:R.sender a=i)(hr:R.receiver a=j)(hij:i≠j)(ho:S.ch a=.open)(hG:G m) :
  Net.Move R S i t ⟨Net.upd (Net.upd S.st i (.run k)) j (.run (k' m)),S.ch⟩:=by
 subst hr;have:=Net.Move.mk (R:=R) (t:=t) hi (.send a m k G k' hG) ⟨λq x x' e=>by cases e;exact⟨hj,λx=>x,hs,Ne.symm hij⟩,λb y y' e=>by cases e;exact⟨ho,hs⟩⟩;have e:(Net.Act.mk (PS.run k) (some (R.receiver a,PS.run (Scr.recv a G k'),PS.run (k' m))) (some (a,CS.open,CS.open))).app i S=⟨Net.upd (Net.upd S.st i (.run k)) (R.receiver a) (.run (k' m)),S.ch⟩:=by
  show Net.St.mk _ (Net.upd S.ch a CS.open)=_;rw[upd_eq ho]
 rw[e] at this;exact this
theorem scase_inj {FS:List Frame}{m:Bool}{W:World}{c:Nat}{V V' Z Z':Value}(h1:stepG P m (gorL FS) W=.comm (gorL FS) #[scase c V Z] true .send W #[])(h2:stepG P m (gorL FS) W=.comm (gorL FS) #[scase c V' Z'] true .send W #[]):V=V'/\Z=Z':=by
 have:=h1.symm.trans h2;simp only[GStep.comm.injEq,scase,Array.mk.injEq,List.cons.injEq,CommCase.mk.injEq,Option.some.injEq] at this;exact⟨this.2.1.1.2.1,this.2.1.1.2.2⟩
theorem rcase_inj {FS:List Frame}{m:Bool}{W:World}{c:Nat}{Z Z':Value}{fl fl':Bool}(h1:stepG P m (gorL FS) W=.comm (gorL FS) #[rcase c Z] true (.recv fl) W #[])(h2:stepG P m (gorL FS) W=.comm (gorL FS) #[rcase c Z'] true (.recv fl') W #[]):Z=Z':=by
 have:=h1.symm.trans h2;simp only[GStep.comm.injEq,rcase,Array.mk.injEq,List.cons.injEq,CommCase.mk.injEq] at this;exact this.2.1.1.2.2
theorem Mv.send {p a:Nat}{m0:Msg}{k:Scr Tpe Msg}(m:Mv P FN Post K N0 W0 κ S ν ι D Sh gs W t q p (.send a m0 k))(sl:Option (Nat × Nat)):Goes1 P Post (ι p) gs W sl t:=by
 have hg:=m.h.gr p m.atw;have hd:=m.h.does p _ m.st;unfold Does at hd;obtain⟨hsn,hcap,hne,c,v,fs',w',hc,hne',hsim,hM,hdn⟩:=hd.resolve_left (m.h.novac m.atw);have ho:S.ch a=.open:=m.h.open_ hc λhp=>m.nb ⟨p,_,m.st,.inl hp⟩
 obtain⟨s0,hcc⟩:=m.h.chOpen hc ho;rw[hcap] at hcc;obtain⟨V,Z,FS',k1,k2,k3,k4,k5⟩:=hsim (D p).β (D p).FS hg.rel;have ltp:ι p<gs.size:=(Array.getElem?_eq_some_iff.1 (m.h.gat p m.atw)).1;by_cases hr:∃s' fl,S.st (K.R.receiver a)=.run s'/\wants s' a fl/\q (ι (K.R.receiver a))=0
 ·obtain⟨s',fl,hj,hw,hq⟩:=hr;obtain⟨j,hjd⟩:∃j,j=K.R.receiver a:=⟨_,rfl⟩;rw[←hjd] at hj hq;have aj:AtWork S j:=⟨_,hj⟩;have hjp:j≠p:=λe=>by rw[e,m.st] at hj;cases hj;exact hw
  have hι:ι j≠ι p:=λe=>hjp (m.h.inj _ _ aj m.atw e)
  have ltj:ι j<gs.size:=(Array.getElem?_eq_some_iff.1 (m.h.gat j aj)).1;obtain⟨Zj,hgj,hstj,hpar⟩:=m.h.theReceiver (i:=ι p) hc hj hw hq hι;have hrc:=(m.h.does _ _ hj).receiver (m.h.novac aj) hw;cases s' with
  | recv b G kj=>
   obtain⟨rfl,rfl⟩:=hw;by_cases hG:G m0
   ·obtain⟨V',Zs,Zr,FSi,FSj,e1,e2,e3,e4,e5⟩:=m.h.meet m.st hj hc ho hG;obtain⟨rfl,rfl⟩:=scase_inj (k2 true W) (e1 true W);obtain rfl:=rcase_inj (hstj true W) (e2 true W);have hgat:=m.h.gat j aj;rw[hgj] at hgat;have hrT:=crowd_send_meets (P:=P) (sl:=sl) (m.h.gat p m.atw) ((m.same _ W).trans (k2 _ W)) hcc hι hgat hpar;rw[finishComm_send,finishComm_recv,e3,e4,ofEvents_nil,Array.empty_append] at hrT;obtain⟨D',Sh',q',hmi⟩:=e5 ((gs.setIfInBounds (ι j) (gorL FSj)).setIfInBounds (ι p) (gorL FSi)) #[{ g:=ι p,fn:=(gorL (D p).FS).frame.fn,pos:=(gorL (D p).FS).frame.place,act:=.send c s0 },{ g:=ι j,fn:=(gorL (D j).FS).frame.fn,pos:=(gorL (D j).FS).frame.place,act:=.recv c s0 0 },{ g:=ι p,fn:=(gorL (D p).FS).frame.fn,pos:=(gorL (D p).FS).frame.place,act:=.sendDone c s0 },{ g:=ι j,fn:=(gorL (D j).FS).frame.fn,pos:=(gorL (D j).FS).frame.place,act:=.recvDone c s0 }] (s0+1) s0 (by simp) (by simp[ltp]) (by rw[Array.getElem?_setIfInBounds_ne (Ne.symm hι)];simp[ltj]) (λx hx1 hx2=>by rw[Array.getElem?_setIfInBounds_ne (Ne.symm hx1),Array.getElem?_setIfInBounds_ne (Ne.symm hx2)]) (quiet4 (a:=0)) ⟨0,_,rfl,rfl,rfl,3,_,by omega,rfl,rfl,rfl⟩;exact⟨_,_,_,_,hrT,m.nx p _ _ (move_send (W.tape,0,0) m.st hj hsn hjd.symm (Ne.symm hjp) ho hG) _ _ _ _ _ _ _ _ sl hmi⟩
   ·exact(m.nb ⟨p,_,m.st,.inr ⟨hsn,.inr ⟨G,kj,hjd ▸ hj,hG⟩⟩⟩).elim
  | shut b kj=>obtain⟨rfl,rfl⟩:=hw;exact(m.nb ⟨p,_,m.st,.inr ⟨hsn,.inl ⟨kj,hjd ▸ hj⟩⟩⟩).elim
  | get b G kj=>obtain⟨rfl,rfl⟩:=hw;have:=hrc.2.2 hcap;cases this
  | _=>exact hw.elim
 ·refine m.waits k2 (λcc hcc'=>?_) (.psend rfl hc k2) (λb m' k' e=>?_) (λb fl hb=>hb.elim) sl
  ·simp only[List.mem_toArray,List.mem_cons,List.not_mem_nil,or_false] at hcc';subst hcc';exact ways_send_none hcc (Nat.zero_le _) (m.h.noReceiver hc λs fl h1 h2 h3=>hr ⟨s,fl,h1,h2,h3⟩)
  ·cases e;refine⟨ho,λj s' fl h1 h2 h3=>hr ⟨s',fl,?_,h2,?_⟩⟩
   ·rw[((m.h.does j _ h1).receiver (m.h.novac ⟨_,h1⟩) h2).1];exact h1
   ·rw[((m.h.does j _ h1).receiver (m.h.novac ⟨_,h1⟩) h2).1];exact h3
theorem Mv.recv {p a:Nat}{G:Msg->Prop}{k:Msg->Scr Tpe Msg}(m:Mv P FN Post K N0 W0 κ S ν ι D Sh gs W t q p (.recv a G k))(sl:Option (Nat × Nat)):Goes1 P Post (ι p) gs W sl t:=by
 have hg:=m.h.gr p m.atw;have hd:=m.h.does p _ m.st;unfold Does at hd;obtain⟨hrr,hcap,hne,c,z,nx,hc,hsim,hdn⟩:=hd.resolve_left (m.h.novac m.atw);have ho:S.ch a=.open:=m.h.open_ hc λhp=>m.nb ⟨p,_,m.st,.inl hp⟩
 obtain⟨s0,hcc⟩:=m.h.chOpen hc ho;rw[hcap] at hcc;obtain⟨Z,k1,k2,k3⟩:=hsim (D p).β (D p).FS hg.rel;have ltp:ι p<gs.size:=(Array.getElem?_eq_some_iff.1 (m.h.gat p m.atw)).1;by_cases hr:∃m1 k1,S.st (K.R.sender a)=.run (.send a m1 k1)/\q (ι (K.R.sender a))=0
 ·obtain⟨m1,ks,hi,hq⟩:=hr;obtain⟨i,hid⟩:∃i,i=K.R.sender a:=⟨_,rfl⟩;rw[←hid] at hi hq;have ai:AtWork S i:=⟨_,hi⟩;have hip:i≠p:=λe=>by rw[e,m.st] at hi;cases hi
  have hι:ι i≠ι p:=λe=>hip (m.h.inj _ _ ai m.atw e)
  have lti:ι i<gs.size:=(Array.getElem?_eq_some_iff.1 (m.h.gat i ai)).1;obtain⟨V0,Z0,hgi,hsti,hpar⟩:=m.h.theSender (i:=ι p) hc hi hq hι;by_cases hG:G m1
  ·obtain⟨V,Zs,Zr,FSi,FSj,e1,e2,e3,e4,e5⟩:=m.h.meet hi m.st hc ho hG;obtain⟨rfl,rfl⟩:=scase_inj (hsti true W) (e1 true W);obtain rfl:=rcase_inj (k2 true W) (e2 true W);have hgat:=m.h.gat i ai;rw[hgi] at hgat;have hrT:=crowd_recv_meets (P:=P) (sl:=sl) (m.h.gat p m.atw) ((m.same _ W).trans (k2 _ W)) hcc hι hgat hpar;rw[finishComm_send,finishComm_recv,e3,e4,ofEvents_nil,Array.empty_append] at hrT;obtain⟨D',Sh',q',hmi⟩:=e5 ((gs.setIfInBounds (ι i) (gorL FSi)).setIfInBounds (ι p) (gorL FSj)) #[{ g:=ι i,fn:=(gorL (D i).FS).frame.fn,pos:=(gorL (D i).FS).frame.place,act:=.send c s0 },{ g:=ι p,fn:=(gorL (D p).FS).frame.fn,pos:=(gorL (D p).FS).frame.place,act:=.recv c s0 0 },{ g:=ι i,fn:=(gorL (D i).FS).frame.fn,pos:=(gorL (D i).FS).frame.place,act:=.sendDone c s0 },{ g:=ι p,fn:=(gorL (D p).FS).frame.fn,pos:=(gorL (D p).FS).frame.place,act:=.recvDone c s0 }] (s0+1) s0 (by simp) (by rw[Array.getElem?_setIfInBounds_ne (Ne.symm hι)];simp[lti]) (by simp[ltp]) (λx hx1 hx2=>by rw[Array.getElem?_setIfInBounds_ne (Ne.symm hx2),Array.getElem?_setIfInBounds_ne (Ne.symm hx1)]) (quiet4 (a:=0)) ⟨0,_,rfl,rfl,rfl,3,_,by omega,rfl,rfl,rfl⟩;exact⟨_,_,_,_,hrT,m.nx i _ _ (move_send (W.tape,0,0) hi m.st hid.symm hrr hip ho hG) _ _ _ _ _ _ _ _ sl hmi⟩
  ·exact(m.nb ⟨i,_,hi,.inr ⟨hid.symm,.inr ⟨G,k,by rw[hrr];exact m.st,hG⟩⟩⟩).elim
 ·refine m.waits k2 (λcc hcc'=>?_) (.precv (show wants _ a true from ⟨rfl,rfl⟩) hc k2) (λb m' k' e=>by cases e) (λb fl hb=>?_) sl
  ·simp only[List.mem_toArray,List.mem_cons,List.not_mem_nil,or_false] at hcc';subst hcc';exact ways_recv_none hcc (m.h.noSender hc λm1 k1 h1 h2=>hr ⟨m1,k1,h1,h2⟩)
  ·obtain⟨rfl,rfl⟩:=hb;refine⟨ho,λi m1 k1 h1 h2=>hr ⟨m1,k1,?_,?_⟩⟩
   ·rw[((m.h.does i _ h1).sender (m.h.novac ⟨_,h1⟩)).1];exact h1
   ·rw[((m.h.does i _ h1).sender (m.h.novac ⟨_,h1⟩)).1];exact h2
end
end Go.Fw
end
