/-
  Part 25 of the common ground of this seat: what single parts show stands ahead of each.
  No condition.
-/
import Derived.Test.YtkmgcggoemlaaaaGreatDoorJ24
set_option linter.unusedSimpArgs false
set_option linter.unusedVariables false
set_option linter.constructorNameAsVariable false
section
/- A network in the machine: what is known of it; who moves. -/
namespace Go.Fw
open Go Go.Conc Go.Net
open Go.ConcN (sumTo sumTo_upd)
variable {P:Program} {FN:FuncId->Bool}
def wants (s:Scr Tpe Msg)(a:Nat)(fl:Bool):Prop:=match s with
 | .recv b _ _=>b=a/\fl=true
 | .shut b _=>b=a/\fl=true
 | .get b _ _=>b=a/\fl=false
 | _=>False
inductive Sit (P:Program) (ν:Nat->Option Nat) (s:Scr Tpe Msg) (FS:List Frame):Nat->Goroutine->Prop
 | run:Sit P ν s FS 1 (gorL FS)
 | unborn {g:Goroutine} (hg:g.status=.running) (h:∀m W,stepG P m g W=.go (gorL FS) W #[]):Sit P ν s FS 2 g
 | psend {a c:Nat} {m:Msg} {k:Scr Tpe Msg} {V Z:Value} (hs:s=.send a m k) (hc:ν a=some c) (h:∀m W,stepG P m (gorL FS) W=.comm (gorL FS) #[scase c V Z] true .send W #[]):Sit P ν s FS 0 (parked (gorL FS) #[scase c V Z] .send)
 | precv {a c:Nat} {fl:Bool} {Z:Value} (hs:wants s a fl) (hc:ν a=some c) (h:∀m W,stepG P m (gorL FS) W=.comm (gorL FS) #[rcase c Z] true (.recv fl) W #[]):Sit P ν s FS 0 (parked (gorL FS) #[rcase c Z] (.recv fl))
 | wk {a:Nat} {fl:Bool} {cs:Array CommCase} {sh:CommShape} (hs:wants s a fl):Sit P ν s FS 1 { parked (gorL FS) cs sh with status:=.running }
structure PD (P:Program) where
 σ:Pst
 β:Ren P.globals.size
 FS:List Frame
 g:Goroutine
def RngL (d:PD P)(B:Nat):Prop:=Rng d.β B\/d.σ.lp B≠none
def AtWork (S:Net.St Tpe Msg)(p:Nat):Prop:=∃s,S.st p=.run s
def ChR (P:Program)(FN:FuncId->Bool)(K:Cfg)(κ:Ren P.globals.size)(W:World)(ν:Nat->Option Nat)(a:Nat):CS Msg->Prop
 | .none=>ν a=none
 | .open=>∃c s,ν a=some c/\W.heap[c]? = some (.chan (K.cap a) #[] false s s false)
 | .full m=>∃c s v V,ν a=some c/\m=.val v/\VR FN κ v V/\K.cap a=1/\W.heap[c]? = some (.chan 1 #[V] false (s+1) s false)
 | .spent=>∃c s,ν a=some c/\W.heap[c]? = some (.chan (K.cap a) #[] false s s false)
 | .closed=>∃c s,ν a=some c/\K.cap a=0/\W.heap[c]? = some (.chan 0 #[] true s s false)
 | .over=>∃c s,ν a=some c/\W.heap[c]? = some (.chan 0 #[] true s s false)
structure MI (P:Program) (FN:FuncId->Bool) (K:Cfg) (N0:Nat) (W0:World) (κ:Ren P.globals.size) (S:Net.St Tpe Msg) (ν:Nat->Option Nat) (ι:Nat->Nat) (D:Nat->PD P) (Sh:Nat->Prop) (gs:Array Goroutine) (W:World) (t:Trace) (q:Nat->Nat):Prop where
 zero:ι 0=0
 main:AtWork S 0
 inj:∀p p',AtWork S p->AtWork S p'->ι p=ι p'->p=p'
 gat:∀p,AtWork S p->gs[ι p]? = some (D p).g
 sit:∀p s,S.st p=.run s->Sit P ν s (D p).FS (q (ι p)) (D p).g
 does:∀p s,S.st p=.run s->Does P FN K ν p s (D p).σ
 gr:∀p,AtWork S p->GR P FN (D p).β (D p).σ (D p).FS W
 le:∀p,AtWork S p->κ.le (D p).β
 x0:K.X0 0/\K.X0 P.globals.size
 dom:∀b,K.X0 b->κ.f b≠none
 kx:∀b B,κ.f b=some B->K.X0 b
 sep:∀p p',AtWork S p->AtWork S p'->p≠p'->∀B,Rng (D p).β B->Rng (D p').β B->Sh B
 frz:∀p,AtWork S p->∀b B,(D p).β.f b=some B->Sh B->Fz (D p).σ.w b
 shlt:∀B,Sh B->B<W.heap.size
 lps:∀p p',AtWork S p->AtWork S p'->∀l,(D p).σ.lp l≠none->(D p').σ.lp l≠none->p=p'
 lp0:∀p,AtWork S p->∀l,(D p).σ.lp l≠none->N0<=l
 lpsh:∀p,AtWork S p->∀l,(D p).σ.lp l≠none->¬Sh l
 chan:∀a,ChR P FN K κ W ν a (S.ch a)
 ch0:∀a c,ν a=some c->N0<=c
 chi:∀a b c,ν a=some c->ν b=some c->a=b
 n0:N0<=W.heap.size
 old:∀B,B<N0->Sh B/\W.heap[B]? = W0.heap[B]?
 os:W.os=W0.os
 out:W.output=W0.output
 tp:W.tape=W0.tape
 lv:∀i g,gs[i]? = some g->(∀p,AtWork S p->ι p≠i)->QuitsD P (q i) (Deaf t i) g
 above:∀j,gs.size<=j->Deaf t j=0
 tr:NT (λg=>∃p,AtWork S p/\ι p=g) (λg B=>∃p,AtWork S p/\ι p=g/\RngL (D p) B) Sh W.heap.size (λc=>∃a,S.ch a=.closed/\ν a=some c) (λc=>∃a,ν a=some c) t
 pk:∀a i j m k s,S.st i=.run (.send a m k)->q (ι i)=0->S.st j=.run s->(∃fl,wants s a fl)->q (ι j)=0->False
 pr:∀j s a fl,S.st j=.run s->wants s a fl->q (ι j)=0->S.ch a=.open
 ps:∀i a m k,S.st i=.run (.send a m k)->q (ι i)=0->S.ch a=.open
section
variable {K:Cfg} {N0:Nat} {W0:World} {κ:Ren P.globals.size} {S:Net.St Tpe Msg} {ν:Nat->Option Nat} {ι:Nat->Nat} {D:Nat->PD P} {Sh:Nat->Prop} {gs:Array Goroutine} {W:World} {t:Trace} {q:Nat->Nat}
theorem GR.at_ {β:Ren P.globals.size}{σ:Pst}{FS:List Frame}(h:GR P FN β σ FS W)(d:Nat):GR P FN β σ FS (W.at d):=⟨h.rel,h.wr.heap rfl rfl,h.lpr⟩
theorem ChR.of_heap {W W':World}{a:Nat}{y:CS Msg}(h:ChR P FN K κ W ν a y)(hk:∀c,ν a=some c->W'.heap[c]? = W.heap[c]?):ChR P FN K κ W' ν a y:=by
 cases y with
 | none=>exact h
 | «open»=>obtain⟨c,s,h1,h2⟩:=h;exact⟨c,s,h1,(hk c h1).trans h2⟩
 | full m=>obtain⟨c,s,v,V,h1,h2,h3,h4,h5⟩:=h;exact⟨c,s,v,V,h1,h2,h3,h4,(hk c h1).trans h5⟩
 | spent=>obtain⟨c,s,h1,h2⟩:=h;exact⟨c,s,h1,(hk c h1).trans h2⟩
 | closed=>obtain⟨c,s,h1,h2,h3⟩:=h;exact⟨c,s,h1,h2,(hk c h1).trans h3⟩
 | over=>obtain⟨c,s,h1,h2⟩:=h;exact⟨c,s,h1,(hk c h1).trans h2⟩
theorem MI.at_ (h:MI P FN K N0 W0 κ S ν ι D Sh gs W t q)(d:Nat):MI P FN K N0 W0 κ S ν ι D Sh gs (W.at d) t q:=
 {h with gr:=λp hp=>(h.gr p hp).at_ d,chan:=λa=>(h.chan a).of_heap λ_ _=>rfl }
theorem MI.chanAt (h:MI P FN K N0 W0 κ S ν ι D Sh gs W t q){a c:Nat}(hc:ν a=some c):∃cap buf cl s r,W.heap[c]? = some (.chan cap buf cl s r false):=by
 have:=h.chan a;cases hy:S.ch a with
 | none=>rw[hy] at this;have h2:ν a=none:=this;rw[hc] at h2;cases h2
 | «open»=>rw[hy] at this;obtain⟨c',s,h1,h2⟩:=this;rw[hc] at h1;cases h1;exact⟨_,_,_,_,_,h2⟩
 | full m=>rw[hy] at this;obtain⟨c',s,v,V,h1,_,_,_,h2⟩:=this;rw[hc] at h1;cases h1;exact⟨_,_,_,_,_,h2⟩
 | spent=>rw[hy] at this;obtain⟨c',s,h1,h2⟩:=this;rw[hc] at h1;cases h1;exact⟨_,_,_,_,_,h2⟩
 | closed=>rw[hy] at this;obtain⟨c',s,h1,_,h2⟩:=this;rw[hc] at h1;cases h1;exact⟨_,_,_,_,_,h2⟩
 | over=>rw[hy] at this;obtain⟨c',s,h1,h2⟩:=this;rw[hc] at h1;cases h1;exact⟨_,_,_,_,_,h2⟩
theorem MI.chlt (h:MI P FN K N0 W0 κ S ν ι D Sh gs W t q){a c:Nat}(hc:ν a=some c):c<W.heap.size:=by
 obtain⟨_,_,_,_,_,e⟩:=h.chanAt hc;exact(Array.getElem?_eq_some_iff.1 e).1
theorem MI.chrng (h:MI P FN K N0 W0 κ S ν ι D Sh gs W t q){a c:Nat}(hc:ν a=some c){p:Nat}(hp:AtWork S p):¬Rng (D p).β c:=by
 obtain⟨_,_,_,_,_,e⟩:=h.chanAt hc;rintro⟨b,hb⟩;exact chan_notin (h.gr p hp).wr e b hb
theorem MI.chlp (h:MI P FN K N0 W0 κ S ν ι D Sh gs W t q){a c:Nat}(hc:ν a=some c){p:Nat}(hp:AtWork S p):(D p).σ.lp c=none:=by
 obtain⟨_,_,_,_,_,e⟩:=h.chanAt hc;cases hl:(D p).σ.lp c with
 | none=>rfl
 | some o=>
  obtain⟨O,h1,h2⟩:=(h.gr p hp).lpr c o hl;rw[e] at h1;exact absurd (Option.some.inj h1).symm (h2.kind.2.2 _ _ _ _ _ _)
theorem MI.rnglt (h:MI P FN K N0 W0 κ S ν ι D Sh gs W t q){p:Nat}(hp:AtWork S p){B:Nat}(hb:Rng (D p).β B):B<W.heap.size:=by
 obtain⟨b,hb⟩:=hb;exact((h.gr p hp).wr.lt hb).2
theorem MI.lpat (h:MI P FN K N0 W0 κ S ν ι D Sh gs W t q){p l:Nat}(hp:AtWork S p)(hl:(D p).σ.lp l≠none):l<W.heap.size/\∀p',AtWork S p'->¬Rng (D p').β l:=by
 obtain⟨o,ho⟩:=Option.ne_none_iff_exists'.1 hl;obtain⟨O,e1,e2⟩:=(h.gr p hp).lpr l o ho;refine⟨(Array.getElem?_eq_some_iff.1 e1).1,λp' hp' ⟨b,hb⟩=>?_⟩;obtain⟨k1,k2,_⟩:=e2.kind;rcases(h.gr p' hp').wr.blk b l hb with⟨c,C,t,fr,FR,_,e3,_⟩|⟨a,A,n,_,e3,_⟩
 ·rw[e1] at e3;exact k1 _ _ _ (Option.some.inj e3)
 ·rw[e1] at e3;exact k2 _ _ (Option.some.inj e3)
theorem MI.rltL (h:MI P FN K N0 W0 κ S ν ι D Sh gs W t q){p B:Nat}(hp:AtWork S p)(hb:RngL (D p) B):B<W.heap.size:=hb.elim (h.rnglt hp) λhl=>(h.lpat hp hl).1
theorem MI.chrngL (h:MI P FN K N0 W0 κ S ν ι D Sh gs W t q){a c:Nat}(hc:ν a=some c){p:Nat}(hp:AtWork S p):¬RngL (D p) c:=λhb=>hb.elim (h.chrng hc hp) λhl=>hl (h.chlp hc hp)
theorem MI.sepL (h:MI P FN K N0 W0 κ S ν ι D Sh gs W t q){p p' B:Nat}(hp:AtWork S p)(hp':AtWork S p')(hne:p≠p')(h1:RngL (D p) B)(h2:RngL (D p') B):Sh B:=by
 rcases h1 with h1|h1
 ·rcases h2 with h2 | h2
  ·exact h.sep p p' hp hp' hne B h1 h2
  ·exact absurd h1 ((h.lpat hp' h2).2 p hp)
 ·rcases h2 with h2 | h2
  ·exact absurd h2 ((h.lpat hp h1).2 p' hp')
  ·exact absurd (h.lps p p' hp hp' B h1 h2) hne
theorem Sit.fs {s:Scr Tpe Msg}{FS:List Frame}{k:Nat}{g:Goroutine}(h:Sit P ν s FS k g)(hne:FS≠[]):awake g/\(0<k->g.status=.running)/\(g.status=.running->0<k):=by
 cases h with
 | run=>exact⟨awake_of (.inl (gorL_running hne)),λ_=>gorL_running hne,λ_=>Nat.one_pos⟩
 | unborn hg _=>exact⟨awake_of (.inl hg),λ_=>hg,λ_=>Nat.two_pos⟩
 | psend _ _ _=>exact⟨awake_of (.inr (.inl rfl)),λh=>absurd h (by simp),λh=>by cases h⟩
 | precv _ _ _=>exact⟨awake_of (.inr (.inl rfl)),λh=>absurd h (by simp),λh=>by cases h⟩
 | wk _=>exact⟨awake_of (.inl rfl),λ_=>rfl,λ_=>Nat.one_pos⟩
theorem Sit.woken_ {s:Scr Tpe Msg}{FS:List Frame}{k:Nat}{g:Goroutine}(h:Sit P ν s FS k g)(hne:FS≠[]){x x':Goroutine}{W':World}(hc:∀a c,k=0->ν a=some c->((∃m k,s=.send a m k)\/∃fl,wants s a fl)->∃cap buf s r,W'.heap[c]? = some (.chan cap buf false s r false)):woken P x x' W' g=g:=by
 cases h with
 | run=>exact woken_run (gorL_running hne)
 | unborn hg _=>exact woken_run hg
 | psend hs hν _=>
  obtain⟨_,_,_,_,e⟩:=hc _ _ rfl hν (.inl ⟨_,_,hs⟩);exact woken_send_open _ _ e
 | precv hs hν _=>
  obtain⟨_,_,_,_,e⟩:=hc _ _ rfl hν (.inr ⟨_,hs⟩);exact woken_recv_open _ _ e
 | wk _=>exact woken_run (by first | rfl | trivial)
theorem MI.woken_ (h:MI P FN K N0 W0 κ S ν ι D Sh gs W t q){W':World}(hk:∀a c,ν a=some c->S.ch a=.open->W'.heap[c]? = W.heap[c]?){p:Nat}(hp:AtWork S p)(hne:(D p).FS≠[]){x x':Goroutine}:woken P x x' W' (D p).g=(D p).g:=by
 obtain⟨s,hs⟩:=hp;refine(h.sit p s hs).woken_ hne λa c hq hc hw=>?_
 have ho:S.ch a=.open:=by
  rcases hw with⟨m,k,rfl⟩|⟨fl,hw⟩
  ·exact h.ps p a m k hs hq
  ·exact h.pr p s a fl hs hw hq
 have hch:=h.chan a;rw[ho] at hch;obtain⟨c',s',e1,e2⟩:=hch;rw[hc] at e1;cases e1;exact⟨_,_,_,_,(hk a c hc ho).trans e2⟩
theorem MI.ne (h:MI P FN K N0 W0 κ S ν ι D Sh gs W t q){p:Nat}(hp:AtWork S p):(D p).FS≠[]:=by
 obtain⟨s,hs⟩:=hp;have hg:=h.gr p ⟨s,hs⟩;have hd:=h.does p s hs;refine frs_ne hg.rel ?_;have nv:¬Vac P FN (D p).σ:=λv=>v _ _ _ hg
 cases s<;>unfold Does at hd<;>have hd:=hd.resolve_left nv
 ·exact hd.1
 ·exact hd.2.1
 ·exact hd.2.2.1
 ·exact hd.2.2.1
 ·exact hd.2.2.1
 ·exact hd.2.2.2.1
 ·exact hd.2.2.1
 ·exact hd.2.2.1
 ·exact hd.2.2.1
 ·exact hd.2.1
theorem MI.novac (h:MI P FN K N0 W0 κ S ν ι D Sh gs W t q){p:Nat}(hp:AtWork S p):¬Vac P FN (D p).σ:=λv=>v _ _ _ (h.gr p hp)
end
end Go.Fw
end
section
/- A network in the machine: a leaver moves; a participant's own step. -/
namespace Go.Fw
open Go Go.Conc Go.Net
open Go.ConcN (sumTo sumTo_upd)
variable {P:Program} {FN:FuncId->Bool}
section
variable {K:Cfg} {N0:Nat} {W0:World} {κ:Ren P.globals.size} {S:Net.St Tpe Msg} {ν:Nat->Option Nat} {ι:Nat->Nat} {D:Nat->PD P} {Sh:Nat->Prop} {gs:Array Goroutine} {W:World} {t:Trace} {q:Nat->Nat}
theorem MI.leaver (h:MI P FN K N0 W0 κ S ν ι D Sh gs W t q){sl:Option (Nat × Nat)}{i:Nat}{g:Goroutine}(hi:gs[i]? = some g)(hg:g.status=.running)(hn:∀p,AtWork S p->ι p≠i) :
  ∃gs' ops q',runT P (crowd gs W sl) i=(.next (crowd gs' W sl),ops)/\MI P FN K N0 W0 κ S ν ι D Sh gs' W (t++ops) q'/\gs'.size=gs.size/\sumTo gs'.size q'<sumTo gs.size q/\(∀p,AtWork S p->q' (ι p)=q (ι p)):=by
 have h00:AtWork S 0->i≠0:=λh0 e=>hn 0 h0 (by rw[h.zero,e])
 have hQ:=h.lv i g hi hn;cases hk:q i with
 | zero=>rw[hk] at hQ;rw[hQ.1] at hg;cases hg
 | succ k=>
  rw[hk] at hQ;rcases hQ with⟨hf,_⟩|⟨_,g',es,hm,hstp,hq'⟩
  ·rw[hf] at hg;cases hg
  by_cases hi0:i=0
  ·
   exact(h00 h.main hi0).elim
  ·have hi0':(i == 0)=false:=by simpa using hi0
   have hrT:=runT_crowd_go (P:=P) (sl:=sl) (i:=i) hi (by rw[hi0'];exact hstp W);have hlt:i<gs.size:=(Array.getElem?_eq_some_iff.1 hi).1;have hsz:((gs.map (woken P g g' W)).setIfInBounds i g').size=gs.size:=by simp
   have hsum:sumTo gs.size (ConcN.upd q i k)+(k+1)=sumTo gs.size q+k:=by
    have:=sumTo_upd q k id hlt;simpa[hk] using this
   have hqp:∀p,AtWork S p->ConcN.upd q i k (ι p)=q (ι p):=λp hp=>ConcN.upd_ne q k (hn p hp)
   have hu:∀op∈MemOp.ofEvents i g.frame.fn g.frame.place es,op.g=i:=λop hop=>by obtain⟨e,_,rfl⟩:=Go.Conc.mem_ofEvents hop;rfl
   refine⟨_,_,ConcN.upd q i k,hrT,?_,hsz,by rw[hsz];omega,hqp⟩;refine { h with gat:=λp hp=>?_,sit:=λp s hs=>?_,lv:=λj x hj hnj=>?_,above:=λj hj=>?_,tr:=?_,pk:=λa p p' m k' s h1 h2 h3 h4 h5=>?_,pr:=λj s a fl h1 h2 h3=>?_,ps:=λp a m k' h1 h2=>?_ }
   ·rw[Array.getElem?_setIfInBounds_ne (λe=>hn p hp e.symm),Array.getElem?_map,h.gat p hp];simp[h.woken_ (λ_ _ _ _=>rfl) hp (h.ne hp)]
   ·rw[hqp p ⟨s,hs⟩];exact h.sit p s hs
   ·by_cases hji:i=j
    ·subst hji;rw[Array.getElem?_setIfInBounds_self_of_lt (by simpa using hlt)] at hj;obtain rfl:=Option.some.inj hj;rw[ConcN.upd_same,Deaf_own];exact hq'
    ·rw[Array.getElem?_setIfInBounds_ne hji,Array.getElem?_map] at hj;obtain⟨y,hy,rfl⟩:=Option.map_eq_some_iff.1 hj;have hqj:=h.lv j y hy hnj;rw[woken_quitsD hqj,ConcN.upd_ne q k (Ne.symm hji),Deaf_other t hji _ hu];exact hqj
   ·rw[Deaf_other t (g':=i) (by simp at hj;omega) _ hu];exact h.above j (by simpa using hj)
   ·exact h.tr.mute (λ⟨p,hp,e⟩=>hn p hp e) hm
   ·rw[hqp p ⟨_,h1⟩] at h2;rw[hqp p' ⟨_,h3⟩] at h5;exact h.pk a p p' m k' s h1 h2 h3 h4 h5
   ·rw[hqp j ⟨_,h1⟩] at h3;exact h.pr j s a fl h1 h2 h3
   ·rw[hqp p ⟨_,h1⟩] at h2;exact h.ps p a m k' h1 h2
theorem MI.own (h:MI P FN K N0 W0 κ S ν ι D Sh gs W t q){p:Nat}(hp:AtWork S p){s':Scr Tpe Msg}{σ':Pst}{γ:Ren P.globals.size}{FS':List Frame}{W':World}{ES:Array Event}{x:Goroutine}{fn:FuncId}{pos:String}
  (hg:GR P FN γ σ' FS' W') (hs:StR (D p).β γ (D p).σ σ' W W') (he:∀e∈ES,EvL γ σ' W' e) (hd:Does P FN K ν p s' σ') :
  MI P FN K N0 W0 κ ⟨Net.upd S.st p (.run s'),S.ch⟩ ν ι (Net.upd D p ⟨σ',γ,FS',gorL FS'⟩) Sh ((gs.map (woken P x (gorL FS') W')).setIfInBounds (ι p) (gorL FS')) W' (t++MemOp.ofEvents (ι p) fn pos ES) (ConcN.upd q (ι p) 1):=by
 have live:∀p',AtWork ⟨Net.upd S.st p (.run s'),S.ch⟩ p'↔AtWork S p':=λp'=>by
  by_cases e:p'=p
  ·subst e;exact⟨λ_=>hp,λ_=>⟨s',Net.upd_same _ _ _⟩⟩
  ·unfold AtWork;rw[show (Net.St.mk (Net.upd S.st p (.run s')) S.ch).st p'=S.st p' from Net.upd_ne _ _ e]
 have hι:∀p',AtWork S p'->p'≠p->ι p'≠ι p:=λp' h1 h2 e=>h2 (h.inj p' p h1 hp e)
 have hD:Net.upd D p ⟨σ',γ,FS',gorL FS'⟩ p=⟨σ',γ,FS',gorL FS'⟩:=Net.upd_same _ _ _;have hD':∀p',p'≠p->Net.upd D p ⟨σ',γ,FS',gorL FS'⟩ p'=D p':=λp' e=>Net.upd_ne _ _ e
 have hst:∀p',p'≠p->(Net.St.mk (Net.upd S.st p (.run s')) S.ch).st p'=S.st p':=λp' e=>Net.upd_ne _ _ e
 have hlt:ι p<gs.size:=(Array.getElem?_eq_some_iff.1 (h.gat p hp)).1;have hgp:=h.gr p hp;have kpR:∀p',AtWork S p'->p'≠p->∀B,Rng (D p').β B->W'.heap[B]? = W.heap[B]?:=λp' h1 h2 B hB=>by
  refine hs.keep B (h.rnglt h1 hB) (λb hb=>h.frz p hp b B hb (h.sep p p' hp h1 (Ne.symm h2) B ⟨b,hb⟩ hB)) ?_;cases hl:(D p).σ.lp B with
  | none=>rfl
  | some o=>exact absurd hB (λ⟨b,hb⟩=>by
    obtain⟨O,e1,e2⟩:=hgp.lpr B o hl;obtain⟨k1,k2,_⟩:=e2.kind;rcases(h.gr p' h1).wr.blk b B hb with⟨c,C,t,fr,FR,_,e3,_⟩|⟨a,A,n,_,e3,_⟩
    ·rw[e1] at e3;exact k1 _ _ _ (Option.some.inj e3)
    ·rw[e1] at e3;exact k2 _ _ (Option.some.inj e3))
 have kpC:∀a c,ν a=some c->W'.heap[c]? = W.heap[c]?:=λa c hc=>hs.keep c (h.chlt hc) (λb hb=>absurd ⟨b,hb⟩ (h.chrng hc hp)) (h.chlp hc hp)
 have kpO:∀B,B<N0->W'.heap[B]? = W.heap[B]?:=λB hB=>by
  refine hs.keep B (by have:=h.n0;omega) (λb hb=>h.frz p hp b B hb (h.old B hB).1) ?_;cases hl:(D p).σ.lp B with
  | none=>rfl
  | some o=>exact absurd (h.lp0 p hp B (by rw[hl];simp)) (by omega)
 have kpL:∀p',AtWork S p'->p'≠p->∀l,(D p').σ.lp l≠none->W'.heap[l]? = W.heap[l]?:=λp' h1 h2 l hl=>by
  obtain⟨o,ho⟩:=Option.ne_none_iff_exists'.1 hl;obtain⟨O,e1,e2⟩:=(h.gr p' h1).lpr l o ho;refine hs.keep l (Array.getElem?_eq_some_iff.1 e1).1 (λb hb=>?_) ?_
  ·exfalso;obtain⟨k1,k2,_⟩:=e2.kind;rcases hgp.wr.blk b l hb with⟨c,C,t,fr,FR,_,e3,_⟩|⟨a,A,n,_,e3,_⟩
   ·rw[e1] at e3;exact k1 _ _ _ (Option.some.inj e3)
   ·rw[e1] at e3;exact k2 _ _ (Option.some.inj e3)
  ·cases hl2:(D p).σ.lp l with
   | none=>rfl
   | some o2=>exact absurd (h.lps p' p h1 hp l hl (by rw[hl2];simp)) h2
 have kpRng:∀B,Rng γ B->Rng (D p).β B\/W.heap.size<=B:=λB ⟨b,hb⟩=>(hs.new_ b B hb).imp (λx=>⟨b,x⟩) (λx=>x.2)
 have hsz:=hs.size;have kpL2:∀B,(Rng γ B\/σ'.lp B≠none)->RngL (D p) B\/W.heap.size<=B:=λB hB=>hB.elim (λx=>(kpRng B x).imp .inl id) λx=>(hs.lpn B x).imp .inr id
 have hu:∀op∈MemOp.ofEvents (ι p) fn pos ES,op.g=ι p:=λop hop=>by obtain⟨e,_,rfl⟩:=Go.Conc.mem_ofEvents hop;rfl
 have rngS:∀p' B,AtWork S p'->p'≠p->Rng γ B->Rng (D p').β B->Sh B:=λp' B h1 h2 h3 h4=>by
  rcases kpRng B h3 with x|x
  ·exact h.sep p p' hp h1 (Ne.symm h2) B x h4
  ·have:=h.rnglt h1 h4;omega
 have dβ:∀p',Rng (Net.upd D p ⟨σ',γ,FS',gorL FS'⟩ p').β=if p'=p then Rng γ else Rng (D p').β:=λp'=>by
  by_cases e:p'=p
  ·subst e;rw[hD,if_pos rfl]
  ·rw[hD' p' e,if_neg e]
 refine { h with main:=(live 0).2 h.main,inj:=λa b h1 h2=>h.inj a b ((live a).1 h1) ((live b).1 h2),gat:=λp' h1=>?_,sit:=λp' s h1=>?_,does:=λp' s h1=>?_,gr:=λp' h1=>?_,le:=λp' h1=>?_,sep:=λa b h1 h2 hne B h3 h4=>?_,frz:=λp' h1 b B hb hB=>?_,shlt:=λB hB=>Nat.lt_of_lt_of_le (h.shlt B hB) hsz,lps:=λa b h1 h2 l h3 h4=>?_,lp0:=λp' h1 l h3=>?_,lpsh:=λp' h1 l h3=>?_,chan:=λa=>(h.chan a).of_heap λc hc=>kpC a c hc,n0:=by have:=h.n0;omega,old:=λB hB=>⟨(h.old B hB).1,(kpO B hB).trans (h.old B hB).2⟩,os:=hs.os.trans h.os,out:=hs.out.trans h.out,tp:=hs.tape.trans h.tp,lv:=λi g hi hn=>?_,above:=λj hj=>?_,tr:=?_,pk:=λa i j m k s h1 h2 h3 h4 h5=>?_,pr:=λj s a fl h1 h2 h3=>?_,ps:=λi a m k h1 h2=>?_ }
 ·have h1':=(live p').1 h1;by_cases e:p'=p
  ·subst e;rw[hD,Array.getElem?_setIfInBounds_self_of_lt (by simpa using hlt)]
  ·rw[hD' p' e,Array.getElem?_setIfInBounds_ne (Ne.symm (hι p' h1' e)),Array.getElem?_map,h.gat p' h1'];simp[h.woken_ (λa c hc _=>kpC a c hc) h1' (h.ne h1')]
 ·by_cases e:p'=p
  ·subst e;rw[hD,ConcN.upd_same];exact .run
  ·rw[hst p' e] at h1;rw[hD' p' e,ConcN.upd_ne q 1 (hι p' ⟨s,h1⟩ e)];exact h.sit p' s h1
 ·by_cases e:p'=p
  ·subst e;have:PS.run s'=PS.run s:=(Net.upd_same S.st p' (PS.run s')).symm.trans h1;cases this;rw[hD];exact hd
  ·rw[hst p' e] at h1;rw[hD' p' e];exact h.does p' s h1
 ·have h1':=(live p').1 h1;by_cases e:p'=p
  ·subst e;rw[hD];exact hg
  ·rw[hD' p' e];have hg':=h.gr p' h1';refine⟨hg'.rel,⟨λb B hb=>by rw[kpR p' h1' e B ⟨b,hb⟩];exact hg'.wr.blk b B hb,hg'.wr.gl,Nat.le_trans hg'.wr.gr hsz⟩,λl o hl=>?_⟩;obtain⟨O,e1,e2⟩:=hg'.lpr l o hl;exact⟨O,(kpL p' h1' e l (by rw[hl];simp)).trans e1,e2⟩
 ·by_cases e:p'=p
  ·subst e;rw[hD];exact Ren.le_trans (h.le p' hp) hs.le
  ·rw[hD' p' e];exact h.le p' ((live p').1 h1)
 ·have h1':=(live a).1 h1;have h2':=(live b).1 h2;rw[dβ] at h3 h4;by_cases ea:a=p
  ·subst ea;rw[if_pos rfl] at h3;rw[if_neg (Ne.symm hne)] at h4;exact rngS b B h2' (Ne.symm hne) h3 h4
  ·rw[if_neg ea] at h3;by_cases eb:b=p
   ·subst eb;rw[if_pos rfl] at h4;exact rngS a B h1' ea h4 h3
   ·rw[if_neg eb] at h4;exact h.sep a b h1' h2' hne B h3 h4
 ·by_cases e:p'=p
  ·subst e;rw[hD] at hb ⊢;rcases hs.new_ b B hb with x|⟨_,x⟩
   ·exact hs.fzk b B x (h.frz p' hp b B x hB)
   ·have:=h.shlt B hB;omega
  ·rw[hD' p' e] at hb ⊢;exact h.frz p' ((live p').1 h1) b B hb hB
 ·have h1':=(live a).1 h1;have h2':=(live b).1 h2;have key:∀c,AtWork S c->c≠p->(D c).σ.lp l≠none->σ'.lp l≠none->False:=λc hc hcp k1 k2=>by
   rcases hs.lpn l k2 with x|x
   ·exact hcp (h.lps c p hc hp l k1 x)
   ·obtain⟨o,ho⟩:=Option.ne_none_iff_exists'.1 k1;obtain⟨O,e1,_⟩:=(h.gr c hc).lpr l o ho;have:=(Array.getElem?_eq_some_iff.1 e1).1;omega
  by_cases ea:a=p
  ·by_cases eb:b=p
   ·rw[ea,eb]
   ·subst ea;rw[hD] at h3;rw[hD' b eb] at h4;exact(key b h2' eb h4 h3).elim
  ·rw[hD' a ea] at h3;by_cases eb:b=p
   ·subst eb;rw[hD] at h4;exact(key a h1' ea h3 h4).elim
   ·rw[hD' b eb] at h4;exact h.lps a b h1' h2' l h3 h4
 ·by_cases e:p'=p
  ·subst e;rw[hD] at h3;rcases hs.lpn l h3 with x|x
   ·exact h.lp0 p' hp l x
   ·have:=h.n0;omega
  ·rw[hD' p' e] at h3;exact h.lp0 p' ((live p').1 h1) l h3
 ·by_cases e:p'=p
  ·subst e;rw[hD] at h3;rcases hs.lpn l h3 with x|x
   ·exact h.lpsh p' hp l x
   ·intro hS;have:=h.shlt l hS;omega
  ·rw[hD' p' e] at h3;exact h.lpsh p' ((live p').1 h1) l h3
 ·have hi':i≠ι p:=λe=>hn p ((live p).2 hp) e.symm
  rw[Array.getElem?_setIfInBounds_ne (Ne.symm hi'),Array.getElem?_map] at hi;obtain⟨y,hy,rfl⟩:=Option.map_eq_some_iff.1 hi;have hq:=h.lv i y hy λp' h1=>hn p' ((live p').2 h1)
  rw[woken_quitsD hq,ConcN.upd_ne q 1 hi',Deaf_other t (Ne.symm hi') _ hu];exact hq
 ·rw[Deaf_other t (g':=ι p) (by simp at hj;omega) _ hu];exact h.above j (by simpa using hj)
 ·have frz':∀b B,γ.f b=some B->Sh B->Fz σ'.w b:=λb B hb hB=>by
   rcases hs.new_ b B hb with x|⟨_,x⟩
   ·exact hs.fzk b B x (h.frz p hp b B x hB)
   ·have:=h.shlt B hB;omega
  have hlive:(λg=>∃p',AtWork ⟨Net.upd S.st p (.run s'),S.ch⟩ p'/\ι p'=g)=λg=>∃p',AtWork S p'/\ι p'=g:=funext λg=>propext ⟨λ⟨p',a,b⟩=>⟨p',(live p').1 a,b⟩,λ⟨p',a,b⟩=>⟨p',(live p').2 a,b⟩⟩
  have hat:∀B,(∃p',AtWork ⟨Net.upd S.st p (.run s'),S.ch⟩ p'/\ι p'=ι p/\RngL (Net.upd D p ⟨σ',γ,FS',gorL FS'⟩ p') B)↔(Rng γ B\/σ'.lp B≠none):=λB=>by
   constructor
   ·rintro⟨p',a,b,c⟩;have e:=h.inj p' p ((live p').1 a) hp b;subst e;rwa [hD] at c
   ·intro c;exact⟨p,(live p).2 hp,rfl,by rw[hD];exact c⟩
  have hoth:∀g,g≠ι p->∀B,(∃p',AtWork ⟨Net.upd S.st p (.run s'),S.ch⟩ p'/\ι p'=g/\RngL (Net.upd D p ⟨σ',γ,FS',gorL FS'⟩ p') B)↔∃p',AtWork S p'/\ι p'=g/\RngL (D p') B:=λg hg B=>by
   constructor
   ·rintro⟨p',a,b,c⟩;have e:p'≠p:=λe=>hg (by rw[←b,e])
    rw[hD' p' e] at c;exact⟨p',(live p').1 a,b,c⟩
   ·rintro⟨p',a,b,c⟩;have e:p'≠p:=λe=>hg (by rw[←b,e])
    exact⟨p',(live p').2 a,b,by rw[hD' p' e];exact c⟩
  rw[hlive];refine h.tr.own (n:=ι p) ⟨p,hp,rfl⟩ hsz (λg hg=>funext λB=>propext (hoth g hg B)) (λB hB=>(hat B).2 ?_) (λB hB=>?_) (λg B hlg hB=>?_) (λg hlg hne B h3 h4=>?_) (λc hc=>?_) λe hev=>?_
  ·obtain⟨p',a,b,c⟩:=hB;have e:=h.inj p' p a hp b;subst e;rcases c with⟨b',hb'⟩|c
   ·exact .inl ⟨b',hs.le _ _ hb'⟩
   ·exact .inr (hs.lpk B c)
  ·rcases kpL2 B ((hat B).1 hB) with x | x
   ·exact .inl ⟨p,hp,rfl,x⟩
   ·exact .inr x
  ·by_cases e:g=ι p
   ·subst e;rcases(hat B).1 hB with⟨b,hb⟩|hl
    ·exact(hg.wr.lt hb).2
    ·obtain⟨o,ho⟩:=Option.ne_none_iff_exists'.1 hl;obtain⟨O,e1,_⟩:=hg.lpr B o ho;exact(Array.getElem?_eq_some_iff.1 e1).1
   ·obtain⟨p',a,b,c⟩:=(hoth g e B).1 hB;exact Nat.lt_of_lt_of_le (h.rltL a c) hsz
  ·obtain⟨p',a,b,c⟩:=(hoth g hne B).1 h3;rcases kpL2 B ((hat B).1 h4) with x|x
   ·exact h.sepL a hp (λe=>hne (by rw[←b,e])) c x
   ·have:=h.rltL a c;omega
  ·obtain⟨a,ha⟩:=hc;refine⟨h.chlt ha,λg hg hr=>?_⟩;by_cases e:g=ι p
   ·subst e;rcases kpL2 c ((hat c).1 hr) with x|x
    ·exact h.chrngL ha hp x
    ·have:=h.chlt ha;omega
   ·obtain⟨p',a',b,c'⟩:=(hoth g e c).1 hr;exact h.chrngL ha a' c'
  ·rcases he e hev with hE | ⟨l,e1,e2,e3⟩
   case inr=>
    refine⟨⟨by rw[e1];simp,by rw[e1];simp⟩,λx hx hm=>.inl ?_⟩;obtain⟨loc,wr,sy⟩:=e;simp only at e1 e2;subst e1 e2;have ex:x.loc=.obj l:=by
     cases wr<;>(simp only[MemAct.ofEvent,MemAct.touch?,Option.some.injEq] at hx;subst hx;rfl)
    have eb:blk x.loc=l:=by rw[ex];rfl
    rw[eb];refine⟨(hat l).2 (.inr e3),λ_ hS=>?_⟩;rcases hs.lpn l e3 with y|y
    ·exact h.lpsh p hp l y hS
    ·have:=h.shlt l hS;omega
   refine⟨hE.noWord,λx hx hm=>.inl ?_⟩;rcases hE with⟨A,e1,e2,b,hb,⟨c,ty,fr,hc⟩,hf⟩|⟨m,e1,e2⟩|⟨R,b,e1,e2,e3,hb,_⟩
   ·obtain⟨loc,wr,sy⟩:=e;simp only at e1 e2 hf;subst e1 e2;simp only[MemAct.ofEvent,MemAct.touch?,Option.some.injEq] at hx;subst hx;simp only[blk];refine⟨(hat _).2 (.inl ⟨b,hb⟩),λhw hSh=>?_⟩;rcases frz' b _ hb hSh with h4|⟨a,l,h4⟩
    ·exact hf hw h4
    ·rcases hg.wr.blk b _ hb with⟨c',C,t',fr',FR,g1,g2,_⟩ | ⟨a',A',l',g1,g2,_⟩
     ·rw[h4] at g1;cases g1
     ·rw[hc] at g2;cases g2
   ·obtain⟨loc,wr,sy⟩:=e;simp only at e1;subst e1;exfalso;have e1:MemAct.ofEvent ⟨.mark m,wr,sy⟩=.mark m:=by cases wr<;>cases sy<;>rfl
    rw[e1] at hx;cases m<;>first | (exact e2.elim) | (simp[MemAct.touch?] at hx)
   ·obtain⟨loc,wr,sy⟩:=e;simp only at e1 e2 e3;subst e1 e2 e3;simp only[MemAct.ofEvent,MemAct.touch?,Option.some.injEq] at hx;subst hx;simp only[blk];exact⟨(hat _).2 (.inl ⟨b,hb⟩),λhw=>by cases hw⟩
 ·by_cases ei:i=p
  ·subst ei;rw[ConcN.upd_same] at h2;cases h2
  ·by_cases ej:j=p
   ·subst ej;rw[ConcN.upd_same] at h5;cases h5
   ·rw[hst i ei] at h1;rw[hst j ej] at h3;rw[ConcN.upd_ne q 1 (hι i ⟨_,h1⟩ ei)] at h2;rw[ConcN.upd_ne q 1 (hι j ⟨_,h3⟩ ej)] at h5;exact h.pk a i j m k s h1 h2 h3 h4 h5
 ·by_cases ej:j=p
  ·subst ej;rw[ConcN.upd_same] at h3;cases h3
  ·rw[hst j ej] at h1;rw[ConcN.upd_ne q 1 (hι j ⟨_,h1⟩ ej)] at h3;exact h.pr j s a fl h1 h2 h3
 ·by_cases ei:i=p
  ·subst ei;rw[ConcN.upd_same] at h2;cases h2
  ·rw[hst i ei] at h1;rw[ConcN.upd_ne q 1 (hι i ⟨_,h1⟩ ei)] at h2;exact h.ps i a m k h1 h2
end
end Go.Fw
end
section
/- A network in the machine: one that begins, one that waits. -/
namespace Go.Fw
open Go Go.Conc Go.Net
open Go.ConcN (sumTo sumTo_upd)
variable {P:Program} {FN:FuncId->Bool}
section
variable {K:Cfg} {N0:Nat} {W0:World} {κ:Ren P.globals.size} {S:Net.St Tpe Msg} {ν:Nat->Option Nat} {ι:Nat->Nat} {D:Nat->PD P} {Sh:Nat->Prop} {gs:Array Goroutine} {W:World} {t:Trace} {q:Nat->Nat}
theorem MI.map_woken (h:MI P FN K N0 W0 κ S ν ι D Sh gs W t q){W':World}(hk:∀a c,ν a=some c->S.ch a=.open->W'.heap[c]? = W.heap[c]?){x x':Goroutine}:gs.map (woken P x x' W')=gs:=by
 apply Array.ext_getElem?;intro j;rw[Array.getElem?_map];cases hj:gs[j]? with
 | none=>rfl
 | some y=>
  show some _=some _;by_cases hp:∃p,AtWork S p/\ι p=j
  ·obtain⟨p,h1,rfl⟩:=hp;have:=h.gat p h1;rw[hj] at this;obtain rfl:=Option.some.inj this;rw[h.woken_ hk h1 (h.ne h1)]
  ·rw[woken_quitsD (h.lv j y hj λp h1 h2=>hp ⟨p,h1,h2⟩)]
theorem MI.turn (h:MI P FN K N0 W0 κ S ν ι D Sh gs W t q){p:Nat}{s:Scr Tpe Msg}(hs:S.st p=.run s){g':Goroutine}{k':Nat}(hsit:Sit P ν s (D p).FS k' g'){u:Trace}(hu:∀op∈u,op.act.touch? = none/\op.act≠.mark .disable/\op.act≠.mark .enable)
  (hps:k'=0->∀a m k,s=.send a m k->S.ch a=.open/\∀j s' fl,S.st j=.run s'->wants s' a fl->q (ι j)≠0)
  (hpr:k'=0->∀a fl,wants s a fl->S.ch a=.open/\∀i m k,S.st i=.run (.send a m k)->q (ι i)≠0) :
  MI P FN K N0 W0 κ S ν ι (Net.upd D p { D p with g:=g' }) Sh (gs.setIfInBounds (ι p) g') W (t++u) (ConcN.upd q (ι p) k'):=by
 have hp:AtWork S p:=⟨s,hs⟩;have hι:∀p',AtWork S p'->p'≠p->ι p'≠ι p:=λp' h1 h2 e=>h2 (h.inj p' p h1 hp e)
 have hD:Net.upd D p { D p with g:=g' } p = { D p with g:=g' }:=Net.upd_same _ _ _;have hD':∀p',p'≠p->Net.upd D p { D p with g:=g' } p'=D p':=λp' e=>Net.upd_ne _ _ e
 have hβ:∀p',(Net.upd D p { D p with g:=g' } p').β=(D p').β:=λp'=>by
  by_cases e:p'=p
  ·subst e;rw[hD]
  ·rw[hD' p' e]
 have hσ:∀p',(Net.upd D p { D p with g:=g' } p').σ=(D p').σ:=λp'=>by
  by_cases e:p'=p
  ·subst e;rw[hD]
  ·rw[hD' p' e]
 have hF:∀p',(Net.upd D p { D p with g:=g' } p').FS=(D p').FS:=λp'=>by
  by_cases e:p'=p
  ·subst e;rw[hD]
  ·rw[hD' p' e]
 have hlt:ι p<gs.size:=(Array.getElem?_eq_some_iff.1 (h.gat p hp)).1;refine { h with gat:=λp' h1=>?_,sit:=λp' s' h1=>?_,does:=λp' s' h1=>by rw[hσ];exact h.does p' s' h1,gr:=λp' h1=>by rw[hβ,hσ,hF];exact h.gr p' h1,le:=λp' h1=>by rw[hβ];exact h.le p' h1,sep:=λa b h1 h2 hne B h3 h4=>by rw[hβ] at h3 h4;exact h.sep a b h1 h2 hne B h3 h4,frz:=λp' h1 b B hb hB=>by rw[hβ] at hb;rw[hσ];exact h.frz p' h1 b B hb hB,lps:=λa b h1 h2 l h3 h4=>by rw[hσ] at h3 h4;exact h.lps a b h1 h2 l h3 h4,lp0:=λp' h1 l h3=>by rw[hσ] at h3;exact h.lp0 p' h1 l h3,lpsh:=λp' h1 l h3=>by rw[hσ] at h3;exact h.lpsh p' h1 l h3,lv:=λi g hi hn=>?_,above:=λj hj=>?_,tr:=?_,pk:=λa i j m k s' h1 h2 h3 h4 h5=>?_,pr:=λj s' a fl h1 h2 h3=>?_,ps:=λi a m k h1 h2=>?_ }
 ·by_cases e:p'=p
  ·subst e;rw[hD,Array.getElem?_setIfInBounds_self_of_lt hlt]
  ·rw[hD' p' e,Array.getElem?_setIfInBounds_ne (Ne.symm (hι p' h1 e))];exact h.gat p' h1
 ·by_cases e:p'=p
  ·subst e;rw[hs] at h1;cases h1;rw[hD,ConcN.upd_same];exact hsit
  ·rw[hD' p' e,ConcN.upd_ne q k' (hι p' ⟨s',h1⟩ e)];exact h.sit p' s' h1
 ·have hi':i≠ι p:=λe=>hn p hp e.symm
  rw[Array.getElem?_setIfInBounds_ne (Ne.symm hi')] at hi;rw[ConcN.upd_ne q k' hi',Deaf_quiet t i u λop ho=>(hu op ho).2];exact h.lv i g hi hn
 ·rw[Deaf_quiet t j u λop ho=>(hu op ho).2];exact h.above j (by simpa using hj)
 ·have e1:(λg B=>∃p',AtWork S p'/\ι p'=g/\RngL (Net.upd D p { D p with g:=g' } p') B)=λg B=>∃p',AtWork S p'/\ι p'=g/\RngL (D p') B:=by
   funext g B
   exact propext ⟨λ⟨p',a,b,c⟩=>⟨p',a,b,by unfold RngL at c;rw[hβ,hσ] at c;exact c⟩,λ⟨p',a,b,c⟩=>⟨p',a,b,by unfold RngL;rw[hβ,hσ];exact c⟩⟩
  rw[e1];exact h.tr.quiet hu
 ·obtain⟨fl,h4⟩:=h4;by_cases ei:i=p
  ·subst ei;rw[hs] at h1;cases h1;rw[ConcN.upd_same] at h2;by_cases ej:j=i
   ·subst ej;rw[hs] at h3;cases h3;exact h4
   ·rw[ConcN.upd_ne q k' (hι j ⟨_,h3⟩ ej)] at h5;exact(hps h2 a m k rfl).2 j s' fl h3 h4 h5
  ·rw[ConcN.upd_ne q k' (hι i ⟨_,h1⟩ ei)] at h2;by_cases ej:j=p
   ·subst ej;rw[hs] at h3;cases h3;rw[ConcN.upd_same] at h5;exact(hpr h5 a fl h4).2 i m k h1 h2
   ·rw[ConcN.upd_ne q k' (hι j ⟨_,h3⟩ ej)] at h5;exact h.pk a i j m k s' h1 h2 h3 ⟨fl,h4⟩ h5
 ·by_cases ej:j=p
  ·subst ej;rw[hs] at h1;cases h1;rw[ConcN.upd_same] at h3;exact(hpr h3 a fl h2).1
  ·rw[ConcN.upd_ne q k' (hι j ⟨_,h1⟩ ej)] at h3;exact h.pr j s' a fl h1 h2 h3
 ·by_cases ei:i=p
  ·subst ei;rw[hs] at h1;cases h1;rw[ConcN.upd_same] at h2;exact(hps h2 a m k rfl).1
  ·rw[ConcN.upd_ne q k' (hι i ⟨_,h1⟩ ei)] at h2;exact h.ps i a m k h1 h2
theorem MI.pick (h:MI P FN K N0 W0 κ S ν ι D Sh gs W t q)(hsome:∃p,AtWork S p/\0<q (ι p))(sl:Option (Nat × Nat)) :
  ∃d sl',(∃p,AtWork S p/\0<q (ι p)/\stepT P (crowd gs W sl)=runT P (crowd gs (W.at d) sl') (ι p))\/
   ∃gs' ops q',stepT P (crowd gs W sl)=(.next (crowd gs' (W.at d) sl'),ops)/\MI P FN K N0 W0 κ S ν ι D Sh gs' (W.at d) (t++ops) q'/\sumTo gs'.size q'<sumTo gs.size q/\∀p,AtWork S p->q' (ι p)=q (ι p):=by
 have haw:∀g∈gs,awake g:=by
  intro g hg;obtain⟨i,hi,rfl⟩:=Array.mem_iff_getElem.1 hg;have hi':=Array.getElem?_eq_getElem hi;by_cases hp:∃p,AtWork S p/\ι p=i
  ·obtain⟨p,h1,rfl⟩:=hp;have h2:=h.gat p h1;rw[hi'] at h2;rw[Option.some.inj h2];obtain⟨s,hs⟩:=h1;exact((h.sit p s hs).fs (h.ne ⟨s,hs⟩)).1
  ·exact awake_of ((h.lv i _ hi' λp h1 h2=>hp ⟨p,h1,h2⟩).status.elim .inl λx=>.inr (.inr x))
 have hs1:∃(i:Nat) (g:Goroutine),gs[i]? = some g/\g.status=.running:=by
  obtain⟨p,⟨s,hs⟩,hq⟩:=hsome;exact⟨ι p,_,h.gat p ⟨s,hs⟩,((h.sit p s hs).fs (h.ne ⟨s,hs⟩)).2.1 hq⟩
 obtain⟨i,g,d,sl',hi,hg,hst⟩:=crowd_pick (P:=P) (w:=W) (sl:=sl) haw hs1;refine⟨d,sl',?_⟩;by_cases hp:∃p,AtWork S p/\ι p=i
 ·obtain⟨p,h1,rfl⟩:=hp;have h2:=h.gat p h1;rw[hi] at h2;obtain rfl:=Option.some.inj h2;obtain⟨s,hs⟩:=h1;exact .inl ⟨p,⟨s,hs⟩,((h.sit p s hs).fs (h.ne ⟨s,hs⟩)).2.2 hg,hst⟩
 ·obtain⟨gs',ops,q',h1,h2,h3,h4,h5⟩:=(h.at_ d).leaver (sl:=sl') hi hg λp h1 h2=>hp ⟨p,h1,h2⟩
  exact .inr ⟨gs',ops,q',hst.trans h1,h2,h4,h5⟩
end
end Go.Fw
end
section
/- A network in the machine: who offers what. -/
namespace Go.Fw
open Go Go.Conc Go.Net
open Go.ConcN (sumTo sumTo_upd)
variable {P:Program} {FN:FuncId->Bool}
section
variable {K:Cfg} {N0:Nat} {W0:World} {κ:Ren P.globals.size} {S:Net.St Tpe Msg} {ν:Nat->Option Nat} {ι:Nat->Nat} {D:Nat->PD P} {Sh:Nat->Prop} {gs:Array Goroutine} {W:World} {t:Trace} {q:Nat->Nat}
theorem Does.sender {K:Cfg}{i a:Nat}{m:Msg}{k:Scr Tpe Msg}{σ:Pst}(h:Does P FN K ν i (.send a m k) σ)(nv:¬Vac P FN σ):K.R.sender a=i/\K.cap a=0:=by
 unfold Does at h;obtain⟨h1,h2,_⟩:=h.resolve_left nv;exact⟨h1,h2⟩
theorem Does.receiver {K:Cfg}{i a:Nat}{s:Scr Tpe Msg}{fl:Bool}{σ:Pst}(h:Does P FN K ν i s σ)(nv:¬Vac P FN σ)(hw:wants s a fl):K.R.receiver a=i/\(fl=true↔K.cap a=0):=by
 cases s with
 | recv b Q k=>
  obtain⟨rfl,rfl⟩:=hw;unfold Does at h;obtain⟨h1,h2,_⟩:=h.resolve_left nv;exact⟨h1,by simp[h2]⟩
 | shut b k=>
  obtain⟨rfl,rfl⟩:=hw;unfold Does at h;obtain⟨h1,h2,_⟩:=h.resolve_left nv;exact⟨h1,by simp[h2]⟩
 | get b Q k=>
  obtain⟨rfl,rfl⟩:=hw;unfold Does at h;obtain⟨h1,h2,_⟩:=h.resolve_left nv;exact⟨h1,by simp[h2]⟩
 | _=>exact hw.elim
theorem MI.offers (h:MI P FN K N0 W0 κ S ν ι D Sh gs W t q){j c:Nat}{g:Goroutine}{b:Bool}(hj:gs[j]? = some g)(ho:offersAt g c b≠[]) :
  ∃p s a,S.st p=.run s/\ι p=j/\g=(D p).g/\q (ι p)=0/\ν a=some c/\((b=true/\∃m k,s=.send a m k)\/(b=false/\∃fl,wants s a fl)):=by
 by_cases hp:∃p,AtWork S p/\ι p=j
 ·obtain⟨p,⟨s,hs⟩,rfl⟩:=hp;have h2:=h.gat p ⟨s,hs⟩;rw[hj] at h2;have e:=Option.some.inj h2;have hsit:=h.sit p s hs;have hne:=h.ne ⟨s,hs⟩;generalize hk:q (ι p)=k at hsit;generalize hg:(D p).g=g2 at hsit;cases hsit with
  | run=>exact absurd (by rw[e,hg];exact offersAt_of_not_blocked (by rw[gorL_running hne];simp) c b) ho
  | unborn hgr _=>exact absurd (by rw[e,hg];exact offersAt_of_not_blocked (by rw[hgr];simp) c b) ho
  | wk=>exact absurd (by rw[e,hg];exact offersAt_of_not_blocked (by simp) c b) ho
  | @psend a c' m k V Z hs' hc _=>
   cases b with
   | true=>
    rw[e,hg,offersAt_parked_send] at ho;by_cases ec:c'=c
    ·subst ec;exact⟨p,s,a,hs,rfl,e,hk,hc,.inl ⟨rfl,m,k,hs'⟩⟩
    ·rw[if_neg ec] at ho;exact absurd rfl ho
   | false=>rw[e,hg,offersAt_parked_send'] at ho;exact absurd rfl ho
  | @precv a c' fl Z hw hc _=>
   cases b with
   | false=>
    rw[e,hg,offersAt_parked_recv] at ho;by_cases ec:c'=c
    ·subst ec;exact⟨p,s,a,hs,rfl,e,hk,hc,.inr ⟨rfl,fl,hw⟩⟩
    ·rw[if_neg ec] at ho;exact absurd rfl ho
   | true=>rw[e,hg,offersAt_parked_recv'] at ho;exact absurd rfl ho
 ·exact absurd (offersAt_of_not_blocked (by rcases(h.lv j g hj λp h1 h2=>hp ⟨p,h1,h2⟩).status with x | x<;>rw[x]<;>simp) c b) ho
theorem MI.noSender (h:MI P FN K N0 W0 κ S ν ι D Sh gs W t q){i a c:Nat}(hc:ν a=some c)(hn:∀m k,S.st (K.R.sender a)=.run (.send a m k)->q (ι (K.R.sender a))≠0):partners (gs.setIfInBounds i ph) c true=[]:=
 partners_nil λj g hg=>by
  rcases getElem?_stand gs i j g hg with⟨_,rfl⟩|⟨_,hg⟩
  ·rfl
  ·cases ho:offersAt g c true with
   | nil=>rfl
   | cons x l=>
    exfalso;obtain⟨p,s,b,h1,_,_,h3,h4,h5⟩:=h.offers hg (by rw[ho];simp);obtain⟨_,m,k,rfl⟩:=h5.resolve_right (by simp);obtain rfl:=h.chi b a c h4 hc;have:=((h.does p _ h1).sender (h.novac ⟨_,h1⟩)).1;rw[this] at hn;exact hn m k h1 h3
theorem MI.noReceiver (h:MI P FN K N0 W0 κ S ν ι D Sh gs W t q){i a c:Nat}(hc:ν a=some c)(hn:∀s fl,S.st (K.R.receiver a)=.run s->wants s a fl->q (ι (K.R.receiver a))≠0):partners (gs.setIfInBounds i ph) c false=[]:=
 partners_nil λj g hg=>by
  rcases getElem?_stand gs i j g hg with⟨_,rfl⟩|⟨_,hg⟩
  ·rfl
  ·cases ho:offersAt g c false with
   | nil=>rfl
   | cons x l=>
    exfalso;obtain⟨p,s,b,h1,_,_,h3,h4,h5⟩:=h.offers hg (by rw[ho];simp);obtain⟨_,fl,hw⟩:=h5.resolve_left (by simp);obtain rfl:=h.chi b a c h4 hc;have:=((h.does p _ h1).receiver (h.novac ⟨_,h1⟩) hw).1;rw[this] at hn;exact hn s fl h1 hw h3
theorem MI.theSender (h:MI P FN K N0 W0 κ S ν ι D Sh gs W t q){i j a c:Nat}{m:Msg}{k:Scr Tpe Msg}(hc:ν a=some c)(hj:S.st j=.run (.send a m k))(hq:q (ι j)=0)(hi:ι j≠i) :
  ∃V Z,(D j).g=parked (gorL (D j).FS) #[scase c V Z] .send/\(∀m W,stepG P m (gorL (D j).FS) W=.comm (gorL (D j).FS) #[scase c V Z] true .send W #[])/\partners (gs.setIfInBounds i ph) c true=[(ι j,0)]:=by
 have hsit:=h.sit j _ hj;have hg:=h.gat j ⟨_,hj⟩;rw[hq] at hsit;generalize hgg:(D j).g=g at hsit hg ⊢;generalize hz:0=z at hsit;cases hsit with
 | psend hs hc' hst=>
  cases hs;rw[hc] at hc';cases hc';refine⟨_,_,rfl,hst,?_⟩;have:=partners_one (r:=c) (send:=true) (stand_get (i:=i) hi hg) λk x hk hx=>by
   rcases getElem?_stand gs i k x hx with⟨_,rfl⟩|⟨_,hx⟩
   ·rfl
   ·cases ho:offersAt x c true with
    | nil=>rfl
    | cons y l=>
     exfalso;obtain⟨p,s,b,h1,h2,_,h3,h4,h5⟩:=h.offers hx (by rw[ho];simp);obtain⟨_,m',k',rfl⟩:=h5.resolve_right (by simp);obtain rfl:=h.chi b _ c h4 hc;have e1:=((h.does p _ h1).sender (h.novac ⟨_,h1⟩)).1;have e2:=((h.does j _ hj).sender (h.novac ⟨_,hj⟩)).1;exact hk (by rw[←h2,←e1,e2])
  rw[this,offersAt_parked_send];simp
 | precv hw _ _=>exact hw.elim
 | _=>cases hz
theorem MI.theReceiver (h:MI P FN K N0 W0 κ S ν ι D Sh gs W t q){i j a c:Nat}{s:Scr Tpe Msg}{fl:Bool}(hc:ν a=some c)(hj:S.st j=.run s)(hw:wants s a fl)(hq:q (ι j)=0)(hi:ι j≠i) :
  ∃Z,(D j).g=parked (gorL (D j).FS) #[rcase c Z] (.recv fl)/\(∀m W,stepG P m (gorL (D j).FS) W=.comm (gorL (D j).FS) #[rcase c Z] true (.recv fl) W #[])/\partners (gs.setIfInBounds i ph) c false=[(ι j,0)]:=by
 have hsit:=h.sit j _ hj;have hg:=h.gat j ⟨_,hj⟩;rw[hq] at hsit;generalize hgg:(D j).g=g at hsit hg ⊢;generalize hz:0=z at hsit;have wu:∀{b fl'},wants s b fl'->b=a/\fl'=fl:=λ{b fl'} hb=>by
  cases s<;>simp only[wants] at hb hw
  all_goals obtain⟨rfl,rfl⟩:=hb;obtain⟨rfl,rfl⟩:=hw;exact⟨rfl,rfl⟩
 cases hsit with
 | precv hw' hc' hst=>
  obtain⟨rfl,rfl⟩:=wu hw';rw[hc] at hc';cases hc';refine⟨_,rfl,hst,?_⟩;have:=partners_one (r:=c) (send:=false) (stand_get (i:=i) hi hg) λk x hk hx=>by
   rcases getElem?_stand gs i k x hx with⟨_,rfl⟩|⟨_,hx⟩
   ·rfl
   ·cases ho:offersAt x c false with
    | nil=>rfl
    | cons y l=>
     exfalso;obtain⟨p,s',b,h1,h2,_,h3,h4,h5⟩:=h.offers hx (by rw[ho];simp);obtain⟨_,fl',hw2⟩:=h5.resolve_left (by simp);obtain rfl:=h.chi b _ c h4 hc;have e1:=((h.does p _ h1).receiver (h.novac ⟨_,h1⟩) hw2).1;have e2:=((h.does j _ hj).receiver (h.novac ⟨_,hj⟩) hw').1;exact hk (by rw[←h2,←e1,e2])
  rw[this,offersAt_parked_recv];simp
 | psend hs _ _=>subst hs;exact hw.elim
 | _=>cases hz
end
end Go.Fw
end
section
/- A network in the machine: a message goes over. -/
namespace Go.Fw
open Go Go.Conc Go.Net
open Go.ConcN (sumTo sumTo_upd)
variable {P:Program} {FN:FuncId->Bool}
theorem frzO_blk {G:Nat}{β:Ren G}{o O:Option Obj}(h:BlkR FN β o O):BlkR FN β (o.map frzO) O:=by
 rcases h with⟨c,C,t,fr,FR,e1,e2,hR,hfz⟩|⟨a,A,l,e1,e2,e3⟩
 ·refine .inl ⟨c,C,t,(0,max c.size fr.2),FR,by rw[e1];rfl,e2,hR,λoff ho=>?_⟩;obtain⟨h1,h2⟩:=hfz off ho;exact⟨Nat.zero_le _,by show off<max _ _;omega⟩
 ·exact .inr ⟨a,A,l,by rw[e1];rfl,e2,e3⟩
theorem WR.frzX {G:Nat}{β:Ren G}{w W:World}(h:WR FN β w W)(X:Nat->Prop):WR FN β (Fw.frzX X w) W:=by
 refine⟨λb B hb=>?_,by rw[frzX_size];exact h.gl,h.gr⟩;by_cases hX:X b
 ·rw[frzX_in hX];exact frzO_blk (h.blk b B hb)
 ·rw[frzX_out hX];exact h.blk b B hb
theorem Fz.frzX {w:World}{b:Nat}(h:Fz w b)(X:Nat->Prop):Fz (Fw.frzX X w) b:=by
 by_cases hX:X b
 ·rcases h with⟨c,t,fr,e,hf⟩ | ⟨a,l,e⟩
  ·refine .inl ⟨c,t,(0,max c.size fr.2),by rw[frzX_in hX,e];rfl,λoff ho=>⟨Nat.zero_le _,by show off<max _ _;omega⟩⟩
  ·exact .inr ⟨a,l,by rw[frzX_in hX,e];rfl⟩
 ·rcases h with⟨c,t,fr,e,hf⟩ | ⟨a,l,e⟩
  ·exact .inl ⟨c,t,fr,by rw[frzX_out hX];exact e,hf⟩
  ·exact .inr ⟨a,l,by rw[frzX_out hX];exact e⟩
theorem WR.fzX {G:Nat}{β:Ren G}{w W:World}(h:WR FN β w W){X:Nat->Prop}{b B:Nat}(hb:β.f b=some B)(hX:X b):Fz (Fw.frzX X w) b:=by
 rcases h.blk b B hb with⟨c,C,t,fr,FR,e1,e2,hR,hfz⟩|⟨a,A,l,e1,e2,e3⟩
 ·exact .inl ⟨c,t,(0,max c.size fr.2),by rw[frzX_in hX,e1];rfl,λoff ho=>⟨Nat.zero_le _,by show off<max _ _;omega⟩⟩
 ·exact .inr ⟨a,l,by rw[frzX_in hX,e1];rfl⟩
theorem InX.to {κ β γ:Ren P.globals.size}{X0:Nat->Prop}(hX:X0 0/\X0 P.globals.size)(hd:∀b,X0 b->κ.f b≠none)(h1:κ.le β)(h2:κ.le γ){v V:Value}(hv:InX FN P.globals.size X0 v)(h:VR FN β v V):VR FN κ v V/\VR FN γ v V:=by
 have:=hv β hX V h;have hle:(β.res X0 hX).le κ:=λb B hb=>by
  obtain⟨h3,h4⟩:=res_some hb;cases hκ:κ.f b with
  | none=>exact absurd hκ (hd b h3)
  | some B'=>have:=h1 b B' hκ;rw[h4] at this;exact this.symm ▸ rfl
 exact⟨this.mono hle,this.mono (Ren.le_trans hle h2)⟩
section
variable {K:Cfg} {N0:Nat} {W0:World} {κ:Ren P.globals.size} {S:Net.St Tpe Msg} {ν:Nat->Option Nat} {ι:Nat->Nat} {D:Nat->PD P} {Sh:Nat->Prop} {gs:Array Goroutine} {W:World} {t:Trace} {q:Nat->Nat}
structure Gave (P:Program) (FN:FuncId->Bool) (βi βj γ:Ren P.globals.size) (wi wi' wj wj' W:World) (Sh Sh':Nat->Prop) (u V:Value):Prop where
 wri:WR FN βi wi' W
 wrj:WR FN γ wj' W
 le:βj.le γ
 val:VR FN γ u V
 new_:∀b B,γ.f b=some B->βj.f b=some B\/(Rng βi B/\¬Sh B)
 sh:∀B,Sh B->Sh' B
 sh':∀B,Sh' B->Sh B\/(Rng βi B/\¬Sh B)
 fzi:∀b B,βi.f b=some B->Sh' B->(Sh B->Fz wi b)->Fz wi' b
 fzj:∀b B,γ.f b=some B->Sh' B->(∀b,βj.f b=some B->Sh B->Fz wj b)->Fz wj' b
 both:∀B,Rng βi B->Rng γ B->(Rng βj B->Sh B)->Sh' B
theorem MI.give (h:MI P FN K N0 W0 κ S ν ι D Sh gs W t q){i j:Nat}(hi:AtWork S i)(hj:AtWork S j)(hij:i≠j){m:Msg}{v V:Value}{w':World}(hm:SendM FN P.globals.size K.X0 m v (D i).σ.w w')(hv:VR FN (D i).β v V) :
  ∃γ Sh',Gave P FN (D i).β (D j).β γ (D i).σ.w w' (D j).σ.w (RecvM m (D j).σ.w).2 W Sh Sh' (RecvM m (D j).σ.w).1 V:=by
 have gi:=h.gr i hi;have gj:=h.gr j hj;cases m with
 | val u=>
  obtain⟨rfl,h2,rfl⟩:=hm;obtain⟨_,h3⟩:=h2.to h.x0 h.dom (h.le i hi) (h.le j hj) hv;exact⟨(D j).β,Sh,gi.wr,gj.wr,Ren.le_refl _,h3,λb B hb=>.inl hb,λB x=>x,λB x=>.inl x,λb B hb hS hf=>hf hS,λb B hb hS hf=>hf b hb hS,λB h1 h2 h3=>h3 h2⟩
 | row C l c=>
  obtain⟨b,rfl,hG,hc,hC,hb,hx,rfl⟩:=hm;obtain⟨B,hbB,rfl⟩:∃B,(D i).β.f b=some B/\V=.slice (some ⟨B,0,none⟩) l c:=by
   cases hv with
   | slice l c hA=>
    rename_i A;obtain⟨h1,h2,h3⟩:=hA;obtain⟨Ab,Ao,As⟩:=A;simp only at h1 h2 h3;subst h2 h3;exact⟨Ab,h1,rfl⟩
   | sliceE a A=>omega
  have hnS:¬Sh B:=λhS=>by
   rcases h.frz i hi b B hbB hS with⟨c',t',fr',e,hf⟩|⟨a,n,e⟩
   ·rw[hb] at e;cases e;have:=(hf 0 hC).2;omega
   ·rw[hb] at e;cases e
  have hRj:¬Rng (D j).β B:=λhr=>hnS (h.sep i j hi hj hij B ⟨b,hbB⟩ hr)
  obtain⟨CC,FR,hW,hCC⟩:∃CC FR,W.heap[B]? = some (.cells CC 5 FR)/\CC=C:=by
   rcases gi.wr.blk b B hbB with⟨c',CC,t',fr',FR,e1,e2,hR,_⟩|⟨a,A,n,e1,_⟩
   ·rw[hb] at e1;cases e1;refine⟨CC,FR,e2,?_⟩;apply Array.ext_getElem?;intro k;cases hk:C[k]? with
    | none=>exact hR.get_none hk
    | some x=>
     obtain⟨X,h1,h2⟩:=hR.get hk;obtain⟨n,rfl⟩:=hx x (by have:=Array.mem_of_getElem? hk;simpa using this);rw[h1];cases h2;rfl
   ·rw[hb] at e1;cases e1
  subst hCC;have hnew:(D j).β.New (D j).σ.w.heap.size B:=by
   refine⟨?_,λb' e=>hRj ⟨b',e⟩,gj.wr.gl,?_⟩
   ·cases hf:(D j).β.f (D j).σ.w.heap.size with
    | none=>rfl
    | some B'=>have:=(gj.wr.lt hf).1;omega
   ·rcases Nat.lt_or_ge B P.globals.size with hlt | hge
    ·exfalso;have hb0:=(((D i).β.glob b B hbB).1).2 hlt;omega
    ·exact hge
  have hsz:((D j).σ.w.alloc (.cells CC 5 (0,CC.size))).heap.size=(D j).σ.w.heap.size+1:=by show (((D j).σ.w).heap.push _).size=_;simp
  refine⟨(D j).β.ext _ B hnew,λx=>Sh x\/x=B,gi.wr.frzX _,⟨λb' B' hb'=>?_,?_,gj.wr.gr⟩,Ren.le_ext hnew,.slice l c ⟨Ren.ext_same _ _ _ hnew,rfl,rfl⟩,λb' B' hb'=>?_,λx hx=>.inl hx,λx hx=>hx.imp id λe=>by subst e;exact⟨⟨b,hbB⟩,hnS⟩,λb' B' hb' hS hf=>?_,λb' B' hb' hS hf=>?_,λB' h1 h2 h3=>?_⟩
  ·rcases extF_cases hb' with⟨rfl,rfl⟩ | ⟨_,e⟩
   ·refine .inl ⟨CC,CC,5,(0,CC.size),FR,push_eq (w:=(D j).σ.w),hW,⟨rfl,λk x X h1 h2=>?_⟩,λoff ho=>?_⟩
    ·rw[h1] at h2;cases h2;obtain⟨n,rfl⟩:=hx x (by have:=Array.mem_of_getElem? h1;simpa using this);exact .int _ _
    ·exfalso;rcases gi.wr.blk b B' hbB with⟨c',CC',t',fr',FR',e1,e2,_,hfz⟩|⟨a,A,n,e1,_⟩
     ·rw[hb] at e1;cases e1;rw[hW] at e2;cases e2;have:=(hfz off ho).2;omega
     ·rw[hb] at e1;cases e1
   ·have:=gj.wr.blk b' B' e;have hlt:=(gj.wr.lt e).1;show BlkR FN _ ((D j).σ.w.alloc (.cells CC 5 (0,CC.size))).heap[b']? _;rw[show ((D j).σ.w.alloc (.cells CC 5 (0,CC.size))).heap[b']? = (D j).σ.w.heap[b']? from push_lt (w:=(D j).σ.w) hlt];exact this.mono (Ren.le_ext hnew)
  ·show _<=((D j).σ.w.alloc (.cells CC 5 (0,CC.size))).heap.size;rw[hsz];have:=gj.wr.gl;omega
  ·rcases extF_cases hb' with⟨rfl,rfl⟩ | ⟨_,e⟩
   ·exact .inr ⟨⟨b,hbB⟩,hnS⟩
   ·exact .inl e
  ·rcases hS with hS | rfl
   ·exact(hf hS).frzX _
   ·have:=(D i).β.inj b' b B' hb' hbB;subst this;exact gi.wr.fzX hbB rfl
  ·rcases extF_cases hb' with⟨rfl,rfl⟩ | ⟨_,e⟩
   ·exact .inl ⟨CC,5,(0,CC.size),push_eq (w:=(D j).σ.w),λoff ho=>⟨Nat.zero_le _,ho⟩⟩
   ·have hlt:=(gj.wr.lt e).1;rcases hS with hS|rfl
    ·have ef:((D j).σ.w.alloc (.cells CC 5 (0,CC.size))).heap[b']? = (D j).σ.w.heap[b']?:=push_lt (w:=(D j).σ.w) hlt;rcases hf b' e hS with⟨c',t',fr',e1,e2⟩|⟨a,n,e1⟩
     ·exact .inl ⟨c',t',fr',ef.trans e1,e2⟩
     ·exact .inr ⟨a,n,ef.trans e1⟩
    ·exact absurd ⟨b',e⟩ hRj
  ·obtain⟨b',hb'⟩:=h2;rcases extF_cases hb' with⟨_,rfl⟩|⟨_,e⟩
   ·exact .inr rfl
   ·exact .inl (h3 ⟨b',e⟩)
end
end Go.Fw
end
section
/- A network in the machine: the state behind a message. -/
namespace Go.Fw
open Go Go.Conc Go.Net
open Go.ConcN (sumTo sumTo_upd)
variable {P:Program} {FN:FuncId->Bool}
section
variable {K:Cfg} {N0:Nat} {W0:World} {κ:Ren P.globals.size} {S:Net.St Tpe Msg} {ν:Nat->Option Nat} {ι:Nat->Nat} {D:Nat->PD P} {Sh:Nat->Prop} {gs:Array Goroutine} {W:World} {t:Trace} {q:Nat->Nat}
theorem MI.comm (h:MI P FN K N0 W0 κ S ν ι D Sh gs W t q){i j a c s0:Nat}{si sj:Scr Tpe Msg}(hi:AtWork S i)(hj:AtWork S j)(hij:i≠j)(hc:ν a=some c)(ho:S.ch a=.open)(hcap:K.cap a=0)
  {fsi fsj FSi FSj:List Frame} {wi wj:World} {γ:Ren P.globals.size} {Sh':Nat->Prop} {vj V:Value} (G:Gave P FN (D i).β (D j).β γ (D i).σ.w wi (D j).σ.w wj W Sh Sh' vj V)
  (hszi:(D i).σ.w.heap.size<=wi.heap.size)
  (ri:FrsR P FN (D i).β fsi FSi) (rj:FrsR P FN γ fsj FSj) (di:Does P FN K ν i si ⟨fsi,wi,(D i).σ.lp⟩) (dj:Does P FN K ν j sj ⟨fsj,wj,(D j).σ.lp⟩)
  {gs':Array Goroutine} (hsz:gs'.size=gs.size) (gi:gs'[ι i]? = some (gorL FSi)) (gj:gs'[ι j]? = some (gorL FSj)) (go:∀x,x≠ι i->x≠ι j->gs'[x]? = gs[x]?)
  {u:Trace} (hu:∀op∈u,op.act.touch? = none/\op.act≠.mark .disable/\op.act≠.mark .enable)
  {k:Nat} (hsend:∃(x:Nat) (op:MemOp),u[x]? = some op/\op.g=ι i/\op.act=.send c k/\∃(x':Nat) (op':MemOp),x<x'/\u[x']? = some op'/\op'.g=ι j/\op'.act=.recvDone c k) :
  MI P FN K N0 W0 κ ⟨Net.upd (Net.upd S.st i (.run si)) j (.run sj),S.ch⟩ ν ι (Net.upd (Net.upd D i ⟨⟨fsi,wi,(D i).σ.lp⟩,(D i).β,FSi,gorL FSi⟩) j ⟨⟨fsj,wj,(D j).σ.lp⟩,γ,FSj,gorL FSj⟩) Sh' gs' (W.setChan c 0 #[] false s0 s0 false) (t++u) (ConcN.upd (ConcN.upd q (ι i) 1) (ι j) 1):=by
 have hji:=Ne.symm hij;obtain⟨S',hS'⟩:∃S':Net.St Tpe Msg,S'=⟨Net.upd (Net.upd S.st i (.run si)) j (.run sj),S.ch⟩:=⟨_,rfl⟩;obtain⟨D',hD'⟩:∃D',D'=Net.upd (Net.upd D i ⟨⟨fsi,wi,(D i).σ.lp⟩,(D i).β,FSi,gorL FSi⟩) j ⟨⟨fsj,wj,(D j).σ.lp⟩,γ,FSj,gorL FSj⟩:=⟨_,rfl⟩;obtain⟨W',hW'⟩:∃W',W'=W.setChan c 0 #[] false s0 s0 false:=⟨_,rfl⟩;rw[←hS',←hD',←hW'];have si':S'.st i=.run si:=by rw[hS'];exact(Net.upd_ne _ _ hij).trans (Net.upd_same _ _ _)
 have sj':S'.st j=.run sj:=by rw[hS'];exact Net.upd_same _ _ _
 have so:∀p,p≠i->p≠j->S'.st p=S.st p:=λp h1 h2=>by rw[hS'];exact(Net.upd_ne _ _ h2).trans (Net.upd_ne _ _ h1)
 have sc:S'.ch=S.ch:=by rw[hS']
 have di':D' i=⟨⟨fsi,wi,(D i).σ.lp⟩,(D i).β,FSi,gorL FSi⟩:=by rw[hD'];exact(Net.upd_ne _ _ hij).trans (Net.upd_same _ _ _)
 have dj':D' j=⟨⟨fsj,wj,(D j).σ.lp⟩,γ,FSj,gorL FSj⟩:=by rw[hD'];exact Net.upd_same _ _ _
 have do':∀p,p≠i->p≠j->D' p=D p:=λp h1 h2=>by rw[hD'];exact(Net.upd_ne _ _ h2).trans (Net.upd_ne _ _ h1)
 have live:∀p,AtWork S' p↔AtWork S p:=λp=>by
  by_cases e:p=i
  ·subst e;exact⟨λ_=>hi,λ_=>⟨_,si'⟩⟩
  ·by_cases e2:p=j
   ·subst e2;exact⟨λ_=>hj,λ_=>⟨_,sj'⟩⟩
   ·unfold AtWork;rw[so p e e2]
 have lp':∀p,(D' p).σ.lp=(D p).σ.lp:=λp=>by
  by_cases e:p=i
  ·subst e;rw[di']
  ·by_cases e2:p=j
   ·subst e2;rw[dj']
   ·rw[do' p e e2]
 have hι:∀p p',AtWork S p->AtWork S p'->p≠p'->ι p≠ι p':=λp p' h1 h2 h3 e=>h3 (h.inj p p' h1 h2 e)
 have qi:ConcN.upd (ConcN.upd q (ι i) 1) (ι j) 1 (ι i)=1:=(ConcN.upd_ne _ _ (hι i j hi hj hij)).trans (ConcN.upd_same _ _ _);have qj:ConcN.upd (ConcN.upd q (ι i) 1) (ι j) 1 (ι j)=1:=ConcN.upd_same _ _ _;have qo:∀x,x≠ι i->x≠ι j->ConcN.upd (ConcN.upd q (ι i) 1) (ι j) 1 x=q x:=λx h1 h2=>(ConcN.upd_ne _ _ h2).trans (ConcN.upd_ne _ _ h1)
 have hcl:=h.chlt hc;have kp:∀B,B≠c->W'.heap[B]? = W.heap[B]?:=λB hB=>by rw[hW'];exact heap_setChan_ne W 0 #[] false s0 s0 false (Ne.symm hB)
 have hsW:W'.heap.size=W.heap.size:=by rw[hW'];simp[World.setChan]
 have hcc:W'.heap[c]? = some (.chan 0 #[] false s0 s0 false):=by
  obtain⟨cap,buf,cl,s,r,e⟩:=h.chanAt hc;rw[hW'];exact heap_setChan_self W e ..
 have hRi:∀B,Rng (D i).β B->B≠c:=λB hb e=>h.chrng hc hi (e ▸ hb)
 have rγ:∀B,Rng γ B->B≠c:=λB ⟨b,hb⟩ e=>by
  rcases G.new_ b B hb with x|⟨x,_⟩
  ·exact h.chrng hc hj (e ▸ ⟨b,x⟩)
  ·exact hRi B x e
 have wrk:∀{β:Ren P.globals.size} {w:World},WR FN β w W->(∀B,Rng β B->B≠c)->WR FN β w W':=λhw hne=>⟨λb B hb=>by rw[kp B (hne B ⟨b,hb⟩)];exact hw.blk b B hb,hw.gl,by rw[hsW];exact hw.gr⟩
 have lpk:∀p,AtWork S p->∀l o,(D p).σ.lp l=some o->W'.heap[l]? = W.heap[l]?:=λp hp l o hl=>kp l λe=>by
  have:=h.chlp hc hp;rw[e,this] at hl;cases hl
 have rngSep:∀p,AtWork S p->p≠i->p≠j->∀B,Rng (D p).β B->Rng γ B->Sh' B:=λp hp h1 h2 B h3 ⟨b,hb⟩=>by
  rcases G.new_ b B hb with x|⟨x,y⟩
  ·exact G.sh B (h.sep p j hp hj h2 B h3 ⟨b,x⟩)
  ·exact absurd (h.sep p i hp hi h1 B h3 x) y
 have live0:∀g,(∃p,AtWork S' p/\ι p=g)↔∃p,AtWork S p/\ι p=g:=λg=>⟨λ⟨p,a,b⟩=>⟨p,(live p).1 a,b⟩,λ⟨p,a,b⟩=>⟨p,(live p).2 a,b⟩⟩
 refine { h with main:=(live 0).2 h.main,inj:=λx y h1 h2=>h.inj x y ((live x).1 h1) ((live y).1 h2),gat:=λp h1=>?_,sit:=λp s h1=>?_,does:=λp s h1=>?_,gr:=λp h1=>?_,le:=λp h1=>?_,sep:=λx y h1 h2 hne B h3 h4=>?_,frz:=λp h1 b B hb hB=>?_,shlt:=λB hB=>?_,lps:=λx y h1 h2 l h3 h4=>?_,lp0:=λp h1 l h3=>?_,lpsh:=λp h1 l h3 hS=>?_,chan:=λb=>?_,n0:=by rw[hsW];exact h.n0,old:=λB hB=>?_,os:=by rw[hW'];exact h.os,out:=by rw[hW'];exact h.out,tp:=by rw[hW'];exact h.tp,lv:=λx g hx hn=>?_,above:=λx hx=>?_,tr:=?_,pk:=λb x y m' k' s' h1 h2 h3 h4 h5=>?_,pr:=λy s' b fl h1 h2 h3=>?_,ps:=λx b m' k' h1 h2=>?_ }
 ·have h1':=(live p).1 h1;by_cases e:p=i
  ·subst e;rw[di'];exact gi
  ·by_cases e2:p=j
   ·subst e2;rw[dj'];exact gj
   ·rw[do' p e e2,go _ (hι p i h1' hi e) (hι p j h1' hj e2)];exact h.gat p h1'
 ·by_cases e:p=i
  ·subst e;rw[di',qi];exact .run
  ·by_cases e2:p=j
   ·subst e2;rw[dj',qj];exact .run
   ·rw[so p e e2] at h1;rw[do' p e e2,qo _ (hι p i ⟨s,h1⟩ hi e) (hι p j ⟨s,h1⟩ hj e2)];exact h.sit p s h1
 ·by_cases e:p=i
  ·subst e;rw[si'] at h1;cases h1;rw[di'];exact di
  ·by_cases e2:p=j
   ·subst e2;rw[sj'] at h1;cases h1;rw[dj'];exact dj
   ·rw[so p e e2] at h1;rw[do' p e e2];exact h.does p s h1
 ·have h1':=(live p).1 h1;have hg:=h.gr p h1';by_cases e:p=i
  ·subst e;rw[di'];refine⟨ri,wrk G.wri hRi,λl o hl=>?_⟩;obtain⟨O,e1,e2⟩:=hg.lpr l o hl;exact⟨O,(lpk p h1' l o hl).trans e1,e2⟩
  ·by_cases e2:p=j
   ·subst e2;rw[dj'];refine⟨rj,wrk G.wrj rγ,λl o hl=>?_⟩;obtain⟨O,e1,e3⟩:=hg.lpr l o hl;exact⟨O,(lpk p h1' l o hl).trans e1,e3.mono G.le⟩
   ·rw[do' p e e2];refine⟨hg.rel,wrk hg.wr (λB hb ec=>h.chrng hc h1' (ec ▸ hb)),λl o hl=>?_⟩;obtain⟨O,e1,e3⟩:=hg.lpr l o hl;exact⟨O,(lpk p h1' l o hl).trans e1,e3⟩
 ·have h1':=(live p).1 h1;by_cases e:p=i
  ·subst e;rw[di'];exact h.le p h1'
  ·by_cases e2:p=j
   ·subst e2;rw[dj'];exact Ren.le_trans (h.le p h1') G.le
   ·rw[do' p e e2];exact h.le p h1'
 ·have h1':=(live x).1 h1;have h2':=(live y).1 h2;have ij:∀B,Rng (D i).β B->Rng γ B->Sh' B:=λB a b=>G.both B a b λz=>h.sep i j hi hj hij B a z
  by_cases ex:x=i
  ·subst ex;rw[di'] at h3;by_cases ey:y=j
   ·subst ey;rw[dj'] at h4;exact ij B h3 h4
   ·rw[do' y (Ne.symm hne) ey] at h4;exact G.sh B (h.sep _ _ h1' h2' hne B h3 h4)
  ·by_cases ex2:x=j
   ·subst ex2;rw[dj'] at h3;by_cases ey:y=i
    ·subst ey;rw[di'] at h4;exact ij B h4 h3
    ·rw[do' y ey (Ne.symm hne)] at h4;exact rngSep y h2' ey (Ne.symm hne) B h4 h3
   ·rw[do' x ex ex2] at h3;by_cases ey:y=i
    ·subst ey;rw[di'] at h4;exact G.sh B (h.sep _ _ h1' h2' hne B h3 h4)
    ·by_cases ey2:y=j
     ·subst ey2;rw[dj'] at h4;exact rngSep x h1' ex ex2 B h3 h4
     ·rw[do' y ey ey2] at h4;exact G.sh B (h.sep _ _ h1' h2' hne B h3 h4)
 ·have h1':=(live p).1 h1;by_cases e:p=i
  ·subst e;rw[di'] at hb ⊢;exact G.fzi b B hb hB λz=>h.frz p h1' b B hb z
  ·by_cases e2:p=j
   ·subst e2;rw[dj'] at hb ⊢;exact G.fzj b B hb hB λb' h3 h4=>h.frz p h1' b' B h3 h4
   ·rw[do' p e e2] at hb ⊢;rcases G.sh' B hB with z|⟨z,z2⟩
    ·exact h.frz p h1' b B hb z
    ·exact absurd (h.sep p i h1' hi e B ⟨b,hb⟩ z) z2
 ·rw[hsW];rcases G.sh' B hB with z|⟨z,_⟩
  ·exact h.shlt B z
  ·exact h.rnglt hi z
 ·rw[lp'] at h3 h4;exact h.lps x y ((live x).1 h1) ((live y).1 h2) l h3 h4
 ·rw[lp'] at h3;exact h.lp0 p ((live p).1 h1) l h3
 ·rw[lp'] at h3;rcases G.sh' l hS with z|⟨z,_⟩
  ·exact h.lpsh p ((live p).1 h1) l h3 z
  ·exact(h.lpat ((live p).1 h1) h3).2 i hi z
 ·rw[sc];by_cases eb:b=a
  ·subst eb;rw[ho];exact⟨c,s0,hc,by rw[hcap];exact hcc⟩
  ·exact(h.chan b).of_heap λc' hc'=>kp c' λe=>eb (h.chi b a c (by rw[←e];exact hc') hc)
 ·exact⟨G.sh B (h.old B hB).1,(kp B (by have:=h.ch0 a c hc;omega)).trans (h.old B hB).2⟩
 ·have e1:x≠ι i:=λe=>hn i ((live i).2 hi) e.symm
  have e2:x≠ι j:=λe=>hn j ((live j).2 hj) e.symm
  rw[go x e1 e2] at hx;rw[qo x e1 e2,Deaf_quiet t x u λop ho=>(hu op ho).2];exact h.lv x g hx λp h1=>hn p ((live p).2 h1)
 ·rw[Deaf_quiet t x u λop ho=>(hu op ho).2];exact h.above x (by rw[←hsz];exact hx)
 ·rw[funext λg=>propext (live0 g),hsW,sc];refine h.tr.comm (s:=ι i) (r:=ι j) ⟨i,hi,rfl⟩ ⟨j,hj,rfl⟩ hu hsend (λB hB=>?_) (λg B hg hB=>?_) G.sh
  ·obtain⟨p,h1,h2,h3⟩:=hB;have e:=h.inj p j ((live p).1 h1) hj h2;subst e;rw[dj'] at h3;rcases h3 with⟨b,hb⟩|hl
   ·rcases G.new_ b B hb with z | ⟨z,z2⟩
    ·exact .inl ⟨p,hj,rfl,.inl ⟨b,z⟩⟩
    ·exact .inr ⟨⟨i,hi,rfl,.inl z⟩,z2⟩
   ·exact .inl ⟨p,hj,rfl,.inr hl⟩
  ·obtain⟨p,h1,h2,h3⟩:=hB;by_cases e:p=i
   ·subst e;rw[di'] at h3;exact⟨p,hi,h2,h3⟩
   ·by_cases e2:p=j
    ·subst e2;exact absurd h2.symm hg
    ·rw[do' p e e2] at h3;exact⟨p,(live p).1 h1,h2,h3⟩
 ·by_cases ex:x=i
  ·subst ex;rw[qi] at h2;cases h2
  ·by_cases ex2:x=j
   ·subst ex2;rw[qj] at h2;cases h2
   ·by_cases ey:y=i
    ·subst ey;rw[qi] at h5;cases h5
    ·by_cases ey2:y=j
     ·subst ey2;rw[qj] at h5;cases h5
     ·rw[so x ex ex2] at h1;rw[so y ey ey2] at h3;rw[qo _ (hι x i ⟨_,h1⟩ hi ex) (hι x j ⟨_,h1⟩ hj ex2)] at h2;rw[qo _ (hι y i ⟨_,h3⟩ hi ey) (hι y j ⟨_,h3⟩ hj ey2)] at h5;exact h.pk b x y m' k' s' h1 h2 h3 h4 h5
 ·by_cases ey:y=i
  ·subst ey;rw[qi] at h3;cases h3
  ·by_cases ey2:y=j
   ·subst ey2;rw[qj] at h3;cases h3
   ·rw[so y ey ey2] at h1;rw[qo _ (hι y i ⟨_,h1⟩ hi ey) (hι y j ⟨_,h1⟩ hj ey2)] at h3;rw[sc];exact h.pr y s' b fl h1 h2 h3
 ·by_cases ex:x=i
  ·subst ex;rw[qi] at h2;cases h2
  ·by_cases ex2:x=j
   ·subst ex2;rw[qj] at h2;cases h2
   ·rw[so x ex ex2] at h1;rw[qo _ (hι x i ⟨_,h1⟩ hi ex) (hι x j ⟨_,h1⟩ hj ex2)] at h2;rw[sc];exact h.ps x b m' k' h1 h2
end
end Go.Fw
end
