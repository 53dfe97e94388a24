/-
  Part 6 of the common ground of this seat: what single parts show stands ahead of each.
  No condition.
-/
import Derived.Test.YtkmgcggoemlaaaaGreatDoorJ05
import Derived.Conc.CrowdComm
import Derived.Conc.Token
set_option linter.unusedSimpArgs false
set_option linter.unusedVariables false
set_option linter.constructorNameAsVariable false
section
/- A sender and a receiver: what each does alone, as scripts; the trace while both are at work. -/
namespace Go.Fw
open Go Go.Conc
variable {P:Program} {FN:FuncId->Bool}
def SimRecv (P:Program)(FN:FuncId->Bool)(c:Nat)(fs:List Frame)(z:Value)(nx:Value->Bool->List Frame):Prop:=
 ∀(β:Ren P.globals.size) (FS:List Frame),FrsR P FN β fs FS->∃Z,VR FN β z Z/\(∀m W,stepG P m (gorL FS) W=.comm (gorL FS) #[rcase c Z] true (.recv true) W #[])/\
  ∀v V ok,VR FN β v V->∃FS',FrsR P FN β (nx v ok) FS'/\FS'≠[]/\Go.Conc.served (gorL FS) (recvd true V ok)=gorL FS'
def SimSend (P:Program)(FN:FuncId->Bool)(c:Nat)(fs:List Frame)(v:Value)(fs':List Frame):Prop:=
 ∀(β:Ren P.globals.size) (FS:List Frame),FrsR P FN β fs FS->∃V Z FS',VR FN β v V/\(∀m W,stepG P m (gorL FS) W=.comm (gorL FS) #[scase c V Z] true .send W #[])/\FrsR P FN β fs' FS'/\FS'≠[]/\Go.Conc.served (gorL FS) undef=gorL FS'
def SimClose (P:Program)(FN:FuncId->Bool)(c:Nat)(fs:List Frame):Prop:=
 ∀(β:Ren P.globals.size) (FS:List Frame),FrsR P FN β fs FS->mayWake P (gorL FS)=true/\∃(g':Goroutine) (k:Nat),g'.status=.running/\QuitsD P k 0 g'/\
  ∀W s r,W.heap[c]? = some (.chan 0 #[] false s r false)->stepG P false (gorL FS) W=.go g' (W.setChan c 0 #[] true s r false) (closeEvents c)
inductive Rcv (P:Program) (FN:FuncId->Bool) (c:Nat) (K:List Frame->World->Prop):List Value->List Frame->World->Prop
 | step {L:List Value} {fs:List Frame} {w:World} (F:Tape->List Frame) (G:Tape->World) (hne:fs≠[]) (hneF:∀tp,F tp≠[]) (hs:∀tp,SimF P FN fs (tpd w tp) (F tp) (G tp)) (hn:∀tp,Rcv P FN c K L (F tp) (G tp)):Rcv P FN c K L fs w
 | recv {v:Value} {L:List Value} {fs:List Frame} {w:World} {z:Value} {nx:Value->Bool->List Frame} (hne:fs≠[]) (h:SimRecv P FN c fs z nx) (hn:Rcv P FN c K L (nx v true) w):Rcv P FN c K (v :: L) fs w
 | shut {fs:List Frame} {w:World} {z:Value} {nx:Value->Bool->List Frame} (hne:fs≠[]) (h:SimRecv P FN c fs z nx) (hk:∃tp,K (nx z false) (tpd w tp)):Rcv P FN c K [] fs w
 | vac {L:List Value} {fs:List Frame} {w:World} (h:∀(β:Ren P.globals.size) (FS:List Frame) (W:World),FrsR P FN β fs FS->WR FN β w W->False):Rcv P FN c K L fs w
inductive Snd (P:Program) (FN:FuncId->Bool) (c:Nat):List Value->List Frame->World->Prop
 | step {L:List Value} {fs:List Frame} {w:World} (F:Tape->List Frame) (G:Tape->World) (hne:fs≠[]) (hneF:∀tp,F tp≠[]) (hs:∀tp,SimF P FN fs (tpd w tp) (F tp) (G tp)) (hn:∀tp,Snd P FN c L (F tp) (G tp)):Snd P FN c L fs w
 | send {v:Value} {L:List Value} {fs fs':List Frame} {w:World} (hne:fs≠[]) (h:SimSend P FN c fs v fs') (hn:Snd P FN c L fs' w):Snd P FN c (v :: L) fs w
 | close {fs:List Frame} {w:World} (hne:fs≠[]) (h:SimClose P FN c fs):Snd P FN c [] fs w
 | vac {L:List Value} {fs:List Frame} {w:World} (h:∀(β:Ren P.globals.size) (FS:List Frame) (W:World),FrsR P FN β fs FS->WR FN β w W->False):Snd P FN c L fs w
theorem rcv_clo (c:Nat)(K:List Frame->World->Prop)(L:List Value):Clo P FN (Rcv P FN c K L) where
 step fs w F G hne hneF hs hn:=.step F G hne hneF hs hn
 vac fs w h:=.vac h
 tp fs w t h:=by
  generalize hw:tpd w t=w1 at h;induction h generalizing w with
  | step F G hne hneF hs hn ih=>subst hw;exact .step F G hne hneF (λtp=>hs tp) hn
  | recv hne h hn ih=>subst hw;exact .recv hne h (ih _ rfl)
  | shut hne h hk=>subst hw;exact .shut hne h hk
  | vac h=>subst hw;exact .vac λβ FS W h1 h2=>h β FS W h1 (h2.tpd t)
theorem snd_clo (c:Nat)(L:List Value):Clo P FN (Snd P FN c L) where
 step fs w F G hne hneF hs hn:=.step F G hne hneF hs hn
 vac fs w h:=.vac h
 tp fs w t h:=by
  generalize hw:tpd w t=w1 at h;induction h generalizing w with
  | step F G hne hneF hs hn ih=>subst hw;exact .step F G hne hneF (λtp=>hs tp) hn
  | send hne h hn ih=>subst hw;exact .send hne h (ih _ rfl)
  | close hne h=>subst hw;exact .close hne h
  | vac h=>subst hw;exact .vac λβ FS W h1 h2=>h β FS W h1 (h2.tpd t)
def blk:Loc->Nat
 | .cell a=>a.block
 | .obj r=>r
 | _=>0
structure PhT (N n:Nat) (T0 T1:Nat->Prop) (t:Trace):Prop where
 clean:∀said,¬Race said t
 d0:Deaf t 0=0
 d1:Deaf t n=0
 k0:∀i a,touchAt t i=some a->a.loc.isMemory=true->Knows t 0 i\/(t.g? i=some n/\(T1 (blk a.loc)\/(a.write=false/\blk a.loc<N)))
 k1:∀i a,touchAt t i=some a->a.loc.isMemory=true->Knows t n i\/(t.g? i=some 0/\(T0 (blk a.loc)\/(a.write=false/\blk a.loc<N)))
def EvP (N:Nat)(T:Nat->Prop)(e:Event):Prop:=NoWord e/\∀x,(MemAct.ofEvent e).touch? = some x->x.loc.isMemory=true->T (blk x.loc)\/(x.write=false/\blk x.loc<N)
theorem g?_app {t u:Trace}{i g:Nat}(h:t.g? i=some g):(t++u).g? i=some g:=by
 obtain⟨op,ho,hg⟩:=Option.map_eq_some_iff.1 h;rw[g?_old (lt_size_of_getElem? ho)];exact h
theorem Deaf_quiet (t:Trace)(g:Nat)(u:Trace)(hu:∀op∈u,op.act≠.mark .disable/\op.act≠.mark .enable):Deaf (t++u) g=Deaf t g:=by
 obtain⟨l⟩:=u;rw[Deaf_append];induction l generalizing t with
 | nil=>rfl
 | cons y l ih=>
  have e1:deafStep g (Deaf t g) y=Deaf t g:=by
   have hy:=hu y (by simp);unfold deafStep;split
   ·rename_i h;exact absurd h hy.1
   ·rename_i h;exact absurd h hy.2
   ·rfl
  rw[List.foldl_cons,e1];exact ih t (λop hop=>hu op (by simp at hop ⊢;exact .inr hop))
theorem quiet_ofEvents {g:Nat}{fn:FuncId}{pos:String}{es:Array Event}(h:∀e∈es,NoWord e):∀op∈MemOp.ofEvents g fn pos es,op.act≠.mark .disable/\op.act≠.mark .enable:=by
 intro op hop;obtain⟨e,he,rfl⟩:=Go.Conc.mem_ofEvents hop;obtain⟨h1,h2⟩:=h e he;obtain⟨loc,wr,sy⟩:=e;cases loc with
 | mark m=>
  have e1:MemAct.ofEvent ⟨.mark m,wr,sy⟩=.mark m:=by cases wr<;>cases sy<;>rfl
  simp only[e1];exact⟨λh=>h1 (by cases h;rfl),λh=>h2 (by cases h;rfl)⟩
 | obj c=>cases wr<;>cases sy<;>simp[MemAct.ofEvent]
 | _=>simp[MemAct.ofEvent]
section
variable {N n:Nat} {T0 T1:Nat->Prop} {t u:Trace}
theorem PhT.quiet (h:PhT N n T0 T1 t)(hu:∀op∈u,op.act.touch? = none/\op.act≠.mark .disable/\op.act≠.mark .enable):PhT N n T0 T1 (t++u):=by
 have key:∀i a,touchAt (t++u) i=some a->touchAt t i=some a/\i<t.size:=λi a ha=>by
  obtain⟨x,hx,hxa⟩:=touch_of ha;rcases getElem?_append_cases hx with⟨hi,hx'⟩|⟨_,hxu⟩
  ·exact⟨by rw[touchAt_of hx'];exact hxa,hi⟩
  ·rw[(hu x hxu).1] at hxa;cases hxa
 refine⟨λsaid=>?_,(Deaf_quiet t 0 u λop ho=>(hu op ho).2).trans h.d0,(Deaf_quiet t n u λop ho=>(hu op ho).2).trans h.d1,λi a ha hm=>?_,λi a ha hm=>?_⟩
 ·rintro⟨i,j,hij,⟨a,b,ha,hb,hc⟩,n1,n2⟩;obtain⟨ha',hi⟩:=key i a ha;obtain⟨hb',hj⟩:=key j b hb;exact h.clean said ⟨i,j,hij,⟨a,b,ha',hb',hc⟩,λe=>n1 (hb_app u e),λe=>n2 (hb_app u e)⟩
 ·exact(h.k0 i a (key i a ha).1 hm).imp (·.app u) λ⟨h1,h2⟩=>⟨g?_app h1,h2⟩
 ·exact(h.k1 i a (key i a ha).1 hm).imp (·.app u) λ⟨h1,h2⟩=>⟨g?_app h1,h2⟩
theorem PhT.own0 (h:PhT N n T0 T1 t){T0':Nat->Prop}(h1:∀B,T0 B->T0' B)(hT0:∀B,T0' B->N<=B)(hT1:∀B,T1 B->N<=B)(hdj:∀B,T0' B->T1 B->False){fn:FuncId}{pos:String}{es:Array Event}(he:∀e∈es,EvP N T0' e) :
  PhT N n T0' T1 (t++MemOp.ofEvents 0 fn pos es):=by
 have hu:∀op∈MemOp.ofEvents 0 fn pos es,op.g=0:=λop hop=>by obtain⟨e,_,rfl⟩:=Go.Conc.mem_ofEvents hop;rfl
 have ht:∀op∈MemOp.ofEvents 0 fn pos es,∀b,op.act.touch? = some b->b.loc.isMemory=true->T0' (blk b.loc)\/(b.write=false/\blk b.loc<N):=λop hop b hb hm=>by
  obtain⟨e,h1,rfl⟩:=Go.Conc.mem_ofEvents hop;exact(he e h1).2 b hb hm
 have hq:=quiet_ofEvents (g:=0) (fn:=fn) (pos:=pos) (λe h=>(he e h).1);refine⟨λsaid=>noRace_append (h.clean said) hu λi a ha op hop b hb hc=>?_,(Deaf_quiet t 0 _ hq).trans h.d0,(Deaf_quiet t n _ hq).trans h.d1,λi a ha hm=>?_,λi a ha hm=>?_⟩
 ·obtain⟨hl,hm,hw,_⟩:=hc;rcases h.k0 i a ha hm with hk|⟨_,hk⟩
  ·exact hk
  ·exfalso;have:=ht op hop b hb (hl ▸ hm);rw[←hl] at this;rcases this with h5 | ⟨h5,h6⟩<;>rcases hk with h7 | ⟨h7,h8⟩
   ·exact hdj _ h5 h7
   ·have:=hT0 _ h5;omega
   ·have:=hT1 _ h7;omega
   ·rcases hw with hw | hw
    ·rw[h7] at hw;cases hw
    ·rw[h5] at hw;cases hw
 ·obtain⟨x,hx,hxa⟩:=touch_of ha;rcases getElem?_append_cases hx with⟨_,hx'⟩|⟨_,hxu⟩
  ·exact(h.k0 i a (by rw[touchAt_of hx'];exact hxa) hm).imp (·.app _) λ⟨h1,h2⟩=>⟨g?_app h1,h2⟩
  ·have:=knows_own hx;rw[hu x hxu] at this;exact .inl this
 ·obtain⟨x,hx,hxa⟩:=touch_of ha;rcases getElem?_append_cases hx with⟨_,hx'⟩|⟨_,hxu⟩
  ·exact(h.k1 i a (by rw[touchAt_of hx'];exact hxa) hm).imp (·.app _) λ⟨h3,h2⟩=>⟨g?_app h3,h2.imp (h1 _) id⟩
  ·exact .inr ⟨by simp[Trace.g?,hx,hu x hxu],ht x hxu a hxa hm⟩
theorem PhT.own1 (h:PhT N n T0 T1 t){T1':Nat->Prop}(h1:∀B,T1 B->T1' B)(hT0:∀B,T0 B->N<=B)(hT1:∀B,T1' B->N<=B)(hdj:∀B,T0 B->T1' B->False){fn:FuncId}{pos:String}{es:Array Event}(he:∀e∈es,EvP N T1' e) :
  PhT N n T0 T1' (t++MemOp.ofEvents n fn pos es):=by
 have hu:∀op∈MemOp.ofEvents n fn pos es,op.g=n:=λop hop=>by obtain⟨e,_,rfl⟩:=Go.Conc.mem_ofEvents hop;rfl
 have ht:∀op∈MemOp.ofEvents n fn pos es,∀b,op.act.touch? = some b->b.loc.isMemory=true->T1' (blk b.loc)\/(b.write=false/\blk b.loc<N):=λop hop b hb hm=>by
  obtain⟨e,h1,rfl⟩:=Go.Conc.mem_ofEvents hop;exact(he e h1).2 b hb hm
 have hq:=quiet_ofEvents (g:=n) (fn:=fn) (pos:=pos) (λe h=>(he e h).1);refine⟨λsaid=>noRace_append (h.clean said) hu λi a ha op hop b hb hc=>?_,(Deaf_quiet t 0 _ hq).trans h.d0,(Deaf_quiet t n _ hq).trans h.d1,λi a ha hm=>?_,λi a ha hm=>?_⟩
 ·obtain⟨hl,hm,hw,_⟩:=hc;rcases h.k1 i a ha hm with hk|⟨_,hk⟩
  ·exact hk
  ·exfalso;have:=ht op hop b hb (hl ▸ hm);rw[←hl] at this;rcases this with h5 | ⟨h5,h6⟩<;>rcases hk with h7 | ⟨h7,h8⟩
   ·exact hdj _ h7 h5
   ·have:=hT1 _ h5;omega
   ·have:=hT0 _ h7;omega
   ·rcases hw with hw | hw
    ·rw[h7] at hw;cases hw
    ·rw[h5] at hw;cases hw
 ·obtain⟨x,hx,hxa⟩:=touch_of ha;rcases getElem?_append_cases hx with⟨_,hx'⟩|⟨_,hxu⟩
  ·exact(h.k0 i a (by rw[touchAt_of hx'];exact hxa) hm).imp (·.app _) λ⟨h3,h2⟩=>⟨g?_app h3,h2.imp (h1 _) id⟩
  ·exact .inr ⟨by simp[Trace.g?,hx,hu x hxu],ht x hxu a hxa hm⟩
 ·obtain⟨x,hx,hxa⟩:=touch_of ha;rcases getElem?_append_cases hx with⟨_,hx'⟩|⟨_,hxu⟩
  ·exact(h.k1 i a (by rw[touchAt_of hx'];exact hxa) hm).imp (·.app _) λ⟨h1,h2⟩=>⟨g?_app h1,h2⟩
  ·have:=knows_own hx;rw[hu x hxu] at this;exact .inl this
theorem PhT.mute (h:PhT N n T0 T1 t){g:Nat}(h0:g≠0)(hn:g≠n){fn:FuncId}{pos:String}{es:Array Event}(he:∀e∈es,e.mute=true):PhT N n T0 T1 (t++MemOp.ofEvents g fn pos es):=by
 have hu:∀op∈MemOp.ofEvents g fn pos es,op.g=g:=λop hop=>by obtain⟨e,_,rfl⟩:=Go.Conc.mem_ofEvents hop;rfl
 have ht:∀op∈MemOp.ofEvents g fn pos es,op.act.touch? = none:=λop hop=>by obtain⟨e,h1,rfl⟩:=Go.Conc.mem_ofEvents hop;exact touch_mute (he e h1)
 have key:∀i a,touchAt (t++MemOp.ofEvents g fn pos es) i=some a->touchAt t i=some a:=λi a ha=>by
  obtain⟨x,hx,hxa⟩:=touch_of ha;rcases getElem?_append_cases hx with⟨hi,hx'⟩|⟨_,hxu⟩
  ·rw[touchAt_of hx'];exact hxa
  ·rw[ht x hxu] at hxa;cases hxa
 exact⟨λsaid=>noRace_append (h.clean said) hu λi a ha op hop b hb hc=>(by rw[ht op hop] at hb;cases hb),(Deaf_other t h0 _ hu).trans h.d0,(Deaf_other t hn _ hu).trans h.d1,λi a ha hm=>(h.k0 i a (key i a ha) hm).imp (·.app _) λ⟨h1,h2⟩=>⟨g?_app h1,h2⟩,λi a ha hm=>(h.k1 i a (key i a ha) hm).imp (·.app _) λ⟨h1,h2⟩=>⟨g?_app h1,h2⟩⟩
theorem PhT.fork (h:PastT t)(hn:n≠0)(hd:Deaf t n=0){fn fn':FuncId}{pos pos':String}:PhT N n (λ_=>False) (λ_=>False) (t++#[{ g:=0,fn:=fn,pos:=pos,act:=.go n },{ g:=n,fn:=fn',pos:=pos',act:=.start }]):=by
 let u:Trace:=#[{ g:=0,fn:=fn,pos:=pos,act:=.go n },{ g:=n,fn:=fn',pos:=pos',act:=.start }]
 show PhT N n _ _ (t++u);have hu:∀op∈u,op.act.touch? = none/\op.act≠.mark .disable/\op.act≠.mark .enable:=λop hop=>by
  simp only[u,List.mem_toArray,List.mem_cons,List.not_mem_nil,or_false] at hop;rcases hop with rfl | rfl<;>simp[MemAct.touch?]
 have e0:(t++u)[t.size]? = some { g:=0,fn:=fn,pos:=pos,act:=.go n }:=by
  rw[Array.getElem?_append_right (Nat.le_refl _)];simp[u]
 have e1:(t++u)[t.size+1]? = some { g:=n,fn:=fn',pos:=pos',act:=.start }:=by
  rw[Array.getElem?_append_right (by omega)];simp[u]
 have d0:∀i g,i<=t.size+2->(t++u).deaf g i=t.deaf g (min i t.size):=λi g hi=>by
  rcases Nat.lt_or_ge i (t.size+1) with h1|h1
  ·rw[deaf_old (by omega),Nat.min_eq_left (by omega)]
  ·have a1:(t++u).deaf g (t.size+1)=t.deaf g t.size:=by rw[deaf_succ e0,deaf_old (Nat.le_refl _)];rfl
   rcases Nat.lt_or_ge i (t.size+2) with h2|h2
   ·obtain rfl:i=t.size+1:=by omega
    rw[a1,Nat.min_eq_right (by omega)]
   ·obtain rfl:i=t.size+2:=by omega
    rw[deaf_succ e1,a1,Nat.min_eq_right (by omega)];rfl
 have hgo:(t++u).heard t.size:=⟨0,by simp[Trace.g?,e0],by rw[d0 _ _ (by omega)];simpa[Deaf] using h.hears⟩;have hst:(t++u).heard (t.size+1):=⟨n,by simp[Trace.g?,e1],by rw[d0 _ _ (by omega),Nat.min_eq_right (by omega)];exact hd⟩;have edge:HappensBefore (t++u) t.size (t.size+1):=.single (.inr ⟨.spawn (child:=n) (by rw[act?_of e0]) (by rw[act?_of e1]) (by simp[Trace.g?,e1]),hgo,hst⟩);have key:∀i a,touchAt (t++u) i=some a->touchAt t i=some a:=λi a ha=>by
  obtain⟨x,hx,hxa⟩:=touch_of ha;rcases getElem?_append_cases hx with⟨hi,hx'⟩|⟨_,hxu⟩
  ·rw[touchAt_of hx'];exact hxa
  ·rw[(hu x hxu).1] at hxa;cases hxa
 have lt:∀i a,touchAt t i=some a->i<t.size:=λi a ha=>by
  obtain⟨x,hx,_⟩:=touch_of ha;exact lt_size_of_getElem? hx
 refine⟨λsaid=>?_,(Deaf_quiet t 0 u λop ho=>(hu op ho).2).trans h.hears,(Deaf_quiet t n u λop ho=>(hu op ho).2).trans hd,λi a ha hm=>.inl ((h.known i a (key i a ha) hm).app u),λi a ha hm=>.inl ?_⟩
 ·rintro⟨i,j,hij,⟨a,b,ha,hb,hc⟩,n1,n2⟩;exact h.clean said ⟨i,j,hij,⟨a,b,key i a ha,key j b hb,hc⟩,λe=>n1 (hb_app u e),λe=>n2 (hb_app u e)⟩
 ·have hk:=h.known i a (key i a ha) hm;exact⟨t.size+1,_,e1,rfl,.inr ((hk.hb_new (u:=u) (Nat.le_refl _) e0 rfl).trans edge)⟩
structure Ph0 (N n:Nat) (T1:Nat->Prop) (t:Trace):Prop where
 clean:∀said,¬Race said t
 d0:Deaf t 0=0
 k0:∀i a,touchAt t i=some a->a.loc.isMemory=true->Knows t 0 i\/(t.g? i=some n/\(T1 (blk a.loc)\/(a.write=false/\blk a.loc<N)))
theorem PhT.to0 (h:PhT N n T0 T1 t):Ph0 N n T1 t:=⟨h.clean,h.d0,h.k0⟩
theorem Ph0.quiet (h:Ph0 N n T1 t)(hu:∀op∈u,op.act.touch? = none/\op.act≠.mark .disable/\op.act≠.mark .enable):Ph0 N n T1 (t++u):=by
 have key:∀i a,touchAt (t++u) i=some a->touchAt t i=some a:=λi a ha=>by
  obtain⟨x,hx,hxa⟩:=touch_of ha;rcases getElem?_append_cases hx with⟨hi,hx'⟩|⟨_,hxu⟩
  ·rw[touchAt_of hx'];exact hxa
  ·rw[(hu x hxu).1] at hxa;cases hxa
 refine⟨λsaid=>?_,(Deaf_quiet t 0 u λop ho=>(hu op ho).2).trans h.d0,λi a ha hm=>?_⟩
 ·rintro⟨i,j,hij,⟨a,b,ha,hb,hc⟩,n1,n2⟩;exact h.clean said ⟨i,j,hij,⟨a,b,key i a ha,key j b hb,hc⟩,λe=>n1 (hb_app u e),λe=>n2 (hb_app u e)⟩
 ·exact(h.k0 i a (key i a ha) hm).imp (·.app u) λ⟨h1,h2⟩=>⟨g?_app h1,h2⟩
theorem Ph0.own0 (h:Ph0 N n T1 t)(hT0:∀B,T0 B->N<=B)(hT1:∀B,T1 B->N<=B)(hdj:∀B,T0 B->T1 B->False){fn:FuncId}{pos:String}{es:Array Event}(he:∀e∈es,EvP N T0 e) :
  Ph0 N n T1 (t++MemOp.ofEvents 0 fn pos es):=by
 have hu:∀op∈MemOp.ofEvents 0 fn pos es,op.g=0:=λop hop=>by obtain⟨e,_,rfl⟩:=Go.Conc.mem_ofEvents hop;rfl
 have ht:∀op∈MemOp.ofEvents 0 fn pos es,∀b,op.act.touch? = some b->b.loc.isMemory=true->T0 (blk b.loc)\/(b.write=false/\blk b.loc<N):=λop hop b hb hm=>by
  obtain⟨e,h1,rfl⟩:=Go.Conc.mem_ofEvents hop;exact(he e h1).2 b hb hm
 have hq:=quiet_ofEvents (g:=0) (fn:=fn) (pos:=pos) (λe h=>(he e h).1);refine⟨λsaid=>noRace_append (h.clean said) hu λi a ha op hop b hb hc=>?_,(Deaf_quiet t 0 _ hq).trans h.d0,λi a ha hm=>?_⟩
 ·obtain⟨hl,hm,hw,_⟩:=hc;rcases h.k0 i a ha hm with hk|⟨_,hk⟩
  ·exact hk
  ·exfalso;have:=ht op hop b hb (hl ▸ hm);rw[←hl] at this;rcases this with h5 | ⟨h5,h6⟩<;>rcases hk with h7 | ⟨h7,h8⟩
   ·exact hdj _ h5 h7
   ·have:=hT0 _ h5;omega
   ·have:=hT1 _ h7;omega
   ·rcases hw with hw | hw
    ·rw[h7] at hw;cases hw
    ·rw[h5] at hw;cases hw
 ·obtain⟨x,hx,hxa⟩:=touch_of ha;rcases getElem?_append_cases hx with⟨_,hx'⟩|⟨_,hxu⟩
  ·exact(h.k0 i a (by rw[touchAt_of hx'];exact hxa) hm).imp (·.app _) λ⟨h1,h2⟩=>⟨g?_app h1,h2⟩
  ·have:=knows_own hx;rw[hu x hxu] at this;exact .inl this
theorem Ph0.mute (h:Ph0 N n T1 t){g:Nat}(h0:g≠0){fn:FuncId}{pos:String}{es:Array Event}(he:∀e∈es,e.mute=true):Ph0 N n T1 (t++MemOp.ofEvents g fn pos es):=by
 have hu:∀op∈MemOp.ofEvents g fn pos es,op.g=g:=λop hop=>by obtain⟨e,_,rfl⟩:=Go.Conc.mem_ofEvents hop;rfl
 have ht:∀op∈MemOp.ofEvents g fn pos es,op.act.touch? = none:=λop hop=>by obtain⟨e,h1,rfl⟩:=Go.Conc.mem_ofEvents hop;exact touch_mute (he e h1)
 have key:∀i a,touchAt (t++MemOp.ofEvents g fn pos es) i=some a->touchAt t i=some a:=λi a ha=>by
  obtain⟨x,hx,hxa⟩:=touch_of ha;rcases getElem?_append_cases hx with⟨hi,hx'⟩|⟨_,hxu⟩
  ·rw[touchAt_of hx'];exact hxa
  ·rw[ht x hxu] at hxa;cases hxa
 exact⟨λsaid=>noRace_append (h.clean said) hu λi a ha op hop b hb hc=>(by rw[ht op hop] at hb;cases hb),(Deaf_other t h0 _ hu).trans h.d0,λi a ha hm=>(h.k0 i a (key i a ha) hm).imp (·.app _) λ⟨h1,h2⟩=>⟨g?_app h1,h2⟩⟩
structure ClT (N n c:Nat) (T1:Nat->Prop) (t:Trace):Prop where
 ph:Ph0 N n T1 t
 pc:∃p op,t[p]? = some op/\op.g=n/\op.act=.close c/\t.heard p/\∀i a,touchAt t i=some a->t.g? i=some n->a.loc.isMemory=true->Before t i p
theorem ofEvent_close (c:Nat):MemAct.ofEvent ⟨.obj c,true,true⟩=.close c:=rfl
theorem PhT.close (h:PhT N n T0 T1 t)(hT0:∀B,T0 B->N<=B)(hT1:∀B,T1 B->N<=B)(hdj:∀B,T0 B->T1 B->False){c:Nat}(hc:c<N){fn:FuncId}{pos:String}:ClT N n c T1 (t++MemOp.ofEvents n fn pos (closeEvents c)):=by
 have h':=h.own1 (T1':=T1) (λ_ x=>x) hT0 hT1 hdj (fn:=fn) (pos:=pos) (es:=#[⟨.obj c,false,true⟩]) (λe he=>by
  simp only[List.mem_toArray,List.mem_cons,List.not_mem_nil,or_false] at he;subst he;refine⟨⟨by simp,by simp⟩,λx hx hm=>.inr ?_⟩;simp only[MemAct.ofEvent,MemAct.touch?,Option.some.injEq] at hx;subst hx;exact⟨rfl,hc⟩)
 have eu:t++MemOp.ofEvents n fn pos (closeEvents c)=(t++MemOp.ofEvents n fn pos #[⟨.obj c,false,true⟩])++#[{ g:=n,fn:=fn,pos:=pos,act:=.close c }]:=by
  rw[ofEvents_eq,ofEvents_eq,Array.append_assoc];congr 1;simp[closeEvents,ofEvent_close]
 rw[eu];generalize t++MemOp.ofEvents n fn pos #[⟨.obj c,false,true⟩]=t at h';have e0:(t++#[({ g:=n,fn:=fn,pos:=pos,act:=.close c }:MemOp)])[t.size]? = some { g:=n,fn:=fn,pos:=pos,act:=.close c }:=by simp
 refine⟨h'.to0.quiet λop hop=>?_,t.size,_,e0,rfl,rfl,⟨n,by simp[Trace.g?],by rw[deaf_old (Nat.le_refl _)];exact h'.d1⟩,λi a ha hg hm=>?_⟩
 ·simp only[List.mem_toArray,List.mem_cons,List.not_mem_nil,or_false] at hop;subst hop;simp[MemAct.touch?]
 ·obtain⟨x,hx,hxa⟩:=touch_of ha;rcases getElem?_append_cases hx with⟨hi,hx'⟩|⟨_,hxu⟩
  ·refine .inr (hb_po hi hx e0 ?_);simp only[Trace.g?,hx,Option.map_some,Option.some.injEq] at hg;exact hg
  ·simp only[List.mem_toArray,List.mem_cons,List.not_mem_nil,or_false] at hxu;subst hxu;cases hxa
theorem ClT.app {c:Nat}(h:ClT N n c T1 t)(hp:Ph0 N n T1 (t++u))(hu:∀op∈u,op.g≠n\/op.act.touch? = none):ClT N n c T1 (t++u):=by
 obtain⟨p,op,h1,h2,h3,h4,h5⟩:=h.pc;have hlt:=lt_size_of_getElem? h1;refine⟨hp,p,op,by rw[getElem?_append_old hlt];exact h1,h2,h3,(heard_old hlt).2 h4,λi a ha hg hm=>?_⟩;obtain⟨x,hx,hxa⟩:=touch_of ha;rcases getElem?_append_cases hx with⟨hi,hx'⟩|⟨_,hxu⟩
 ·exact(h5 i a (by rw[touchAt_of hx'];exact hxa) (by rw[←g?_old hi];exact hg) hm).app u
 ·rcases hu x hxu with h6 | h6
  ·simp only[Trace.g?,hx,Option.map_some,Option.some.injEq] at hg;exact absurd hg h6
  ·rw[h6] at hxa;cases hxa
theorem ClT.shut {c:Nat}(h:ClT N n c T1 t){fn:FuncId}{pos:String}:PastT (t++#[{ g:=0,fn:=fn,pos:=pos,act:=.recvClosed c }]):=by
 let u:Trace:=#[{ g:=0,fn:=fn,pos:=pos,act:=.recvClosed c }]
 show PastT (t++u);have hu:∀op∈u,op.act.touch? = none/\op.act≠.mark .disable/\op.act≠.mark .enable:=λop hop=>by
  simp only[u,List.mem_toArray,List.mem_cons,List.not_mem_nil,or_false] at hop;subst hop;simp[MemAct.touch?]
 have hq:=h.ph.quiet hu;obtain⟨p,op,h1,h2,h3,h4,h5⟩:=h.pc;have hlt:=lt_size_of_getElem? h1;have e0:(t++u)[t.size]? = some { g:=0,fn:=fn,pos:=pos,act:=.recvClosed c }:=by simp[u]
 have e1:(t++u)[p]? = some op:=by rw[getElem?_append_old hlt];exact h1
 have hr:(t++u).heard t.size:=⟨0,by simp[Trace.g?,e0],by rw[deaf_old (Nat.le_refl _)];exact h.ph.d0⟩;have edge:HappensBefore (t++u) p t.size:=.single (.inr ⟨.closed (c:=c) (by rw[act?_of e1,h3]) (by rw[act?_of e0]),(heard_old hlt).2 h4,hr⟩);refine⟨hq.clean,λi a ha hm=>?_,hq.d0⟩;rcases hq.k0 i a ha hm with hk|⟨hg,_⟩
 ·exact hk
 ·obtain⟨x,hx,hxa⟩:=touch_of ha;rcases getElem?_append_cases hx with⟨hi,hx'⟩|⟨_,hxu⟩
  ·have hb:=(h5 i a (by rw[touchAt_of hx'];exact hxa) (by rw[←g?_old hi];exact hg) hm).app u;exact⟨t.size,_,e0,rfl,hb.trans (.inr edge)⟩
  ·rw[(hu x hxu).1] at hxa;cases hxa
end
end Go.Fw
end
section
/- A receiver and a sender at work in the machine: it comes to the receiver's end. -/
namespace Go.Fw
open Go Go.Conc
open Go.ConcN (sumTo upd sumTo_upd upd_ne upd_same)
variable {P:Program} {FN:FuncId->Bool}
def cleanV:Nat->Value->Bool
 | 0,_=>false
 | n+1,v=>match v with
  | .map _ | .func _ _ _=>false
  | .slice (some _) _ c=>decide (0<c)
  | .agg xs | .tuple xs=>xs.all (cleanV n)
  | .iface _ v=>cleanV n v
  | _=>true
theorem VR.fn {G:Nat}{FN:FuncId->Bool}{β:Ren G}{v V:Value}(h:VR FN β v V):∀{n:Nat} {V':Value},cleanV n v=true->VR FN β v V'->V=V':=by
 have arr:∀{n:Nat} {xs XS XS':Array Value},xs.all (cleanV n)=true->xs.size=XS.size->xs.size=XS'.size->(∀(i:Nat) (x X:Value),xs[i]? = some x->XS[i]? = some X->∀{n:Nat} {X':Value},cleanV n x=true->VR FN β x X'->X=X')->
   (∀(i:Nat) (x X:Value),xs[i]? = some x->XS'[i]? = some X->VR FN β x X)->XS=XS':=λ{n xs XS XS'} hc h1 h2 h3 h4=>by
  apply Array.ext_getElem?;intro i;by_cases hi:i<xs.size
  ·have e1:XS[i]? = some (XS[i]'(by omega)):=Array.getElem?_eq_getElem _;have e2:XS'[i]? = some (XS'[i]'(by omega)):=Array.getElem?_eq_getElem _;rw[e1,e2,h3 i _ _ (Array.getElem?_eq_getElem hi) e1 (all_get hc (Array.getElem?_eq_getElem hi)) (h4 i _ _ (Array.getElem?_eq_getElem hi) e2)]
  ·rw[Array.getElem?_eq_none (by omega),Array.getElem?_eq_none (by omega)]
 have adr:∀{a A A':Addr},AR β a A->AR β a A'->A=A':=λ{a A A'} h1 h2=>by
  obtain⟨h1,h3,h4⟩:=h1;obtain⟨h2,h5,h6⟩:=h2;cases A;cases A';simp only at h1 h2 h3 h4 h5 h6;rw[h1] at h2;cases h2;rw[h3,h4,h5,h6]
 induction h with
 | bool b=>intro n V' hc h;cases h;rfl
 | int k n=>intro n V' hc h;cases h;rfl
 | string s=>intro n V' hc h;cases h;rfl
 | ptr0=>intro n V' hc h;cases h;rfl
 | ptr ha=>intro n V' hc h;cases h with | ptr hb=>rw[adr ha hb]
 | slice0 l c=>intro n V' hc h;cases h;rfl
 | slice l c ha=>
  intro n V' hc h;cases h with
  | slice _ _ hb=>rw[adr ha hb]
  | sliceE _ _=>cases n<;>simp[cleanV] at hc
 | sliceE a A=>intro n V' hc h;cases n<;>simp[cleanV] at hc
 | chan r=>intro n V' hc h;cases h;rfl
 | nilFunc=>intro n V' hc h;cases h;rfl
 | nilIface=>intro n V' hc h;cases h;rfl
 | iface t _ ih=>
  intro n V' hc h;cases n with
  | zero=>cases hc
  | succ n=>cases h with | iface _ h=>rw[ih (n:=n) hc h]
 | func hf h1 _ h3 _ ih1 ih2=>intro n V' hc h;cases n<;>cases hc
 | agg h1 _ ih=>
  intro n V' hc h;cases n with
  | zero=>cases hc
  | succ n=>cases h with | agg g1 g2=>rw[arr (n:=n) hc h1 g1 ih g2]
 | tuple h1 _ ih=>
  intro n V' hc h;cases n with
  | zero=>cases hc
  | succ n=>cases h with | tuple g1 g2=>rw[arr (n:=n) hc h1 g1 ih g2]
 | junkF f xs ys=>intro n V' hc h;cases n<;>cases hc
 | bound h1 _ _=>intro n V' hc h;cases n<;>simp[cleanV] at hc
 | yld l=>intro n V' hc h;cases n<;>simp[cleanV] at hc
 | mapNil=>intro n V' hc h;cases n<;>cases hc
 | junk hj=>intro n V' hc h;cases n<;>cases hc
def Sent {G:Nat}(FN:FuncId->Bool)(β:Ren G)(v:Value):Prop:=(∃n,cleanV n v=true)/\∃V0,VR FN β v V0
def frzO:Obj->Obj
 | .cells c t fr=>.cells c t (0,max c.size fr.2)
 | o=>o
def frzW (w:World):World:={ w with heap:=w.heap.map frzO }
theorem frzW_get (w:World)(b:Nat):(frzW w).heap[b]? = (w.heap[b]?).map frzO:=by simp[frzW]
theorem frzW_size (w:World):(frzW w).heap.size=w.heap.size:=by simp[frzW]
theorem WR.frzW {G:Nat}{β:Ren G}{w W:World}(h:WR FN β w W):WR FN β (Fw.frzW w) W/\∀b B,β.f b=some B->Fz (Fw.frzW w) b:=by
 refine⟨⟨λb B hb=>?_,by rw[frzW_size];exact h.gl,h.gr⟩,λb B hb=>?_⟩
 ·rw[frzW_get];rcases h.blk b B hb with⟨c,C,t,fr,FR,e1,e2,hR,hfz⟩|⟨a,A,l,e1,e2,e3⟩
  ·refine .inl ⟨c,C,t,(0,max c.size fr.2),FR,by rw[e1];rfl,e2,hR,λoff ho=>?_⟩;obtain⟨h1,h2⟩:=hfz off ho;exact⟨Nat.zero_le _,by show off<max _ _;omega⟩
  ·exact .inr ⟨a,A,l,by rw[e1];rfl,e2,e3⟩
 ·rcases h.blk b B hb with⟨c,C,t,fr,FR,e1,e2,hR,hfz⟩ | ⟨a,A,l,e1,e2,e3⟩
  ·exact .inl ⟨c,t,(0,max c.size fr.2),by rw[frzW_get,e1];rfl,λoff ho=>⟨Nat.zero_le _,by show off<max _ _;omega⟩⟩
  ·exact .inr ⟨a,l,by rw[frzW_get,e1];rfl⟩
def thaw (w w':World):World:={ w' with heap:=w.heap++w'.heap.extract w.heap.size w'.heap.size }
theorem thaw_old {w w':World}{b:Nat}(h:b<w.heap.size):(thaw w w').heap[b]? = w.heap[b]?:=by
 show (w.heap++_)[b]? = _;rw[Array.getElem?_append_left h]
theorem thaw_new {w w':World}{b:Nat}(h:w.heap.size<=b):(thaw w w').heap[b]? = w'.heap[b]?:=by
 show (w.heap++_)[b]? = _;rw[Array.getElem?_append_right h,Array.getElem?_extract];by_cases hb:b<w'.heap.size
 ·rw[if_pos (by omega)];congr 1;omega
 ·rw[if_neg (by omega),Array.getElem?_eq_none (by omega)]
theorem thaw_size {w w':World}(h:w.heap.size<=w'.heap.size):(thaw w w').heap.size=w'.heap.size:=by
 show (w.heap++_).size=_;simp;omega
def Rng {G:Nat}(β:Ren G)(B:Nat):Prop:=∃b,β.f b=some B
def TS {G:Nat}(N:Nat)(β:Ren G)(B:Nat):Prop:=N<=B/\Rng β B
structure Side (P:Program) (FN:FuncId->Bool) (N n0:Nat) (βf β:Ren P.globals.size) (fs:List Frame) (w:World) (FS:List Frame) (W:World):Prop where
 rel:FrsR P FN β fs FS
 wr:WR FN β w W
 le:βf.le β
 fz:∀b B,β.f b=some B->B<N->Fz w b
 nw:∀b B,β.f b=some B->βf.f b=some B\/(n0<=b/\N<=B)
 sz:n0<=w.heap.size
section
variable {N n0:Nat} {βf β γ:Ren P.globals.size} {fs fs' FS FS':List Frame} {w w' W W':World}
theorem Side.other (h:Side P FN N n0 βf β fs w FS W)(hsz:W.heap.size<=W'.heap.size)(hk:∀B,Rng β B->W'.heap[B]? = W.heap[B]?):Side P FN N n0 βf β fs w FS W':=
 ⟨h.rel,⟨λb B hb=>by rw[hk B ⟨b,hb⟩];exact h.wr.blk b B hb,h.wr.gl,Nat.le_trans h.wr.gr hsz⟩,h.le,h.fz,h.nw,h.sz⟩
theorem Side.own (h:Side P FN N n0 βf β fs w FS W)(hN:N<=W.heap.size)(hf:FrsR P FN γ fs' FS')(hr:RunR FN β γ w W w' W'):Side P FN N n0 βf γ fs' w' FS' W':=by
 refine⟨hf,hr.wr,Ren.le_trans h.le hr.le,λb B hb hB=>?_,λb B hb=>?_,Nat.le_trans h.sz hr.grow⟩
 ·rcases hr.new_ b B hb with h1 | ⟨_,h1,_⟩
  ·exact((h.fz b B h1 hB).keep hr h1).2.2
  ·omega
 ·rcases hr.new_ b B hb with h1 | ⟨h1,h2,_⟩
  ·exact h.nw b B h1
  ·exact .inr ⟨Nat.le_trans h.sz h1,by omega⟩
theorem Side.keep (h:Side P FN N n0 βf β fs w FS W)(hr:RunR FN β γ w W w' W'){B:Nat}(hB:B<W.heap.size)(hn:Rng β B->B<N):W'.heap[B]? = W.heap[B]?:=by
 by_cases hx:Rng β B
 ·obtain⟨b,hb⟩:=hx;exact((h.fz b B hb (hn ⟨b,hb⟩)).keep hr hb).1
 ·exact hr.keep B hB λb hb=>hx ⟨b,hb⟩
theorem Side.grows (h:Side P FN N n0 βf β fs w FS W)(hr:RunR FN β γ w W w' W'):W.heap.size<=W'.heap.size:=by have:=hr.size;have:=hr.grow;omega
theorem Side.evs (h:Side P FN N n0 βf γ fs' w' FS' W'){e:Event}(he:EvR γ w' W' e):EvP N (TS N γ) e:=by
 refine⟨he.noWord,λx hx hm=>?_⟩;rcases he with⟨A,h1,h2,b,hb,⟨c,t,fr,hc⟩,hf⟩|⟨m,h1,h2⟩|⟨R,b,h1,h2,h3,hb,_⟩
 ·obtain⟨loc,wr,sy⟩:=e;simp only at h1 h2 hf;subst h1 h2;simp only[MemAct.ofEvent,MemAct.touch?,Option.some.injEq] at hx;subst hx;simp only[blk];rcases Nat.lt_or_ge A.block N with hlt|hge
  ·refine .inr ⟨?_,hlt⟩;cases wr with
   | false=>rfl
   | true=>
    exfalso;rcases h.fz b _ hb hlt with h4|⟨a,l,h4⟩
    ·exact hf rfl h4
    ·rcases h.wr.blk b _ hb with⟨c',C,t',fr',FR,e1,e2,_⟩ | ⟨a',A',l',e1,e2,_⟩
     ·rw[h4] at e1;cases e1
     ·rw[hc] at e2;cases e2
  ·exact .inl ⟨hge,b,hb⟩
 ·obtain⟨loc,wr,sy⟩:=e;simp only at h1;subst h1;exfalso;have e1:MemAct.ofEvent ⟨.mark m,wr,sy⟩=.mark m:=by cases wr<;>cases sy<;>rfl
  rw[e1] at hx;cases m<;>first | (exact h2.elim) | (simp[MemAct.touch?] at hx)
 ·obtain⟨loc,wr,sy⟩:=e;simp only at h1 h2 h3;subst h1 h2 h3;simp only[MemAct.ofEvent,MemAct.touch?,Option.some.injEq] at hx;subst hx;simp only[blk];rcases Nat.lt_or_ge R N with hlt|hge
  ·exact .inr ⟨by trivial,hlt⟩
  ·exact .inl ⟨hge,b,hb⟩
theorem Side.apart (h:Side P FN N n0 βf β fs w FS W)(hr:RunR FN β γ w W w' W'){β':Ren P.globals.size}(ho:∀B,Rng β' B->B<W.heap.size)(hd:∀B,Rng β B->Rng β' B->B<N):∀B,Rng γ B->Rng β' B->B<N:=by
 rintro B ⟨b,hb⟩ h';rcases hr.new_ b B hb with h1|⟨_,h1,_⟩
 ·exact hd B ⟨b,h1⟩ h'
 ·have:=ho B h';omega
theorem Side.rngLt (h:Side P FN N n0 βf β fs w FS W):∀B,Rng β B->B<W.heap.size:=λB ⟨b,hb⟩=>(h.wr.lt hb).2
end
end Go.Fw
end
section
/- The receiver's end of a fork: the sender has closed the channel. -/
namespace Go.Fw
open Go Go.Conc
open Go.ConcN (sumTo upd sumTo_upd upd_ne upd_same)
variable {P:Program} {FN:FuncId->Bool}
structure Lv (P:Program) (x:Nat) (t:Trace) (gs:Array Goroutine) (q:Nat->Nat):Prop where
 old:∀i g,0<i->i≠x->gs[i]? = some g->QuitsD P (q i) (Deaf t i) g
 above:∀j,gs.size<=j->Deaf t j=0
theorem leaver_go {gs:Array Goroutine}{W:World}{sl:Option (Nat × Nat)}{i k d0:Nat}{g:Goroutine}(hi:gs[i]? = some g)(hg:g.status=.running)(hi0:i≠0)(hq:QuitsD P k d0 g) :
  ∃k' g' es,k=k'+1/\(∀e∈es,Event.mute e=true)/\runT P (crowd gs W sl) i=(.next (crowd ((gs.map (woken P g g' W)).setIfInBounds i g') W sl),MemOp.ofEvents i g.frame.fn g.frame.place es)/\QuitsD P k' (deafBehind d0 es) g':=by
 have hi0':(i == 0)=false:=by simpa using hi0
 cases k with
 | zero=>rw[hq.1] at hg;cases hg
 | succ k=>
  rcases hq with⟨hf,_⟩|⟨_,g',es,hm,hstp,hq'⟩
  ·rw[hf] at hg;cases hg
  ·exact⟨k,g',es,rfl,hm,runT_crowd_go (P:=P) (sl:=sl) (i:=i) hi (by rw[hi0'];exact hstp W),hq'⟩
theorem Lv.leaver {x:Nat}{t:Trace}{gs:Array Goroutine}{q:Nat->Nat}(h:Lv P x t gs q){i k':Nat}{g g':Goroutine}{W:World}{es:Array Event}{fn:FuncId}{pos:String}(hi:gs[i]? = some g)(hq':QuitsD P k' (deafBehind (Deaf t i) es) g') :
  Lv P x (t++MemOp.ofEvents i fn pos es) ((gs.map (woken P g g' W)).setIfInBounds i g') (upd q i k'):=by
 have hlt:i<gs.size:=(Array.getElem?_eq_some_iff.1 hi).1;refine⟨λj y hj hx hy=>?_,λj hj=>?_⟩
 ·by_cases hji:i=j
  ·subst hji;rw[Array.getElem?_setIfInBounds_self_of_lt (by simpa using hlt)] at hy;obtain rfl:=Option.some.inj hy;rw[upd_same,Deaf_own];exact hq'
  ·rw[Array.getElem?_setIfInBounds_ne hji,Array.getElem?_map] at hy;obtain⟨z,hz,rfl⟩:=Option.map_eq_some_iff.1 hy;have hqj:=h.old j z hj hx hz;rw[woken_quitsD hqj,upd_ne q k' (Ne.symm hji),Deaf_other t hji _ (λop hop=>by obtain⟨e,_,rfl⟩:=Go.Conc.mem_ofEvents hop;rfl)];exact hqj
 ·rw[Deaf_other t (g':=i) (by simp at hj;omega) _ (λop hop=>by obtain⟨e,_,rfl⟩:=Go.Conc.mem_ofEvents hop;rfl)];exact h.above j (by simpa using hj)
theorem Lv.own {x:Nat}{t:Trace}{gs:Array Goroutine}{q:Nat->Nat}(h:Lv P x t gs q){i:Nat}{a a':Goroutine}{W':World}(hi:gs[i]? = some a)(hix:i=0\/i=x){u:Trace}(hu:∀op∈u,op.g=i) :
  Lv P x (t++u) ((gs.map (woken P a a' W')).setIfInBounds i a') q:=by
 have hlt:i<gs.size:=(Array.getElem?_eq_some_iff.1 hi).1;refine⟨λj y hj hx hy=>?_,λj hj=>?_⟩
 ·have hne:i≠j:=by rcases hix with rfl | rfl<;>omega
  rw[Array.getElem?_setIfInBounds_ne hne,Array.getElem?_map] at hy;obtain⟨z,hz,rfl⟩:=Option.map_eq_some_iff.1 hy;have hq:=h.old j z hj hx hz;rw[woken_quitsD hq,Deaf_other t hne _ hu];exact hq
 ·rw[Deaf_other t (g':=i) (by simp at hj;omega) _ hu];exact h.above j (by simpa using hj)
theorem Lv.quiet {x:Nat}{t u:Trace}{gs gs':Array Goroutine}{q:Nat->Nat}(h:Lv P x t gs q)(hs:gs'.size=gs.size)(he:∀j,0<j->j≠x->gs'[j]? = gs[j]?)(hu:∀op∈u,op.act≠.mark .disable/\op.act≠.mark .enable) :
  Lv P x (t++u) gs' q:=
 ⟨λj y hj hx hy=>by rw[he j hj hx] at hy;rw[Deaf_quiet t j u hu];exact h.old j y hj hx hy,λj hj=>by rw[Deaf_quiet t j u hu];exact h.above j (by omega)⟩
structure Fk (FN:FuncId->Bool) (N0:Nat) (W0:World) (Ch:List Nat) (c:Nat) (βf:Ren P.globals.size) (w0 Wf:World):Prop where
 wr:WR FN βf w0 Wf
 n0:N0<=c
 cN:c<Wf.heap.size
 old:∀B,B<N0->Wf.heap[B]? = W0.heap[B]?
 oldf:∀b B,βf.f b=some B->B<N0->Fz w0 b
 os:Wf.os=W0.os
 out:Wf.output=W0.output
 tp:Wf.tape=W0.tape
 ch:∀c'∈Ch,N0<=c'/\Wf.heap[c']? = some (.chan 0 #[] false 0 0 false)
 chd:(c :: Ch).Nodup
def Ends (P:Program)(Post:Value->World->Prop)(gs:Array Goroutine)(W:World)(sl:Option (Nat × Nat))(t:Trace):Prop:=
 ∃N last o w' t',runNT P (N+1) (crowd gs W sl) t=(.ended o w',t')/\runN P N (crowd gs W sl)=.next last/\step P last=.ended o w'/\Good P Post last o w' t'
structure Old (c N:Nat) (Wf W:World):Prop where
 old:∀B,B<N->B≠c->W.heap[B]? = Wf.heap[B]?
 sz:N<=W.heap.size
 os:W.os=Wf.os
 out:W.output=Wf.output
 tp:W.tape=Wf.tape
theorem Old.at_ {c N:Nat}{Wf W:World}(h:Old c N Wf W)(d:Nat):Old c N Wf (W.at d):=⟨h.old,h.sz,h.os,h.out,h.tp⟩
section
variable {N0:Nat} {W0:World} {Ch:List Nat} {c:Nat} {βf:Ren P.globals.size} {w0 Wf:World} {Post:Value->World->Prop} {K:List Frame->World->Prop}
theorem Fk.cfg (hF:Fk FN N0 W0 Ch c βf w0 Wf){β:Ren P.globals.size}{fs FS:List Frame}{w W:World}{gs:Array Goroutine}{t:Trace}{q:Nat->Nat}
  (hA:Side P FN Wf.heap.size w0.heap.size βf β fs w FS W) (hO:Old c Wf.heap.size Wf W) (hno:∀b,β.f b≠some c) (hg:gs[0]? = some (gorL FS)) (hL:Leavers P t gs q) (hP:PastT t):CfgR P FN N0 W0 Ch fs (thaw w0 w) β gs W t q:=by
 have hold:∀b B,βf.f b=some B->(thaw w0 w).heap[b]? = w0.heap[b]?/\W.heap[B]? = Wf.heap[B]?:=λb B hb=>by
  obtain⟨h1,h2⟩:=hF.wr.lt hb;exact⟨thaw_old h1,hO.old B h2 λe=>hno b (by rw[←e];exact hA.le _ _ hb)⟩
 have hN0:N0<=Wf.heap.size:=by have:=hF.n0;have:=hF.cN;omega
 refine⟨⟨FS,hg,hA.rel⟩,⟨λb B hb=>?_,?_,hA.wr.gr⟩,hL,hP,Nat.le_trans hN0 hO.sz,λB hB=>?_,λb B hb hB=>?_,hO.os.trans hF.os,hO.out.trans hF.out,hO.tp.trans hF.tp,λc' hc'=>?_,(List.nodup_cons.1 hF.chd).2⟩
 ·rcases hA.nw b B hb with h | ⟨h1,h2⟩
  ·obtain⟨e1,e2⟩:=hold b B h;rw[e1,e2];exact(hF.wr.blk b B h).mono hA.le
  ·rw[thaw_new h1];exact hA.wr.blk b B hb
 ·rw[thaw_size hA.sz];exact hA.wr.gl
 ·rw[hO.old B (by omega) (by have:=hF.n0;omega)];exact hF.old B hB
 ·rcases hA.nw b B hb with h | ⟨_,h2⟩
  ·obtain⟨e1,_⟩:=hold b B h;rcases hF.oldf b B h hB with⟨cc,tt,fr,g1,g2⟩|⟨a,l,g1⟩
   ·exact .inl ⟨cc,tt,fr,e1.trans g1,g2⟩
   ·exact .inr ⟨a,l,e1.trans g1⟩
  ·omega
 ·obtain⟨g1,g2⟩:=hF.ch c' hc';have hne:c'≠c:=λe=>(List.nodup_cons.1 hF.chd).1 (e ▸ hc')
  exact⟨g1,(hO.old c' (Array.getElem?_eq_some_iff.1 g2).1 hne).trans g2⟩
theorem stage2 (hF:Fk FN N0 W0 Ch c βf w0 Wf)(hK:∀fs' w',K fs' w'->CEnds P FN N0 W0 Post Ch fs' (thaw w0 w')){n:Nat}(hn:0<n){L:List Value}{fs:List Frame}{wa:World}(hA:Rcv P FN c K L fs wa)(hLn:L=[]) :
  ∀(β:Ren P.globals.size) (FS:List Frame) (T1:Nat->Prop) (gs:Array Goroutine) (W:World) (sl:Option (Nat × Nat)) (t:Trace) (q:Nat->Nat) (ga:Goroutine) (s r:Nat),gs[0]? = some ga->(ga=gorL FS\/∃cs sh,ga = { parked (gorL FS) cs sh with status:=.running })->Side P FN Wf.heap.size w0.heap.size βf β fs wa FS W->(∀B,T1 B->Wf.heap.size<=B/\B<W.heap.size)->(∀B,Rng β B->T1 B->False)->
   Old c Wf.heap.size Wf W->W.heap[c]? = some (.chan 0 #[] true s r false)->Lv P 0 t gs q->ClT Wf.heap.size n c T1 t->Ends P Post gs W sl t:=by
 have tsN:∀(β:Ren P.globals.size) B,TS Wf.heap.size β B->Wf.heap.size<=B:=λβ B h=>h.1
 have main:∀{L:List Value} {fs:List Frame} {wa:World},Rcv P FN c K L fs wa->L=[]->∀(M:Nat) (β:Ren P.globals.size) (FS:List Frame) (T1:Nat->Prop) (gs:Array Goroutine) (W:World) (sl:Option (Nat × Nat)) (t:Trace) (q:Nat->Nat) (ga:Goroutine) (s r:Nat),sumTo gs.size q=M->gs[0]? = some ga->(ga=gorL FS\/∃cs sh,ga = { parked (gorL FS) cs sh with status:=.running })->Side P FN Wf.heap.size w0.heap.size βf β fs wa FS W->(∀B,T1 B->Wf.heap.size<=B/\B<W.heap.size)->(∀B,Rng β B->T1 B->False)->
   Old c Wf.heap.size Wf W->W.heap[c]? = some (.chan 0 #[] true s r false)->Lv P 0 t gs q->ClT Wf.heap.size n c T1 t->Ends P Post gs W sl t:=by
  intro L fs wa hA hLn;have pick:∀{fs:List Frame} {wa:World},fs≠[]->(∀(β:Ren P.globals.size) (FS:List Frame) (T1:Nat->Prop) (gs:Array Goroutine) (W:World) (sl:Option (Nat × Nat)) (t:Trace) (q:Nat->Nat) (ga:Goroutine) (s r:Nat),gs[0]? = some ga->ga.status=.running->(∀W,stepG P true ga W=stepG P true (gorL FS) W)->ga.frame=(gorL FS).frame->Side P FN Wf.heap.size w0.heap.size βf β fs wa FS W->(∀B,T1 B->Wf.heap.size<=B/\B<W.heap.size)->(∀B,Rng β B->T1 B->False)->
    Old c Wf.heap.size Wf W->W.heap[c]? = some (.chan 0 #[] true s r false)->Lv P 0 t gs q->ClT Wf.heap.size n c T1 t->
     ∃gs' W' sl' ops,runT P (crowd gs W sl) 0=(.next (crowd gs' W' sl'),ops)/\Ends P Post gs' W' sl' (t++ops))->
    ∀(M:Nat) (β:Ren P.globals.size) (FS:List Frame) (T1:Nat->Prop) (gs:Array Goroutine) (W:World) (sl:Option (Nat × Nat)) (t:Trace) (q:Nat->Nat) (ga:Goroutine) (s r:Nat),sumTo gs.size q=M->gs[0]? = some ga->(ga=gorL FS\/∃cs sh,ga = { parked (gorL FS) cs sh with status:=.running })->Side P FN Wf.heap.size w0.heap.size βf β fs wa FS W->(∀B,T1 B->Wf.heap.size<=B/\B<W.heap.size)->(∀B,Rng β B->T1 B->False)->
     Old c Wf.heap.size Wf W->W.heap[c]? = some (.chan 0 #[] true s r false)->Lv P 0 t gs q->ClT Wf.heap.size n c T1 t->Ends P Post gs W sl t:=by
   intro fs wa hne own M;induction M using Nat.strongRecOn with
   | _ M ih=>
    intro β FS T1 gs W sl t q ga s r hM h0 hsit hS hT1 hdj hO hc hL hC;have hrun:(gorL FS).status=.running:=gorL_running (frs_ne hS.rel hne);have hgs:ga.status=.running:=by rcases hsit with rfl | ⟨cs,sh,rfl⟩<;>first | exact hrun | rfl
    have haw:∀g∈gs,awake g:=by
     intro g hg;obtain⟨i,hi,rfl⟩:=Array.mem_iff_getElem.1 hg;rcases Nat.eq_zero_or_pos i with rfl|hpos
     ·have:gs[0]=ga:=by simpa[Array.getElem?_eq_getElem hi] using h0
      rw[this];exact awake_of (.inl hgs)
     ·exact awake_of ((hL.old i _ hpos (by omega) (Array.getElem?_eq_getElem hi)).status.elim .inl λx=>.inr (.inr x))
    obtain⟨i,g,d,sl',hi,hg,hst⟩:=crowd_pick (P:=P) (w:=W) (sl:=sl) haw ⟨0,ga,h0,hgs⟩;have hS':Side P FN Wf.heap.size w0.heap.size βf β fs wa FS (W.at d):=hS.other (Nat.le_refl _) λ_ _=>rfl
    rcases Nat.eq_zero_or_pos i with rfl|hpos
    ·have hsame:∀W,stepG P true ga W=stepG P true (gorL FS) W:=λW=>by
      rcases hsit with rfl|⟨cs,sh,rfl⟩
      ·rfl
      ·exact stepG_same rfl rfl rfl W
     have hfr:ga.frame=(gorL FS).frame:=by rcases hsit with rfl | ⟨cs,sh,rfl⟩<;>rfl
     obtain⟨gs',W',sl2,ops,h1,h2⟩:=own β FS T1 gs (W.at d) sl' t q ga s r h0 hgs hsame hfr hS' hT1 hdj (hO.at_ d) hc hL hC;exact run_more (hst.trans h1) h2
    ·obtain⟨k',g',es,hk,hm,hrT,hq'⟩:=leaver_go (W:=W.at d) (sl:=sl') hi hg (by omega) (hL.old i g hpos (by omega) hi);have hlt:i<gs.size:=(Array.getElem?_eq_some_iff.1 hi).1;have hsz:((gs.map (woken P g g' (W.at d))).setIfInBounds i g').size=gs.size:=by simp
     have hsum:sumTo gs.size (upd q i k')+(k'+1)=sumTo gs.size q+k':=by
      have:=sumTo_upd q k' id hlt;simpa[hk] using this
     refine run_more (hst.trans hrT) (ih (sumTo gs.size (upd q i k')) (by omega) β FS T1 _ (W.at d) sl' _ (upd q i k') ga s r (by rw[hsz]) ?_ hsit hS' hT1 hdj (hO.at_ d) hc (hL.leaver hi hq') ?_)
     ·rw[Array.getElem?_setIfInBounds_ne (by omega),Array.getElem?_map,h0];simp[woken_run hgs]
     ·exact hC.app (hC.ph.mute (by omega) hm) λop hop=>.inr (by obtain⟨e,h1,rfl⟩:=Go.Conc.mem_ofEvents hop;exact touch_mute (hm e h1))
  induction hA with
  | step F G hne hneF hs hnx ih=>
   rename_i L fs w;refine pick hne λβ FS T1 gs W sl t q ga s r h0 hgs hsame hfr hS hT1 hdj hO hc hL hC=>?_
   obtain⟨γ,FS',W',ES,g1,g2,g3,g4⟩:=hs (tapeFor w W) β FS W hS.rel (hS.wr.tpd _) (tp_tapeFor w W);have hgo:stepG P (0 == 0) ga W=.go (gorL FS') W' ES:=(hsame W).trans (g3 true);have hlt0:0<gs.size:=(Array.getElem?_eq_some_iff.1 h0).1;have hSt:Side P FN Wf.heap.size w0.heap.size βf β fs (tpd w (tapeFor w W)) FS W:=⟨hS.rel,hS.wr.tpd _,hS.le,hS.fz,hS.nw,hS.sz⟩;have hS':=hSt.own hO.sz g1 g2;have hgr:=hSt.grows g2;have hap:∀B,Rng γ B->T1 B->False:=by
    rintro B ⟨b,hb⟩ hT;rcases g2.new_ b B hb with h1|⟨_,h1,_⟩
    ·exact hdj B ⟨b,h1⟩ hT
    ·have:=(hT1 B hT).2;omega
   have hkp:∀B,B<W.heap.size->(Rng β B->B<Wf.heap.size)->W'.heap[B]? = W.heap[B]?:=λB h1 h2=>hSt.keep g2 h1 h2
   have hcl:c<W.heap.size:=(Array.getElem?_eq_some_iff.1 hc).1;refine⟨_,_,_,_,runT_crowd_go (P:=P) (sl:=sl) (i:=0) h0 hgo,ih (tapeFor w W) hLn _ γ FS' T1 _ W' sl _ q (gorL FS') s r rfl (by simp[hlt0]) (.inl rfl) hS' (λB hB=>⟨(hT1 B hB).1,by have:=(hT1 B hB).2;omega⟩) hap
    ⟨λB hB hne=>(hkp B (by have:=hO.sz;omega) λ_=>hB).trans (hO.old B hB hne),by have:=hO.sz;omega,g2.os.trans hO.os,g2.out.trans hO.out,g2.tape.trans hO.tp⟩ ?_ (hL.own h0 (.inl rfl) λop hop=>by obtain⟨e,_,rfl⟩:=Go.Conc.mem_ofEvents hop;rfl) ?_⟩
   ·exact(hkp c hcl λ⟨b,hb⟩=>absurd hb (chan_notin hS.wr hc b)).trans hc
   ·exact hC.app (hC.ph.own0 (T0:=TS Wf.heap.size γ) (tsN γ) (λB hB=>(hT1 B hB).1) (λB h1 h2=>hap B h1.2 h2) λe he=>hS'.evs (g4 e he)) λop hop=>by
     obtain⟨e,_,rfl⟩:=Go.Conc.mem_ofEvents hop;exact .inl (by show (0:Nat)≠n;omega)
  | recv hne h hnx ih=>cases hLn
  | shut hne h hk=>
   rename_i fs w z nx;refine pick hne λβ FS T1 gs W sl t q ga s r h0 hgs hsame hfr hS hT1 hdj hO hc hL hC=>?_
   obtain⟨Z,hZ,hst,hnxt⟩:=h β FS hS.rel;obtain⟨FS',g1,g2,g3⟩:=hnxt z Z false hZ;have hcm:stepG P (0 == 0) ga W=.comm (gorL FS) #[rcase c Z] true (.recv true) W #[]:=(hsame W).trans (hst true W);have hlt0:0<gs.size:=(Array.getElem?_eq_some_iff.1 h0).1;have hpn:partners (gs.setIfInBounds 0 ph) c true=[]:=partners_nil λj g hg=>by
    rcases getElem?_stand gs 0 j g hg with⟨_,rfl⟩|⟨hj,hg⟩
    ·rfl
    ·exact offersAt_of_not_blocked (by rcases(hL.old j g (by omega) hj hg).status with h | h<;>rw[h]<;>simp) c true
   have hrT:=crowd_recv_closed (sl:=sl) h0 hcm hc hpn;have hes:MemOp.ofEvents 0 ga.frame.fn ga.frame.place #[]=#[]:=by simp[MemOp.ofEvents]
   rw[finishComm_recv,g3,hes,Array.empty_append] at hrT;obtain⟨tp,hkk⟩:=hk;refine⟨_,_,_,_,hrT,?_⟩;have hC':=hC.shut (fn:=(gorL FS).frame.fn) (pos:=(gorL FS).frame.place);have hS':Side P FN Wf.heap.size w0.heap.size βf β (nx z false) w FS' W:=⟨g1,hS.wr,hS.le,hS.fz,hS.nw,hS.sz⟩;have hE:CEnds P FN N0 W0 Post Ch (nx z false) (thaw w0 w):=cEnds_clo.tp _ _ tp (hK _ _ hkk);refine hE β _ W sl _ q (hF.cfg hS' hO (λb hb=>chan_notin hS.wr hc b hb) (by simp[hlt0]) ⟨λj g hj hg=>?_,λj hj=>?_⟩ hC')
   ·rw[Array.getElem?_setIfInBounds_ne (by omega)] at hg;rw[Deaf_quiet t j _ (by simp)];exact hL.old j g hj (by omega) hg
   ·rw[Deaf_quiet t j _ (by simp)];exact hL.above j (by simpa using hj)
  | vac h=>exact λM β FS T1 gs W sl t q ga s r _ _ _ hS _ _ _ _ _ _=>(h β FS W hS.rel hS.wr).elim
 exact λβ FS T1 gs W sl t q ga s r=>main hA hLn _ β FS T1 gs W sl t q ga s r rfl
end
end Go.Fw
end
section
/- A fork: receiver and sender at work, on whatever schedule. -/
namespace Go.Fw
open Go Go.Conc
open Go.ConcN (sumTo upd sumTo_upd upd_ne upd_same)
variable {P:Program} {FN:FuncId->Bool}
inductive SitA (P:Program) (c:Nat) (FS:List Frame):Nat->Goroutine->Prop
 | run:SitA P c FS 1 (gorL FS)
 | park (Z:Value) (h:∀m W,stepG P m (gorL FS) W=.comm (gorL FS) #[rcase c Z] true (.recv true) W #[]):SitA P c FS 0 (parked (gorL FS) #[rcase c Z] (.recv true))
inductive SitB (P:Program) (c:Nat) (FS:List Frame):Nat->Goroutine->Prop
 | unborn {g:Goroutine} (hg:g.status=.running) (h:∀W,stepG P false g W=.go (gorL FS) W #[]):SitB P c FS 2 g
 | run:SitB P c FS 1 (gorL FS)
 | park (V Z:Value) (h:∀m W,stepG P m (gorL FS) W=.comm (gorL FS) #[scase c V Z] true .send W #[]):SitB P c FS 0 (parked (gorL FS) #[scase c V Z] .send)
section
variable {N0:Nat} {W0:World} {Ch:List Nat} {c:Nat} {βf:Ren P.globals.size} {w0 Wf:World} {Post:Value->World->Prop} {K:List Frame->World->Prop} {n:Nat}
structure Ph1 (P:Program) (FN:FuncId->Bool) (c n:Nat) (βf:Ren P.globals.size) (w0 Wf:World) (β0:Ren P.globals.size) (fa:List Frame) (wa:World) (FA:List Frame) (β1:Ren P.globals.size) (fb:List Frame) (wb:World) (FB:List Frame)
  (gs:Array Goroutine) (W:World) (t:Trace) (q:Nat->Nat) (ga gb:Goroutine):Prop where
 ga:gs[0]? = some ga
 gb:gs[n]? = some gb
 A:Side P FN Wf.heap.size w0.heap.size βf β0 fa wa FA W
 B:Side P FN Wf.heap.size w0.heap.size βf β1 fb wb FB W
 dj:∀B,Rng β0 B->Rng β1 B->B<Wf.heap.size
 old:Old c Wf.heap.size Wf W
 ch:∃s,W.heap[c]? = some (.chan 0 #[] false s s false)
 lv:Lv P n t gs q
 tr:PhT Wf.heap.size n (TS Wf.heap.size β0) (TS Wf.heap.size β1) t
variable {β0 β1 γ:Ren P.globals.size} {fa fb fa' fb' FA FB FA' FB':List Frame} {wa wb wa' wb' W W':World} {gs:Array Goroutine} {t:Trace} {q:Nat->Nat} {ga gb:Goroutine}
theorem Ph1.at_ (h:Ph1 P FN c n βf w0 Wf β0 fa wa FA β1 fb wb FB gs W t q ga gb)(d:Nat):Ph1 P FN c n βf w0 Wf β0 fa wa FA β1 fb wb FB gs (W.at d) t q ga gb:=
 ⟨h.ga,h.gb,h.A.other (Nat.le_refl _) λ_ _=>rfl,h.B.other (Nat.le_refl _) λ_ _=>rfl,h.dj,h.old.at_ d,h.ch,h.lv,h.tr⟩
theorem woken_sitA {k:Nat}{g g':Goroutine}(hs:SitA P c FA k ga)(hne:FA≠[]){s:Nat}(hc:W'.heap[c]? = some (.chan 0 #[] false s s false)):woken P g g' W' ga=ga:=by
 cases hs with
 | run=>exact woken_run (gorL_running hne)
 | park Z h=>exact woken_recv_open _ _ hc
theorem woken_sitB {k:Nat}{g g':Goroutine}(hs:SitB P c FB k gb)(hne:FB≠[]){s:Nat}(hc:W'.heap[c]? = some (.chan 0 #[] false s s false)):woken P g g' W' gb=gb:=by
 cases hs with
 | unborn hg h=>exact woken_run hg
 | run=>exact woken_run (gorL_running hne)
 | park V Z h=>exact woken_send_open _ _ hc
theorem Ph1.ownA (hn:0<n)(h:Ph1 P FN c n βf w0 Wf β0 fa wa FA β1 fb wb FB gs W t q (gorL FA) gb){k:Nat}(hs:SitB P c FB k gb)(hneB:FB≠[])(hf:FrsR P FN γ fa' FA')(hr:RunR FN β0 γ wa W wa' W'){ES:Array Event}(he:∀e∈ES,EvR γ wa' W' e) :
  Ph1 P FN c n βf w0 Wf γ fa' wa' FA' β1 fb wb FB ((gs.map (woken P (gorL FA) (gorL FA') W')).setIfInBounds 0 (gorL FA')) W' (t++MemOp.ofEvents 0 (gorL FA).frame.fn (gorL FA).frame.place ES) q (gorL FA') gb:=by
 have hlt0:0<gs.size:=(Array.getElem?_eq_some_iff.1 h.ga).1;have hA':=h.A.own h.old.sz hf hr;have hgr:=h.A.grows hr;have hkp:∀B,B<W.heap.size->(Rng β0 B->B<Wf.heap.size)->W'.heap[B]? = W.heap[B]?:=λB h1 h2=>h.A.keep hr h1 h2
 obtain⟨s,hc⟩:=h.ch;have hcl:c<W.heap.size:=(Array.getElem?_eq_some_iff.1 hc).1;have hc':W'.heap[c]? = some (.chan 0 #[] false s s false):=(hkp c hcl λ⟨b,hb⟩=>absurd hb (chan_notin h.A.wr hc b)).trans hc;have hap:=h.A.apart hr h.B.rngLt h.dj;refine⟨by simp[hlt0],?_,hA',h.B.other hgr λB hB=>hkp B (h.B.rngLt B hB) λh1=>h.dj B h1 hB,hap,⟨λB hB hne=>(hkp B (by have:=h.old.sz;omega) λ_=>hB).trans (h.old.old B hB hne),by have:=h.old.sz;omega,hr.os.trans h.old.os,hr.out.trans h.old.out,hr.tape.trans h.old.tp⟩,⟨s,hc'⟩,h.lv.own h.ga (.inl rfl) λop hop=>by obtain⟨e,_,rfl⟩:=Go.Conc.mem_ofEvents hop;rfl,h.tr.own0 (T0':=TS Wf.heap.size γ) (λB ⟨h1,b,hb⟩=>⟨h1,b,hr.le _ _ hb⟩) (λB h1=>h1.1) (λB h1=>h1.1) (λB h1 h2=>by have:=hap B h1.2 h2.2;have:=h1.1;omega) λe h1=>hA'.evs (he e h1)⟩
 rw[Array.getElem?_setIfInBounds_ne (by omega),Array.getElem?_map,h.gb];simp[woken_sitB hs hneB hc']
theorem Ph1.ownB (hn:0<n)(h:Ph1 P FN c n βf w0 Wf β0 fa wa FA β1 fb wb FB gs W t q ga (gorL FB)){k:Nat}(hs:SitA P c FA k ga)(hneA:FA≠[])(hf:FrsR P FN γ fb' FB')(hr:RunR FN β1 γ wb W wb' W'){ES:Array Event}(he:∀e∈ES,EvR γ wb' W' e) :
  Ph1 P FN c n βf w0 Wf β0 fa wa FA γ fb' wb' FB' ((gs.map (woken P (gorL FB) (gorL FB') W')).setIfInBounds n (gorL FB')) W' (t++MemOp.ofEvents n (gorL FB).frame.fn (gorL FB).frame.place ES) q ga (gorL FB'):=by
 have hltn:n<gs.size:=(Array.getElem?_eq_some_iff.1 h.gb).1;have hB':=h.B.own h.old.sz hf hr;have hgr:=h.B.grows hr;have hkp:∀B,B<W.heap.size->(Rng β1 B->B<Wf.heap.size)->W'.heap[B]? = W.heap[B]?:=λB h1 h2=>h.B.keep hr h1 h2
 obtain⟨s,hc⟩:=h.ch;have hcl:c<W.heap.size:=(Array.getElem?_eq_some_iff.1 hc).1;have hc':W'.heap[c]? = some (.chan 0 #[] false s s false):=(hkp c hcl λ⟨b,hb⟩=>absurd hb (chan_notin h.B.wr hc b)).trans hc;have hap:=h.B.apart hr h.A.rngLt λB h1 h2=>h.dj B h2 h1
 refine⟨?_,by simp[hltn],h.A.other hgr λB hB=>hkp B (h.A.rngLt B hB) λh1=>h.dj B hB h1,hB',λB h1 h2=>hap B h2 h1,⟨λB hB hne=>(hkp B (by have:=h.old.sz;omega) λ_=>hB).trans (h.old.old B hB hne),by have:=h.old.sz;omega,hr.os.trans h.old.os,hr.out.trans h.old.out,hr.tape.trans h.old.tp⟩,⟨s,hc'⟩,h.lv.own h.gb (.inr rfl) λop hop=>by obtain⟨e,_,rfl⟩:=Go.Conc.mem_ofEvents hop;rfl,h.tr.own1 (T1':=TS Wf.heap.size γ) (λB ⟨h1,b,hb⟩=>⟨h1,b,hr.le _ _ hb⟩) (λB h1=>h1.1) (λB h1=>h1.1) (λB h1 h2=>by have:=hap B h2.2 h1.2;have:=h1.1;omega) λe h1=>hB'.evs (he e h1)⟩
 rw[Array.getElem?_setIfInBounds_ne (by omega),Array.getElem?_map,h.ga];simp[woken_sitA hs hneA hc']
theorem Ph1.comm (hn:0<n)(h:Ph1 P FN c n βf w0 Wf β0 fa wa FA β1 fb wb FB gs W t q ga gb)(hcF:c<Wf.heap.size){gs':Array Goroutine}{ga' gb':Goroutine}{u:Trace}{s:Nat}(hA:FrsR P FN β0 fa' FA')(hB:FrsR P FN β1 fb' FB')(hsz:gs'.size=gs.size)
  (h0:gs'[0]? = some ga') (h1:gs'[n]? = some gb') (he:∀j,0<j->j≠n->gs'[j]? = gs[j]?) (hu:∀op∈u,op.act.touch? = none/\op.act≠.mark .disable/\op.act≠.mark .enable) :
  Ph1 P FN c n βf w0 Wf β0 fa' wa FA' β1 fb' wb FB' gs' (W.setChan c 0 #[] false s s false) (t++u) q ga' gb':=by
 obtain⟨s0,hc⟩:=h.ch;have hne:∀B,B≠c->(W.setChan c 0 #[] false s s false).heap[B]? = W.heap[B]?:=λB hB=>heap_setChan_ne W 0 #[] false s s false (Ne.symm hB)
 have hsW:(W.setChan c 0 #[] false s s false).heap.size=W.heap.size:=by simp[World.setChan]
 have oA:=h.A.other (W':=W.setChan c 0 #[] false s s false) (by rw[hsW];exact Nat.le_refl _) λB ⟨b,hb⟩=>hne B λe=>chan_notin h.A.wr hc b (by rw[←e];exact hb)
 have oB:=h.B.other (W':=W.setChan c 0 #[] false s s false) (by rw[hsW];exact Nat.le_refl _) λB ⟨b,hb⟩=>hne B λe=>chan_notin h.B.wr hc b (by rw[←e];exact hb)
 exact⟨h0,h1,⟨hA,oA.wr,oA.le,oA.fz,oA.nw,oA.sz⟩,⟨hB,oB.wr,oB.le,oB.fz,oB.nw,oB.sz⟩,h.dj,⟨λB hB hBc=>(hne B hBc).trans (h.old.old B hB hBc),by rw[hsW];exact h.old.sz,h.old.os,h.old.out,h.old.tp⟩,⟨s,heap_setChan_self W hc ..⟩,h.lv.quiet hsz he λop ho=>(hu op ho).2,h.tr.quiet hu⟩
theorem Ph1.park (hn:0<n)(h:Ph1 P FN c n βf w0 Wf β0 fa wa FA β1 fb wb FB gs W t q ga gb){gs':Array Goroutine}{ga' gb':Goroutine}{u:Trace}(hsz:gs'.size=gs.size)
  (h0:gs'[0]? = some ga') (h1:gs'[n]? = some gb') (he:∀j,0<j->j≠n->gs'[j]? = gs[j]?) (hu:∀op∈u,op.act.touch? = none/\op.act≠.mark .disable/\op.act≠.mark .enable) :
  Ph1 P FN c n βf w0 Wf β0 fa wa FA β1 fb wb FB gs' W (t++u) q ga' gb':=
 ⟨h0,h1,h.A,h.B,h.dj,h.old,h.ch,h.lv.quiet hsz he λop ho=>(hu op ho).2,h.tr.quiet hu⟩
theorem Ph1.pick (hn:0<n)(h:Ph1 P FN c n βf w0 Wf β0 fa wa FA β1 fb wb FB gs W t q ga gb){ka kb:Nat}(sa:SitA P c FA ka ga)(sb:SitB P c FB kb gb)(hneA:FA≠[])(hneB:FB≠[])(hk:0<ka+kb)(sl:Option (Nat × Nat)) :
  ∃d sl',(ka=1/\stepT P (crowd gs W sl)=runT P (crowd gs (W.at d) sl') 0)\/(0<kb/\stepT P (crowd gs W sl)=runT P (crowd gs (W.at d) sl') n)\/
   ∃gs' ops q',stepT P (crowd gs W sl)=(.next (crowd gs' (W.at d) sl'),ops)/\Ph1 P FN c n βf w0 Wf β0 fa wa FA β1 fb wb FB gs' (W.at d) (t++ops) q' ga gb/\gs'.size=gs.size/\sumTo gs'.size q'<sumTo gs.size q:=by
 have aA:awake ga:=by cases sa with
  | run=>exact awake_of (.inl (gorL_running hneA))
  | park Z h=>exact awake_of (.inr (.inl rfl))
 have aB:awake gb:=by cases sb with
  | unborn hg h=>exact awake_of (.inl hg)
  | run=>exact awake_of (.inl (gorL_running hneB))
  | park V Z h=>exact awake_of (.inr (.inl rfl))
 have haw:∀g∈gs,awake g:=by
  intro g hg;obtain⟨i,hi,rfl⟩:=Array.mem_iff_getElem.1 hg;by_cases h0:i=0
  ·subst h0;have:gs[0]=ga:=by simpa[Array.getElem?_eq_getElem hi] using h.ga
   rw[this];exact aA
  ·by_cases h1:i=n
   ·subst h1;have:gs[i]=gb:=by simpa[Array.getElem?_eq_getElem hi] using h.gb
    rw[this];exact aB
   ·exact awake_of ((h.lv.old i _ (by omega) h1 (Array.getElem?_eq_getElem hi)).status.elim .inl λx=>.inr (.inr x))
 have hsome:∃(i:Nat) (g:Goroutine),gs[i]? = some g/\g.status=.running:=by
  cases sa with
  | run=>exact⟨0,_,h.ga,gorL_running hneA⟩
  | park Z hz=>
   cases sb with
   | unborn hg _=>exact⟨n,_,h.gb,hg⟩
   | run=>exact⟨n,_,h.gb,gorL_running hneB⟩
   | park V Z h=>simp at hk
 obtain⟨i,g,d,sl',hi,hg,hst⟩:=crowd_pick (P:=P) (w:=W) (sl:=sl) haw hsome;refine⟨d,sl',?_⟩;by_cases h0:i=0
 ·subst h0;rw[h.ga] at hi;cases hi;refine .inl ⟨?_,hst⟩;cases sa with
  | run=>rfl
  | park Z h=>cases hg
 ·by_cases h1:i=n
  ·subst h1;rw[h.gb] at hi;cases hi;refine .inr (.inl ⟨?_,hst⟩);cases sb with
   | unborn _ _=>omega
   | run=>omega
   | park V Z h=>cases hg
  ·obtain⟨k',g',es,hk',hm,hrT,hq'⟩:=leaver_go (W:=W.at d) (sl:=sl') hi hg h0 (h.lv.old i g (by omega) h1 hi);have hlt:i<gs.size:=(Array.getElem?_eq_some_iff.1 hi).1;have hsz:((gs.map (woken P g g' (W.at d))).setIfInBounds i g').size=gs.size:=by simp
   have hsum:sumTo gs.size (upd q i k')+(k'+1)=sumTo gs.size q+k':=by
    have:=sumTo_upd q k' id hlt;simpa[hk'] using this
   obtain⟨s,hc⟩:=h.ch;have hd:=h.at_ d;refine .inr (.inr ⟨_,_,upd q i k',hst.trans hrT,⟨?_,?_,hd.A,hd.B,h.dj,hd.old,hd.ch,h.lv.leaver hi hq',h.tr.mute h0 h1 hm⟩,hsz,by rw[hsz];omega⟩)
   ·rw[Array.getElem?_setIfInBounds_ne (by omega),Array.getElem?_map,h.ga];simp[woken_sitA sa hneA (show (W.at d).heap[c]? = _ from hc)]
   ·rw[Array.getElem?_setIfInBounds_ne (by omega),Array.getElem?_map,h.gb];simp[woken_sitB sb hneB (show (W.at d).heap[c]? = _ from hc)]
theorem Ph1.noPartner0 (h:Ph1 P FN c n βf w0 Wf β0 fa wa FA β1 fb wb FB gs W t q ga gb)(hneB:FB≠[]){kb:Nat}(sb:SitB P c FB kb gb)(hkb:0<kb)(r:Nat)(b:Bool):partners (gs.setIfInBounds 0 ph) r b=[]:=
 partners_nil λj g hg=>by
  rcases getElem?_stand gs 0 j g hg with⟨_,rfl⟩|⟨hj,hg⟩
  ·rfl
  ·by_cases hjn:j=n
   ·subst hjn;rw[h.gb] at hg;cases hg;exact offersAt_of_not_blocked (by
     cases sb with
     | unborn hg _=>rw[hg];simp
     | run=>rw[gorL_running hneB];simp
     | park V Z h=>simp at hkb) r b
   ·exact offersAt_of_not_blocked (by rcases(h.lv.old j g (by omega) hjn hg).status with h | h<;>rw[h]<;>simp) r b
theorem Ph1.noPartnerN (hn:0<n)(h:Ph1 P FN c n βf w0 Wf β0 fa wa FA β1 fb wb FB gs W t q (gorL FA) gb)(hneA:FA≠[])(r:Nat)(b:Bool):partners (gs.setIfInBounds n ph) r b=[]:=
 partners_nil λj g hg=>by
  rcases getElem?_stand gs n j g hg with⟨_,rfl⟩|⟨hj,hg⟩
  ·rfl
  ·by_cases hj0:j=0
   ·subst hj0;rw[h.ga] at hg;cases hg;exact offersAt_of_not_blocked (by rw[gorL_running hneA];simp) r b
   ·exact offersAt_of_not_blocked (by rcases(h.lv.old j g (by omega) hj hg).status with h | h<;>rw[h]<;>simp) r b
theorem Ph1.partner0 {V Z:Value}(hn:0<n)(h:Ph1 P FN c n βf w0 Wf β0 fa wa FA β1 fb wb FB gs W t q ga (parked (gorL FB) #[scase c V Z] .send)):partners (gs.setIfInBounds 0 ph) c true=[(n,0)]:=by
 have:=partners_one (r:=c) (send:=true) (stand_get (i:=0) (show n≠0 by omega) h.gb) λk x hk hx=>by
  rcases getElem?_stand gs 0 k x hx with⟨_,rfl⟩|⟨hj,hg⟩
  ·rfl
  ·exact offersAt_of_not_blocked (by rcases(h.lv.old k x (by omega) hk hg).status with h | h<;>rw[h]<;>simp) c true
 rw[this,offersAt_parked_send];simp
theorem Ph1.partnerN {Z:Value}(hn:0<n)(h:Ph1 P FN c n βf w0 Wf β0 fa wa FA β1 fb wb FB gs W t q (parked (gorL FA) #[rcase c Z] (.recv true)) gb):partners (gs.setIfInBounds n ph) c false=[(0,0)]:=by
 have:=partners_one (r:=c) (send:=false) (stand_get (i:=n) (show 0≠n by omega) h.ga) λk x hk hx=>by
  rcases getElem?_stand gs n k x hx with⟨_,rfl⟩|⟨hj,hg⟩
  ·rfl
  ·exact offersAt_of_not_blocked (by rcases(h.lv.old k x (by omega) hj hg).status with h | h<;>rw[h]<;>simp) c false
 rw[this,offersAt_parked_recv];simp
end
end Go.Fw
end
