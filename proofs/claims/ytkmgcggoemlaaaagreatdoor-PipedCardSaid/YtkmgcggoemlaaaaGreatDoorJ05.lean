/-
  Part 5 of the common ground of this seat: what single parts show stands ahead of each.
  No condition.
-/
import Derived.Test.YtkmgcggoemlaaaaGreatDoorJ04
import Derived.Conc.Beside
set_option linter.unusedSimpArgs false
set_option linter.unusedVariables false
set_option linter.constructorNameAsVariable false
section
/- From 'for every tape the lone run comes to a stop' to a tree of single steps, each for every tape. -/
namespace Go.Fw
open Go Go.Conc
variable {P:Program} {FN:FuncId->Bool}
theorem lone_inj {fr fr':Frame}{cs cs':List Frame}{w w':World}(h:lone fr cs w=lone fr' cs' w'):fr=fr'/\cs=cs'/\w=w':=by
 simp only[lone,Machine.mk.injEq,Array.mk.injEq,List.cons.injEq,Goroutine.mk.injEq,and_true] at h;exact⟨h.2.1,h.2.2,h.1⟩
theorem suf_inj {s:List Item}{a b:Frame}(h:suf s a=suf s b):a=b:=by
 cases a;cases b;simp only[suf,Frame.mk.injEq,List.append_cancel_right_eq] at h ⊢;exact h
theorem loneL_one {b:Bool}{fs:List Frame}{fr':Frame}{w w':World}(h:fs≠[])(e:loneL (stk (s0 b) [c0] fs) w=lone fr' [c0] w'):∃fr,fs=[fr]/\suf (s0 b) fr=fr'/\w=w':=by
 match fs with
 | []=>exact absurd rfl h
 | [a]=>
  obtain⟨h1,_,h3⟩:=lone_inj e;exact⟨a,rfl,h1,h3⟩
 | a :: d :: l=>
  obtain⟨_,h2,_⟩:=lone_inj e;have:(stk (s0 b) [c0] (d :: l)).length=([c0]:List Frame).length:=by rw[h2]
  have hl:∀m:List Frame,(stk (s0 b) [c0] m).length=m.length+1:=λm=>by
   induction m with
   | nil=>rfl
   | cons x m ih=>simp[stk,ih]
  rw[hl] at this;simp at this
inductive Tree (b:Bool) (P:Program) (FN:FuncId->Bool) (S:List Frame->World->Prop):List Frame->World->Prop
 | stop {fs:List Frame} {w:World} (h:S fs w):Tree b P FN S fs w
 | step {fs:List Frame} {w:World} (F:Tape->List Frame) (K:Tape->World) (hs:∀tp,Nxt b P FN fs (tpd w tp) (F tp) (K tp))
   (hr:∀tp β FS W,FrsR P FN β fs FS->WR FN β (tpd w tp) W->Tp (tpd w tp) W->SimR b P FN β fs (tpd w tp) (F tp) (K tp) FS W)
   (hn:∀tp,Tree b P FN S (F tp) (K tp)):Tree b P FN S fs w
theorem Nxt.det {b:Bool}{fs f1 f2:List Frame}{w w1 w2:World}(h1:Nxt b P FN fs w f1 w1)(h2:Nxt b P FN fs w f2 w2):f1=f2/\w1=w2:=by
 obtain⟨e1,s1⟩:=h1.step;obtain⟨e2,s2⟩:=h2.step;have a1:=s1 true w.tape [] [] (.inr rfl) (λp _ _ q=>rfl);have a2:=s2 true w.tape [] [] (.inr rfl) (λp _ _ q=>rfl);rw[a1] at a2;simp only[stk_nil,GStep.go.injEq] at a2;obtain⟨hg,hw,_⟩:=a2;have t1:tpd w1 w.tape=w1:=by rw[←h1.tape];rfl
 have t2:tpd w2 w.tape=w2:=by rw[←h2.tape];rfl
 rw[t1,t2] at hw;refine⟨?_,hw⟩;cases f1 with
 | nil=>exact absurd rfl h1.ne
 | cons a l=>
  cases f2 with
  | nil=>exact absurd rfl h2.ne
  | cons c m=>
   simp only[gorL,gor,Goroutine.mk.injEq] at hg;rw[hg.1,hg.2.1]
theorem red_step' (b:Bool)(hL:Lst P FN){fs:List Frame}{w:World}(hrel:∃(β:Ren P.globals.size) (FS:List Frame) (W:World),FrsR P FN β fs FS/\WR FN β w W)(hne:fs≠[])(hok:OkStk P FN fs)(hns:¬IsStop b fs) :
  (∃fs' w',Nxt b P FN fs w fs' w'/\(∀β FS W,FrsR P FN β fs FS->WR FN β w W->Tp w W->SimR b P FN β fs w fs' w' FS W)/\∃(γ:Ren P.globals.size) (FS':List Frame) (W':World),FrsR P FN γ fs' FS'/\WR FN γ w' W')\/
   ∀m,Bad P (stk (s0 b) [c0] fs.tail) (stepG P m (gorL (stk (s0 b) [c0] fs)) w):=by
 obtain⟨β,FS,W,hf,hw⟩:=hrel;rcases red_step b hL hf hne hok hns (hw.heap (w':=w) (W':=tpd W (tapeFor W w)) rfl rfl) with⟨fs',w',hn,hsim⟩ | hbad
 ·obtain⟨γ,FS',W',ES,g1,g2,_⟩:=hsim (tp_back w W);refine .inl ⟨fs',w',hn,λβ2 FS2 W2 hf2 hw2 ht2=>?_,γ,FS',W',g1,g2.wr⟩;rcases red_step b hL hf2 hne hok hns hw2 with⟨fs2,w2,hn2,hsim2⟩|hbad2
  ·obtain⟨rfl,rfl⟩:=hn.det hn2;exact hsim2 ht2
  ·exfalso;obtain⟨es,hs⟩:=hn.step;have e:=hs true w.tape (s0 b) [c0] (al_s0 b) (λp _ _ q=>rfl);rw[tpd_self] at e;have hb2:=hbad2 true;rw[e] at hb2;rcases hb2 with hb2|⟨fr1,ch,w1,es1,h1,h2,h3⟩
   ·exact hb2
   ·cases hfs':fs' with
    | nil=>exact hn.ne hfs'
    | cons a l=>
     rw[hfs'] at h1;simp only[stk,gorL,gor,GStep.go.injEq,Goroutine.mk.injEq] at h1;have hm:fr1.mode=a.mode:=by rw[←h1.1.1];rfl
     rcases(hn.ok.all a (by rw[hfs'];exact List.mem_cons_self)).mode with h | h<;>rw[h2,h] at hm<;>cases hm
 ·exact .inr hbad
theorem plain_all {fs:List Frame}(hok:OkStk P FN fs):∀c∈fs,Plain P c:=λc hc=>(hok.all c hc).plain
def Dead' (b:Bool)(P:Program)(fs:List Frame)(w:World):Prop:=∀(j:Nat) (fr:Frame) (w':World),panics fr.mode=false->runN P (j+1) (loneL (stk (s0 b) [c0] fs) w)≠.next (lone fr [c0] w')
theorem dead_of_bad {b:Bool}{fs:List Frame}{w:World}(hne:fs≠[])(hok:OkStk P FN fs)(hb:Bad P (stk (s0 b) [c0] fs.tail) (stepG P true (gorL (stk (s0 b) [c0] fs)) w)):Dead' b P fs w:=by
 intro j fr w' hst h;have:=bad_run hne (plain_all hok) hb j fr [c0] w' h;rw[hst] at this;cases this
theorem dead_of_stop {b:Bool}{fs:List Frame}{w:World}(hrel:∃(β:Ren P.globals.size) (FS:List Frame) (W:World),FrsR P FN β fs FS/\WR FN β w W)(hok:OkStk P FN fs)(hst:IsStop b fs):Dead' b P fs w:=by
 obtain⟨fr,rfl,h⟩:=hst;obtain⟨β,FS,W,hf,_⟩:=hrel;have hO:=hok.all fr List.mem_cons_self;cases hf with
 | cons x _=>
  intro j fr' w' hst' hrun;rcases h with⟨rfl,htd,hm⟩|hm
  ·obtain⟨o,w2,he⟩:=step_loneL_end (P:=P) (fs:=stk (s0 true) [c0] [fr]) (w:=w) (by simp[stk]) (by
    have hr:=hO.round;cases fr;simp only at htd hm hr;subst htd hm hr;simp[stk,gorL,gor,suf,s0,mkr,stepG,stepG.exec,isEnd])
   simp only[runN,he] at hrun;cases hrun
  ·have hg:=hO.good;unfold resGood at hg;cases hfn:P.funcs[fr.fn]? with
   | none=>rw[hfn] at hg;cases hg
   | some fn=>
    rw[hfn] at hg;simp only[Bool.and_eq_true] at hg;have hlv:=leave_step (P:=P) (fr:=suf (s0 b) fr) hm hO.defers hO.kind hfn hg.1 true c0 [] w;have hs:=step_loneL_go (P:=P) (fs:=stk (s0 b) [c0] [fr]) (fs':=[c0]) (w:=w) (by simp[stk]) (by simp) (by simpa[stk,gorL,c0,Frame.finish,mkr] using hlv);simp only[runN,hs] at hrun;cases j with
    | zero=>
     simp only[runN,Stepped.next.injEq] at hrun;have:=(lone_inj (show lone c0 [] w=lone fr' [c0] w' by simpa[stk,loneL] using hrun)).2.1;cases this
    | succ j=>
     obtain⟨o,w2,he⟩:=step_loneL_end (P:=P) (fs:=[c0]) (w:=w) (by simp) (by simp[gorL,gor,c0,mkr,stepG,stepG.exec,isEnd]);simp only[runN,he] at hrun;cases hrun
theorem bad_agree {b:Bool}(hL:Lst P FN){fs:List Frame}{w:World}{tp T:Tape}(hrel:∃(β:Ren P.globals.size) (FS:List Frame) (W:World),FrsR P FN β fs FS/\WR FN β w W)(hne:fs≠[])(hok:OkStk P FN fs)(hns:¬IsStop b fs)
  (hb:∀m,Bad P (stk (s0 b) [c0] fs.tail) (stepG P m (gorL (stk (s0 b) [c0] fs)) (tpd w tp))) (ha:∀p,w.drawn<=p->∀q,T p q=tp p q):∀m,Bad P (stk (s0 b) [c0] fs.tail) (stepG P m (gorL (stk (s0 b) [c0] fs)) (tpd w T)):=by
 obtain⟨β,FS,W,hf,hw⟩:=hrel;rcases red_step' (w:=tpd w T) b hL ⟨β,FS,W,hf,hw.tpd T⟩ hne hok hns with⟨fs',w',hn,_⟩ | h
 ·exfalso;obtain⟨es,hs⟩:=hn.step;have e:=hs true tp (s0 b) [c0] (al_s0 b) (λp h1 h2 q=>(ha p h1 q).symm);have hb2:=hb true;rw[tpd_tpd] at e;rw[e] at hb2;rcases hb2 with hb2|⟨fr1,ch,w1,es1,h1,h2,h3⟩
  ·exact hb2
  ·cases hfs':fs' with
   | nil=>exact hn.ne hfs'
   | cons a l=>
    rw[hfs'] at h1;simp only[stk,gorL,gor,GStep.go.injEq,Goroutine.mk.injEq] at h1;have hm:fr1.mode=a.mode:=by rw[←h1.1.1];rfl
    rcases(hn.ok.all a (by rw[hfs'];exact List.mem_cons_self)).mode with h | h<;>rw[h2,h] at hm<;>cases hm
 ·exact h
structure St where
 fs:List Frame
 w:World
structure NoTree (b:Bool) (P:Program) (FN:FuncId->Bool) (S:List Frame->World->Prop) (s:St):Prop where
 ne:s.fs≠[]
 ok:OkStk P FN s.fs
 rel:∃(β:Ren P.globals.size) (FS:List Frame) (W:World),FrsR P FN β s.fs FS/\WR FN β s.w W
 no:¬Tree b P FN S s.fs s.w
theorem noTree_next {b:Bool}(hL:Lst P FN){S:List Frame->World->Prop}{s:St}(h:NoTree b P FN S s) :
  ∃tp:Tape,(∃s':St,NoTree b P FN S s'/\Nxt b P FN s.fs (tpd s.w tp) s'.fs s'.w)\/∀T:Tape,(∀p,s.w.drawn<=p->∀q,T p q=tp p q)->Dead' b P s.fs (tpd s.w T):=by
 have relT:∀T:Tape,∃(β:Ren P.globals.size) (FS:List Frame) (W:World),FrsR P FN β s.fs FS/\WR FN β (tpd s.w T) W:=λT=>by
  obtain⟨β,FS,W,h1,h2⟩:=h.rel;exact⟨β,FS,W,h1,h2.tpd T⟩
 by_cases hst:IsStop b s.fs
 ·exact⟨s.w.tape,.inr λT _=>dead_of_stop (relT T) h.ok hst⟩
 ·apply Classical.byContradiction;intro hno;have key:∀tp:Tape,∃fs' w',Nxt b P FN s.fs (tpd s.w tp) fs' w'/\(∀β FS W,FrsR P FN β s.fs FS->WR FN β (tpd s.w tp) W->Tp (tpd s.w tp) W->SimR b P FN β s.fs (tpd s.w tp) fs' w' FS W)/\Tree b P FN S fs' w':=by
   intro tp;rcases red_step' (w:=tpd s.w tp) b hL (relT tp) h.ne h.ok hst with⟨fs',w',hn,hsim,hrel'⟩ | hbad
   ·refine⟨fs',w',hn,hsim,?_⟩;apply Classical.byContradiction;intro hnt;exact hno ⟨tp,.inl ⟨⟨fs',w'⟩,⟨hn.ne,hn.ok,hrel',hnt⟩,hn⟩⟩
   ·exact absurd ⟨tp,.inr λT ha=>dead_of_bad h.ne h.ok (bad_agree hL h.rel h.ne h.ok hst hbad ha true)⟩ hno
  exact h.no (.step (λtp=>(key tp).choose) (λtp=>(key tp).choose_spec.choose) (λtp=>(key tp).choose_spec.choose_spec.1) (λtp=>(key tp).choose_spec.choose_spec.2.1) (λtp=>(key tp).choose_spec.choose_spec.2.2))
theorem least {p:Nat->Prop}(h:∃n,p n):∃n,p n/\∀m,m<n->¬p m:=by
 obtain⟨n,hn⟩:=h;induction n using Nat.strongRecOn with
 | _ n ih=>
  by_cases hx:∃m,m<n/\p m
  ·obtain⟨m,hm,hp⟩:=hx;exact ih m hm hp
  ·exact⟨n,hn,λm hm hp=>hx ⟨m,hm,hp⟩⟩
section fan
variable {b:Bool} (hL:Lst P FN) {S:List Frame->World->Prop}
noncomputable def nx (s:{ s:St // NoTree b P FN S s }):{ s:St // NoTree b P FN S s }:=
 open Classical in
 if h:∃s':St,NoTree b P FN S s'/\Nxt b P FN s.1.fs (tpd s.1.w (noTree_next hL s.2).choose) s'.fs s'.w then ⟨h.choose,h.choose_spec.1⟩ else s
noncomputable def sq (s:{ s:St // NoTree b P FN S s }):Nat->{ s:St // NoTree b P FN S s }
 | 0=>s
 | n+1=>nx hL (sq s n)
noncomputable def tpn (s:{ s:St // NoTree b P FN S s })(n:Nat):Tape:=(noTree_next hL (sq hL s n).2).choose
def Live (s:{ s:St // NoTree b P FN S s })(n:Nat):Prop:=∃s':St,NoTree b P FN S s'/\Nxt b P FN (sq hL s n).1.fs (tpd (sq hL s n).1.w (tpn hL s n)) s'.fs s'.w
theorem sq_live (s:{ s:St // NoTree b P FN S s })(n:Nat)(h:Live hL s n):Nxt b P FN (sq hL s n).1.fs (tpd (sq hL s n).1.w (tpn hL s n)) (sq hL s (n+1)).1.fs (sq hL s (n+1)).1.w:=by
 have e:sq hL s (n+1)=nx hL (sq hL s n):=rfl;rw[e];unfold nx;have h':∃s':St,NoTree b P FN S s'/\Nxt b P FN (sq hL s n).1.fs (tpd (sq hL s n).1.w (noTree_next hL (sq hL s n).2).choose) s'.fs s'.w:=h;rw[dif_pos h'];exact h'.choose_spec.2
theorem sq_dead (s:{ s:St // NoTree b P FN S s })(n:Nat)(h:¬Live hL s n):∀T:Tape,(∀p,(sq hL s n).1.w.drawn<=p->∀q,T p q=tpn hL s n p q)->Dead' b P (sq hL s n).1.fs (tpd (sq hL s n).1.w T):=
 ((noTree_next hL (sq hL s n).2).choose_spec).resolve_left h
theorem sq_drawn (s:{ s:St // NoTree b P FN S s })(n:Nat):(sq hL s n).1.w.drawn<=(sq hL s (n+1)).1.w.drawn:=by
 by_cases h:Live hL s n
 ·exact(sq_live hL s n h).le
 ·have e:sq hL s (n+1)=sq hL s n:=by
   show nx hL (sq hL s n)=_;unfold nx;exact dif_neg h
  rw[e];exact Nat.le_refl _
theorem sq_mono (s:{ s:St // NoTree b P FN S s }){m n:Nat}(h:m<=n):(sq hL s m).1.w.drawn<=(sq hL s n).1.w.drawn:=by
 induction h with
 | refl=>exact Nat.le_refl _
 | step _ ih=>exact Nat.le_trans ih (sq_drawn hL s _)
noncomputable def diag (s:{ s:St // NoTree b P FN S s }):Tape:=λp q=>
 open Classical in
 if h:∃n,p<(sq hL s (n+1)).1.w.drawn\/¬Live hL s n then tpn hL s (least h).choose p q else 0
theorem diag_eq (s:{ s:St // NoTree b P FN S s })(n:Nat)(hl:∀m,m<n->Live hL s m)(p:Nat)(h1:(sq hL s n).1.w.drawn<=p)(h2:p<(sq hL s (n+1)).1.w.drawn\/¬Live hL s n)(q:Question):diag hL s p q=tpn hL s n p q:=by
 classical
 unfold diag;have hex:∃n,p<(sq hL s (n+1)).1.w.drawn\/¬Live hL s n:=⟨n,h2⟩;rw[dif_pos hex];have e:(least hex).choose=n:=by
  obtain⟨g1,g2⟩:=(least hex).choose_spec;generalize (least hex).choose=m at g1 g2;rcases Nat.lt_trichotomy m n with hm|hm|hm
  ·rcases g1 with h | h
   ·have:=sq_mono hL s (show m+1<=n from hm);omega
   ·exact absurd (hl m hm) h
  ·exact hm
  ·exact absurd h2 (g2 n hm)
 rw[e]
theorem sq_run (s:{ s:St // NoTree b P FN S s }):∀n,(∀m,m<n->Live hL s m)->
  runN P n (loneL (stk (s0 b) [c0] s.1.fs) (tpd s.1.w (diag hL s)))=.next (loneL (stk (s0 b) [c0] (sq hL s n).1.fs) (tpd (sq hL s n).1.w (diag hL s))):=by
 intro n;induction n with
 | zero=>intro _;rfl
 | succ n ih=>
  intro hl;have hn:=ih λm hm=>hl m (by omega)
  have hlv:=hl n (Nat.lt_succ_self _);obtain⟨es,hs⟩:=(sq_live hL s n hlv).step;have hst:=hs true (diag hL s) (s0 b) [c0] (al_s0 b) (λp h1 h2 q=>diag_eq hL s n (λm hm=>hl m (by omega)) p h1 (.inl h2) q);rw[tpd_tpd] at hst;have hne:∀fs:List Frame,fs≠[]->stk (s0 b) [c0] fs≠[]:=λfs h=>by cases fs with | nil=>exact absurd rfl h | cons _ _=>simp[stk]
  have h1:=step_loneL_go (hne _ (sq hL s n).2.ne) (hne _ (sq hL s (n+1)).2.ne) hst;rw[runN_add,hn];simp only[runN,h1]
end fan
theorem fan {b:Bool}(hL:Lst P FN){S:List Frame->World->Prop}(hS:∀fs w tp,S fs w->S fs (tpd w tp)){fs:List Frame}{w:World}(hrel:∃(β:Ren P.globals.size) (FS:List Frame) (W:World),FrsR P FN β fs FS/\WR FN β w W)(hne:fs≠[])(hok:OkStk P FN fs)
  (h:∀tp,∃n fr' w',runN P n (loneL (stk (s0 b) [c0] fs) (tpd w tp))=.next (lone fr' [c0] w')/\panics fr'.mode=false/\∀fr,suf (s0 b) fr=fr'->S [fr] w'):Tree b P FN S fs w:=by
 apply Classical.byContradiction;intro hno;let s:{ s:St // NoTree b P FN S s }:=⟨⟨fs,w⟩,hne,hok,hrel,hno⟩
 obtain⟨n,fr',w',hrun,hst,hSS⟩:=h (diag hL s);by_cases hall:∀m,m<n->Live hL s m
 ·have h1:=sq_run hL s n hall;have h2:loneL (stk (s0 b) [c0] (sq hL s n).1.fs) (tpd (sq hL s n).1.w (diag hL s))=lone fr' [c0] w':=by
   have:=h1.symm.trans hrun;simpa using this
  obtain⟨fr,e0,e1,e2⟩:=loneL_one (sq hL s n).2.ne h2;refine(sq hL s n).2.no (.stop ?_);rw[e0];have:=hS _ _ (sq hL s n).1.w.tape (hSS fr e1);rw[←e2,tpd_tpd,tpd_self] at this;exact this
 ·have hex:∃m,m<n/\¬Live hL s m:=by
   apply Classical.byContradiction;intro hx;exact hall λm hm=>Classical.byContradiction λhl=>hx ⟨m,hm,hl⟩
  obtain⟨m,hm,hmin'⟩:=least hex;have hmin:∀k,k<m->Live hL s k:=λk hk=>Classical.byContradiction λhl=>hmin' k hk ⟨by omega,hl⟩
  have h1:=sq_run hL s m hmin;have hd:=sq_dead hL s m hm.2 (diag hL s) λp hp q=>diag_eq hL s m hmin p hp (.inr hm.2) q
  obtain⟨j,rfl⟩:∃j,n=m+(j+1):=⟨n-m-1,by omega⟩;rw[runN_add,h1] at hrun;exact hd j fr' w' hst hrun
end Go.Fw
end
section
/- Judgements that are closed under the steps of a private goroutine, and the rules for them. -/
namespace Go.Fw
open Go Go.Conc
variable {P:Program} {FN:FuncId->Bool}
def SimF (P:Program)(FN:FuncId->Bool)(fs:List Frame)(w:World)(fs':List Frame)(w':World):Prop:=
 ∀(β:Ren P.globals.size) (FS:List Frame) (W:World),FrsR P FN β fs FS->WR FN β w W->Tp w W->
  ∃(γ:Ren P.globals.size) (FS':List Frame) (W':World) (ES:Array Event),FrsR P FN γ fs' FS'/\RunR FN β γ w W w' W'/\(∀m,stepG P m (gorL FS) W=.go (gorL FS') W' ES)/\∀e∈ES,EvR γ w' W' e
structure Clo (P:Program) (FN:FuncId->Bool) (J:List Frame->World->Prop):Prop where
 step:∀(fs:List Frame) (w:World) (F:Tape->List Frame) (K:Tape->World),fs≠[]->(∀tp,F tp≠[])->(∀tp,SimF P FN fs (tpd w tp) (F tp) (K tp))->(∀tp,J (F tp) (K tp))->J fs w
 vac:∀(fs:List Frame) (w:World),(∀(β:Ren P.globals.size) (FS:List Frame) (W:World),FrsR P FN β fs FS->WR FN β w W->False)->J fs w
 tp:∀(fs:List Frame) (w:World) (t:Tape),J fs (tpd w t)->J fs w
section
variable {J:List Frame->World->Prop}
theorem simF_of_simR {b:Bool}{fs fs' base:List Frame}{w w':World}{s:List Item}(hal:Al b s)
  (h:∀(β:Ren P.globals.size) FS W,FrsR P FN β fs FS->WR FN β w W->Tp w W->SimR b P FN β fs w fs' w' FS W):SimF P FN (stk s base fs) w (stk s base fs') w':=by
 intro β FF W hf hw ht;obtain⟨FS,BASE,rfl,h1,h2⟩:=stk_rel hf;obtain⟨γ,FS',W',ES,g1,g2,g3,g4⟩:=h β FS W h1 hw ht;exact⟨γ,stk s BASE FS',W',ES,rel_stk g1 (h2.mono g2.le),g2,λm=>g3 m s BASE hal,g4⟩
theorem Clo.tree (hJ:Clo P FN J){b:Bool}{S:List Frame->World->Prop}{s:List Item}(hal:Al b s){base fs:List Frame}{w:World}(h:Tree b P FN S fs w)(hne:stk s base fs≠[])
  (hS:∀fs' w',S fs' w'->J (stk s base fs') w'):J (stk s base fs) w:=by
 have ne:∀l:List Frame,l≠[]->stk s base l≠[]:=λl hl=>by cases l with | nil=>exact absurd rfl hl | cons _ _=>simp[stk]
 induction h with
 | stop h=>exact hS _ _ h
 | step F K hs hr hn ih=>exact hJ.step _ _ (λtp=>stk s base (F tp)) K hne (λtp=>ne _ (hs tp).ne) (λtp=>simF_of_simR hal (hr tp)) λtp=>ih tp (ne _ (hs tp).ne)
theorem Clo.back (hJ:Clo P FN J){fs:List Frame}{w:World}(t:Tape)(h:J fs w):J fs (tpd w t):=hJ.tp _ _ w.tape (by rw[tpd_tpd,tpd_self];exact h)
theorem Clo.one (hJ:Clo P FN J){fs fs':List Frame}{w w':World}(hne:fs≠[])(hne':fs'≠[])(h:∀tp,SimF P FN fs (tpd w tp) fs' (tpd w' tp))(hn:J fs' w'):J fs w:=
 hJ.step fs w (λ_=>fs') (λtp=>tpd w' tp) hne (λ_=>hne') h λtp=>hJ.back tp hn
theorem frR_at {β:Ren P.globals.size}{b:Frame}{a:Act}{td:List Item}{FR:Frame}(h:FrR P FN β (b.at a td) FR) :
  ∃A:Act,FR=b.at A td/\ArrR FN β a.tmps A.tmps/\A.defers=a.defers/\b.kind≠.early:=by
 obtain⟨h1,h2,h3,h4,⟨h5,h6⟩,⟨_,h7⟩,h8⟩:=h;cases FR;simp only[Frame.at] at h1 h2 h3 h4 h5 h6 h7 h8;subst h1 h2 h4 h6 h7 h8;exact⟨⟨_,a.defers⟩,rfl,h3,rfl,h5⟩
theorem at_frR {β:Ren P.globals.size}{b:Frame}{a A:Act}(td:List Item)(hb:b.kind≠.early)(h:ArrR FN β a.tmps A.tmps)(hd:A.defers=a.defers):FrR P FN β (b.at a td) (b.at A td):=
 ⟨rfl,rfl,h,rfl,⟨hb,rfl⟩,⟨rfl,rfl⟩,hd⟩
theorem gorL_cons (fr:Frame)(cs:List Frame):gorL (fr :: cs)=G fr cs:=rfl
theorem Clo.ctl (hJ:Clo P FN J){b:Frame}{a:Act}{td td':List Item}{cs:List Frame}{w:World}(h:∀(A:Act) (m:Bool) (C:List Frame) (W:World),stepG P m (G (b.at A td) C) W=.go (G (b.at A td') C) W #[])
  (hn:J (b.at a td' :: cs) w):J (b.at a td :: cs) w:=by
 refine hJ.one (by simp) (by simp) (λtp β FS W hf hw ht=>?_) hn;cases hf with
 | cons x t=>
  obtain⟨A,rfl,h1,h2,h3⟩:=frR_at x;exact⟨β,_,W,#[],.cons (at_frR td' h3 h1 h2) t,.refl hw ht,λm=>h A m _ W,λe he=>by simp at he⟩
section ctl
variable {b:Frame} {a:Act} {k:List Item} {cs:List Frame} {w:World}
theorem Clo.seq (hJ:Clo P FN J){x y:Code}(h:J (b.at a (.code x :: .code y :: k) :: cs) w):J (b.at a (.code (.seq x y) :: k) :: cs) w:=hJ.ctl (λA m C W=>stepG_seq) h
theorem Clo.skip (hJ:Clo P FN J)(h:J (b.at a k :: cs) w):J (b.at a (.code .skip :: k) :: cs) w:=hJ.ctl (λA m C W=>stepG_skip) h
theorem Clo.block (hJ:Clo P FN J){id:Nat}{c:Code}(h:J (b.at a (.code c :: .inBlock id :: k) :: cs) w):J (b.at a (.code (.block id c) :: k) :: cs) w:=hJ.ctl (λA m C W=>stepG_block) h
theorem Clo.inBlock (hJ:Clo P FN J){id:Nat}(h:J (b.at a k :: cs) w):J (b.at a (.inBlock id :: k) :: cs) w:=hJ.ctl (λA m C W=>stepG_inBlock) h
theorem Clo.loop (hJ:Clo P FN J){c:Code}(h:J (b.at a (.code c :: .inLoop c :: k) :: cs) w):J (b.at a (.code (.loop c) :: k) :: cs) w:=hJ.ctl (λA m C W=>stepG_loop) h
theorem Clo.inLoop (hJ:Clo P FN J){c:Code}(h:J (b.at a (.code c :: .inLoop c :: k) :: cs) w):J (b.at a (.inLoop c :: k) :: cs) w:=hJ.ctl (λA m C W=>stepG_inLoop) h
theorem Clo.exit (hJ:Clo P FN J){id:Nat}{k':List Item}(hk:exitTo id k=some k')(h:J (b.at a k' :: cs) w):J (b.at a (.code (.exit id) :: k) :: cs) w:=hJ.ctl (λA m C W=>stepG_exit hk) h
theorem Clo.region (hJ:Clo P FN J){id:Nat}{ops:Array Oper}(h:J (b.at a (.inRegion ops (List.range ops.size) :: k) :: cs) w):J (b.at a (.code (.region id ops false) :: k) :: cs) w:=hJ.ctl (λA m C W=>stepG_region) h
theorem Clo.region_end (hJ:Clo P FN J){ops:Array Oper}(h:J (b.at a k :: cs) w):J (b.at a (.inRegion ops [] :: k) :: cs) w:=hJ.ctl (λA m C W=>stepG_region_end) h
theorem Clo.cond (hJ:Clo P FN J){t:Tmp}{x y:Code}{v:Bool}(hc:a.eval (.tmp t)=.bool v)(h:J (b.at a (.code (if v then x else y) :: k) :: cs) w):J (b.at a (.code (.cond (.tmp t) x y) :: k) :: cs) w:=by
 refine hJ.one (by simp) (by simp) (λtp β FS W hf hw ht=>?_) h;cases hf with
 | cons x t'=>
  obtain⟨A,rfl,h1,h2,h3⟩:=frR_at x;have hv:=(at_frR (P:=P) (b:=b) [] h3 h1 h2).opn.x (.tmp t) rfl;rw[Frame.eval_at,Frame.eval_at,hc] at hv;have hA:A.eval (.tmp t)=.bool v:=by
   generalize A.eval (.tmp t)=V at hv;cases hv;rfl
  exact⟨β,_,W,#[],.cons (at_frR _ h3 h1 h2) t',.refl hw ht,λm=>stepG_cond hA,λe he=>by simp at he⟩
theorem Clo.draw (hJ:Clo P FN J){id:Nat}{ops:Array Oper}(h:∀t w',w'.heap=w.heap->J (b.at a (.inRegion ops (Region.schedule (P.follows .mixedOrders) ops t) :: k) :: cs) w'):J (b.at a (.code (.region id ops true) :: k) :: cs) w:=by
 refine hJ.step _ w (λtp=>b.at a (.inRegion ops (Region.schedule (P.follows .mixedOrders) ops (tp w.drawn (.order b.fn id))) :: k) :: cs) (λtp=>{ tpd w tp with drawn:=w.drawn+1 }) (by simp) (by simp) (λtp β FS W hf hw ht=>?_) λtp=>h _ _ rfl
 cases hf with
 | cons x t'=>
  obtain⟨A,rfl,h1,h2,h3⟩:=frR_at x;have hq:W.tape W.drawn (.order b.fn id)=tp w.drawn (.order b.fn id):=by have:=ht 0 (.order b.fn id);simpa using this.symm
  refine⟨β,_,{ W with drawn:=W.drawn+1 },#[],.cons (at_frR _ h3 h1 h2) t',run_draw hw ht,λm=>?_,λe he=>by simp at he⟩;rename_i L;have:=draw_step (P:=P) (fr:=b.at A (.code (.region id ops true) :: k)) rfl rfl rfl m [] L W;simp only[suf_nil] at this;rw[show (b.at A (.code (.region id ops true) :: k)).fn=b.fn from rfl,hq] at this;exact this
theorem Clo.ret (hJ:Clo P FN J)(h:J ({ b.at a (.code .ret :: k) with mode:=.returning } :: cs) w):J (b.at a (.code .ret :: k) :: cs) w:=by
 refine hJ.one (by simp) (by simp) (λtp β FS W hf hw ht=>?_) h;cases hf with
 | cons x t'=>
  obtain⟨A,rfl,h1,h2,h3⟩:=frR_at x;exact⟨β,_ :: _,W,#[],.cons (FR:={ b.at A (.code .ret :: k) with mode:=.returning }) ⟨rfl,rfl,h1,rfl,⟨h3,rfl⟩,⟨rfl,rfl⟩,h2⟩ t',.refl hw ht,λm=>by simp[gorL_cons,G,stepG,stepG.exec,Frame.at],λe he=>by simp at he⟩
theorem Clo.end_ (hJ:Clo P FN J)(h:J ({ b.at a [] with mode:=.returning } :: cs) w):J (b.at a [] :: cs) w:=by
 refine hJ.one (by simp) (by simp) (λtp β FS W hf hw ht=>?_) h;cases hf with
 | cons x t'=>
  obtain⟨A,rfl,h1,h2,h3⟩:=frR_at x;exact⟨β,_ :: _,W,#[],.cons (FR:={ b.at A [] with mode:=.returning }) ⟨rfl,rfl,h1,rfl,⟨h3,rfl⟩,⟨rfl,rfl⟩,h2⟩ t',.refl hw ht,λm=>by simp[gorL_cons,G,stepG,stepG.exec,Frame.at],λe he=>by simp at he⟩
end ctl
theorem Clo.leave (hJ:Clo P FN J){fr c:Frame}{cs:List Frame}{w:World}{fn:Func}(hm:fr.mode=.returning)(hd:fr.defers=[])(hk:fr.kind=.normal)(hf:P.funcs[fr.fn]? = some fn)(hr:fn.results.all okRes=true)(hc:AtOp c)
  (h:J (c.finish (resV fn fr.tmps) :: cs) w):J (fr :: c :: cs) w:=by
 refine hJ.one (by simp) (by simp) (λtp β FS W hfr hw ht=>?_) h;cases hfr with
 | cons x t=>
  cases t with
  | cons y t'=>
   rename_i C _;exact⟨β,_,W,#[],.cons (finish_rel y hc (resV_rel x.tmps)) t',.refl hw ht,λm=>leave_step (x.mode.trans hm) (x.defers.trans hd) (x.kind.2.trans hk) (by rw[x.fn];exact hf) hr m _ _ W,λe he=>by simp at he⟩
theorem enter_okFr {f:FuncId}(xs:Array Value)(hb:bodyOk P f=true)(hg:bodyGood P FN f=true):OkFr P FN (Frame.enter P f xs .normal):=by
 have hg':=hg;unfold bodyOk at hb;unfold bodyGood at hg;cases hfn:P.funcs[f]? with
 | none=>rw[hfn] at hb;cases hb
 | some fn=>
  rw[hfn] at hb hg;simp only[Bool.and_eq_true] at hb hg;cases hc:fn.body with
  | none=>rw[hc] at hb;simp at hb
  | some c=>
   simp only[hc] at hg;have e:Frame.enter P f xs .normal = { fn:=f,tmps:=xs++Array.replicate (fn.ntmps-xs.size) undef,todo:=[.code c],defers:=[],mode:=.run,kind:=.normal }:=by
    simp[Frame.enter,hfn,hc]
   rw[e];exact⟨by simp[okItem,hg],rfl,.inl rfl,resGood_of hg',rfl,rfl⟩
theorem Clo.call (hJ:Clo P FN J)(hL:Lst P FN){f:FuncId}{args:Array Value}{c:Frame}{cs:List Frame}{w:World}{R:Value->World->Prop}(hf:FN f=true)(hb:bodyOk P f=true)(hc:AtOp c)
  (h:∀tp,Calls P f args (tpd w tp) λe w'=>∃v,e=.returned v/\R v w') (hk:∀v w',R v w'->J (c.finish v :: cs) w'):J (Frame.enter P f args .normal :: c :: cs) w:=by
 by_cases hrel:∃(β:Ren P.globals.size) (FS:List Frame) (W:World),FrsR P FN β (Frame.enter P f args .normal :: c :: cs) FS/\WR FN β w W
 ·obtain⟨β,FS,W,hfs,hw⟩:=hrel;have hg:=hL.good f hf hb;cases hfs with
  | cons x t=>
   let S:List Frame->World->Prop:=λfs w=>∃(fr:Frame) (tp:Tape) (v:Value),fs=[fr]/\fr.fn=f/\fr.leaving P (tpd w tp) (.returned v)/\R v (tpd w tp)
   have hT:Tree false P FN S [Frame.enter P f args .normal] w:=by
    refine fan hL (b:=false) (S:=S) ?_ ⟨β,_,W,.cons x .nil,hw⟩ (by simp) ⟨λfr hfr=>by rw[List.mem_singleton.1 hfr];exact enter_okFr args hb hg,λfr hfr=>by simp at hfr⟩ ?_
    ·rintro fs w tp ⟨fr,tq,v,h1,h2,h3,h4⟩;exact⟨fr,tq,v,h1,h2,h3,h4⟩
    ·intro tp;obtain⟨e,w',fr,⟨v,rfl,hR⟩,⟨n,hn⟩,hfn,hlv⟩:=h tp [c0];refine⟨n,fr,w',by simpa[stk,s0,suf_nil,loneL] using hn,by rw[hlv.1];rfl,λfr2 e=>?_⟩;rw[show s0 false=[] from rfl,suf_nil] at e;subst e;exact⟨fr2,w'.tape,v,rfl,hfn,hlv,hR⟩
   have:=hJ.tree (s:=[]) (base:=c :: cs) (.inr rfl) hT (by simp[stk]) λfs' w' hS=>?_
   ·simpa[stk,suf_nil] using this
   ·obtain⟨fr,tp,v,rfl,hfn,⟨h1,h2,h3,fn,h4,h5⟩,hR⟩:=hS;have hres:fn.results.all okRes=true:=by
     unfold bodyGood at hg;rw[←hfn,h4] at hg;simp only[Bool.and_eq_true] at hg;exact hg.1
    rw[results_eq hres] at h5;have hv:resV fn fr.tmps=v:=by simp only[Sem.run,Result.ok.injEq] at h5;exact h5.1
    show J (suf [] fr :: c :: cs) w';rw[suf_nil];refine hJ.leave h1 h2 h3 h4 hres hc ?_;rw[hv];exact hJ.tp _ _ tp (hk v _ hR)
 ·exact hJ.vac _ _ λβ FS W h1 h2=>hrel ⟨β,FS,W,h1,h2⟩
def pieceQ (N:Act->World->Prop)(R:Act->World->Prop):Exit->Act->World->Prop
 | .normal,a,w=>N a w
 | .ret,a,w=>R a w
 | _,_,_=>False
theorem Clo.code (hJ:Clo P FN J)(hL:Lst P FN){c:Code}{b:Frame}{a:Act}{k:List Item}{cs:List Frame}{w:World}{N R:Act->World->Prop}(hok:okCode P FN c=true)(hd:a.defers=[])(hbk:b.kind=.normal)(hbg:resGood P b.fn=true)
  (h:∀tp,c.wp P (pieceQ N R) a (tpd w tp)) (hN:∀a' w',N a' w'->J (b.at a' k :: cs) w') (hR:∀a' w' td,R a' w'->J ({ b.at a' td with mode:=.returning } :: cs) w'):J (b.at a (.code c :: k) :: cs) w:=by
 by_cases hrel:∃(β:Ren P.globals.size) (FS:List Frame) (W:World),FrsR P FN β (b.at a (.code c :: k) :: cs) FS/\WR FN β w W
 ·obtain⟨β,FS,W,hfs,hw⟩:=hrel;cases hfs with
  | cons x t=>
   obtain⟨A,rfl,h1,h2,h3⟩:=frR_at x;let S:List Frame->World->Prop:=λfs w=>∃(a':Act) (tp:Tape),(fs=[b.at a' []]/\N a' (tpd w tp))\/∃td,fs=[{ b.at a' td with mode:=.returning }]/\R a' (tpd w tp)
   have hT:Tree true P FN S [b.at a [.code c]] w:=by
    refine fan hL (b:=true) (S:=S) ?_ ⟨β,_,W,.cons (at_frR [.code c] h3 h1 h2) .nil,hw⟩ (by simp) ⟨λfr hfr=>by rw[List.mem_singleton.1 hfr];exact⟨by simp[Frame.at,okItem,hok],hd,.inl rfl,hbg,hbk,rfl⟩,λfr hfr=>by simp at hfr⟩ ?_
    ·rintro fs w tp ⟨a',tq,h⟩;exact⟨a',tq,h⟩
    ·intro tp;obtain⟨e,a',w',hq,harr⟩:=h tp b [mkr] [c0];cases e with
     | normal=>
      obtain⟨n,hn⟩:=harr;refine⟨n,_,w',by simpa[stk,s0,suf,loneL,Frame.at] using hn,rfl,λfr e=>⟨a',w'.tape,.inl ⟨?_,hq⟩⟩⟩;have:suf [mkr] fr=suf [mkr] (b.at a' []):=e;rw[suf_inj this]
     | ret=>
      obtain⟨todo,n,hn⟩:=harr;refine⟨n,_,w',by simpa[stk,s0,suf,loneL,Frame.at] using hn,rfl,λfr e=>⟨a',w'.tape,.inr ⟨fr.todo,?_,hq⟩⟩⟩;cases fr;simp only[suf,Frame.at,Frame.mk.injEq] at e;obtain⟨rfl,rfl,_,rfl,rfl,rfl,rfl⟩:=e;rfl
     | _=>exact hq.elim
   have:=hJ.tree (s:=k) (base:=cs) (.inl rfl) hT (by simp[stk]) λfs' w' hS=>?_
   ·simpa[stk,suf,Frame.at] using this
   ·obtain⟨a',tp,⟨rfl,hq⟩ | ⟨td,rfl,hq⟩⟩:=hS
    ·have:=hJ.tp _ _ tp (hN a' _ hq);simpa[stk,suf,Frame.at] using this
    ·have:=hJ.tp _ _ tp (hR a' _ (td++k) hq);simpa[stk,suf,Frame.at] using this
 ·exact hJ.vac _ _ λβ FS W h1 h2=>hrel ⟨β,FS,W,h1,h2⟩
end
end Go.Fw
end
section
/- Rules for single operations of a private goroutine. -/
namespace Go.Fw
open Go Go.Conc
variable {P:Program} {FN:FuncId->Bool} {J:List Frame->World->Prop}
variable {b:Frame} {a:Act} {k:List Item} {cs:List Frame} {w w':World} {ops:Array Oper} {i:Nat} {rest:List Nat} {o:Oper}
theorem put_rel {β:Ren P.globals.size}{a A:Act}(h:ArrR FN β a.tmps A.tmps)(hd:A.defers=a.defers){v V:Value}(hv:VR FN β v V)(d:Option Tmp):ArrR FN β (a.put d v).tmps (A.put d V).tmps/\(A.put d V).defers=(a.put d v).defers:=by
 cases d with
 | none=>exact⟨h,hd⟩
 | some d=>exact⟨h.set hv d,hd⟩
theorem opn_at {β:Ren P.globals.size}{b:Frame}{a A:Act}(hb:b.kind≠.early)(h:ArrR FN β a.tmps A.tmps)(hd:A.defers=a.defers):OpnR FN β a.eval A.eval:=by
 have:=(at_frR (P:=P) (b:=b) [] hb h hd).opn;rw[Frame.eval_at' b a [],Frame.eval_at' b A []] at this;exact this
theorem events_of_runT {α:Type}{s:Sem α}{w w1:World}{x:α}{es:Array Event}(h:s.runT P w #[]=(.ok x w1,es)):s.run P w=.ok x w1/\s.events P w #[]=es:=by
 rw[Sem.runT_eq] at h;simp only[Prod.mk.injEq] at h;exact h
theorem Clo.op (hJ:Clo P FN J)(hL:Lst P FN){v:Value}(ho:ops[i]? = some o)(hw:Region.wanted o (yielded ops a.tmps)=true)(hok:okOp P FN o=true)
  (hr:∀tp,(execOp a.eval o).run P (tpd w tp)=.ok (.value v) (tpd w' tp)) (h:J (b.at (a.put o.dst v) (.inRegion ops rest :: k) :: cs) w'):J (b.at a (.inRegion ops (i :: rest) :: k) :: cs) w:=by
 refine hJ.one (by simp) (by simp) (λtp β FS W hf hwr ht=>?_) h;cases hf with
 | cons x t=>
  obtain⟨A,rfl,h1,h2,h3⟩:=frR_at x;have hS:=rel_execOp hok hL.call (opn_at h3 h1 h2);obtain⟨γ,N,W1,ES1,g1,g2,g3,g4⟩:=hS.run (tpd w tp) W #[] #[] _ _ _ hwr ht (by rw[Sem.runT_eq,hr]);cases g2 with
  | @value _ V hv=>
   obtain⟨e1,e2⟩:=events_of_runT g1;obtain⟨q1,q2⟩:=put_rel (h1.mono g3.le) h2 hv o.dst;refine⟨γ,_,W1,_,.cons (at_frR _ h3 q1 q2) (t.mono g3.le),g3,λm=>stepG_value ho (by rw[←yielded_rel h1 ops];exact hw) h3 e1,λe he=>?_⟩;unfold listed at he;rw[e2] at he;exact(g4 e (seen_sub he)).resolve_left (by simp)
theorem Clo.opSkip (hJ:Clo P FN J)(hL:Lst P FN)(ho:ops[i]? = some o)(hw:Region.wanted o (yielded ops a.tmps)=true)(hok:okOp P FN o=true)
  (hr:∀tp,(execOp a.eval o).run P (tpd w tp)=.ok .skip (tpd w' tp)) (h:J (b.at (a.put o.dst undef) (.inRegion ops rest :: k) :: cs) w'):J (b.at a (.inRegion ops (i :: rest) :: k) :: cs) w:=by
 refine hJ.one (by simp) (by simp) (λtp β FS W hf hwr ht=>?_) h;cases hf with
 | cons x t=>
  obtain⟨A,rfl,h1,h2,h3⟩:=frR_at x;have hS:=rel_execOp hok hL.call (opn_at h3 h1 h2);obtain⟨γ,N,W1,ES1,g1,g2,g3,g4⟩:=hS.run (tpd w tp) W #[] #[] _ _ _ hwr ht (by rw[Sem.runT_eq,hr]);cases g2 with
  | skip=>
   obtain⟨e1,e2⟩:=events_of_runT g1;obtain⟨q1,q2⟩:=put_rel (FN:=FN) (h1.mono g3.le) h2 VR.undef o.dst;refine⟨γ,_,W1,_,.cons (at_frR _ h3 q1 q2) (t.mono g3.le),g3,λm=>stepG_none ho (by rw[←yielded_rel h1 ops];exact hw) h3 e1,λe he=>?_⟩;unfold listed at he;rw[e2] at he;exact(g4 e (seen_sub he)).resolve_left (by simp)
theorem run_call {f:FuncId}{args:Array Operand}{ats:Array TypeId}(hop:o.op=.call { callee:=.value (.func f),args,argTypes:=ats })(hb:bodyOk P f=true)(w:World) :
  (execOp a.eval o).run P w=.ok (.enter f (args.map a.eval)) w/\(execOp a.eval o).events P w #[]=#[]:=by
 unfold bodyOk at hb;cases hfn:P.funcs[f]? with
 | none=>rw[hfn] at hb;cases hb
 | some fn=>
  rw[hfn] at hb;simp only[Bool.and_eq_true,bne_iff_ne,ne_eq] at hb;have h2:fn.body.isNone=false:=by
   cases hc:fn.body with
   | none=>rw[hc] at hb;simp at hb
   | some c=>rfl
  rw[execOp_call_func hop];have h3:∃c,fn.body=some c:=Option.isSome_iff_exists.1 hb.2;obtain⟨c,hc⟩:=h3;simp[callFunc,hfn,hb.1,hc]
theorem enter_frR {β:Ren P.globals.size}{f:FuncId}{xs XS:Array Value}(kd:CallKind)(hkd:kd≠.early)(hb:bodyOk P f=true)(h:ArrR FN β xs XS):FrR P FN β (Frame.enter P f xs kd) (Frame.enter P f XS kd):=by
 unfold bodyOk at hb;cases hfn:P.funcs[f]? with
 | none=>rw[hfn] at hb;cases hb
 | some fn=>
  rw[hfn] at hb;simp only[Bool.and_eq_true] at hb;cases hc:fn.body with
  | none=>rw[hc] at hb;simp at hb
  | some c=>
   have e:∀ys:Array Value,Frame.enter P f ys kd = { fn:=f,tmps:=ys++Array.replicate (fn.ntmps-ys.size) undef,todo:=[.code c],defers:=[],mode:=.run,kind:=kd }:=λys=>by
    simp[Frame.enter,hfn,hc]
   rw[e,e,←h.1];exact⟨rfl,rfl,h.app (ArrR.replicate VR.undef _),rfl,⟨hkd,rfl⟩,⟨rfl,rfl⟩,rfl⟩
theorem Clo.callop (hJ:Clo P FN J){f:FuncId}{args:Array Operand}{ats:Array TypeId}(ho:ops[i]? = some o)(hw:Region.wanted o (yielded ops a.tmps)=true)(hop:o.op=.call { callee:=.value (.func f),args,argTypes:=ats })
  (hb:bodyOk P f=true) (hx:args.all (okX FN)=true) (h:J (Frame.enter P f (args.map a.eval) .normal :: b.at a (.inRegion ops (i :: rest) :: k) :: cs) w):J (b.at a (.inRegion ops (i :: rest) :: k) :: cs) w:=by
 refine hJ.one (by simp) (by simp) (λtp β FS W hf hwr ht=>?_) h;cases hf with
 | cons x t=>
  obtain⟨A,rfl,h1,h2,h3⟩:=frR_at x;have hA:=(opn_at h3 h1 h2).arr hx;have hw':Region.wanted o (yielded ops A.tmps)=true:=by rw[←yielded_rel h1 ops];exact hw
  obtain⟨e1,e2⟩:=run_call (P:=P) (a:=A) hop hb W;rename_i CS;refine⟨β,_,W,#[],.cons (enter_frR .normal (by simp) hb hA) (.cons (at_frR _ h3 h1 h2) t),.refl hwr ht,λm=>?_,λe he=>by simp at he⟩;have hst:=stepG_oper (P:=P) (main:=m) (b:=b) (a:=A) (k:=k) (cs:=CS) (w:=W) (rest:=rest) ho hw';rw[gorL_cons,hst];rw[apply_enter (P:=P) (fr:=b.at A (.inRegion ops (i :: rest) :: k)) (C:=CS) (w:=W) (s:=execOp A.eval o) (ops:=ops) (l:=i :: rest) (k:=k) (f:=f) (xs:=args.map A.eval) (w1:=W) (es:=#[]) rfl h3 (by rw[Sem.runT_eq,e1,e2])];rw[show seen P (b.at A (.inRegion ops (i :: rest) :: k)).fn #[]=#[] by simp[seen]];rfl
end Go.Fw
end
section
/- Goroutine 0 beside leavers: its private steps are carried out by the machine. -/
namespace Go.Fw
open Go Go.Conc
open Go.ConcN (sumTo upd sumTo_upd upd_ne upd_same)
variable {P:Program} {FN:FuncId->Bool}
structure PastT (t:Trace):Prop where
 clean:∀said,¬Race said t
 known:∀i a,touchAt t i=some a->a.loc.isMemory=true->Knows t 0 i
 hears:Deaf t 0=0
def NoWord (e:Event):Prop:=e.loc≠.mark .disable/\e.loc≠.mark .enable
theorem deafBehind_noWord {d:Nat}{es:Array Event}(h:∀e∈es,NoWord e):deafBehind d es=d:=by
 unfold deafBehind;obtain⟨l⟩:=es;simp only[List.foldl_toArray'];induction l generalizing d with
 | nil=>rfl
 | cons e l ih=>
  rw[List.foldl_cons];obtain⟨h1,h2⟩:=h e (by simp);have ih':=@ih d λe' he'=>h e' (by simp at he' ⊢;exact .inr he')
  split
  ·rename_i hx;exact absurd hx h1
  ·rename_i hx;exact absurd hx h2
  ·exact ih'
theorem EvR.noWord {G:Nat}{γ:Ren G}{w W:World}{e:Event}(h:EvR γ w W e):NoWord e:=by
 rcases h with⟨A,h,_⟩|⟨m,h,hm⟩|⟨R,b,h,_⟩
 ·exact⟨by rw[h];simp,by rw[h];simp⟩
 ·constructor<;>(intro hx;rw[h] at hx;cases hx;exact hm)
 ·exact⟨by rw[h];simp,by rw[h];simp⟩
theorem PastT.app0 {t u:Trace}(h:PastT t)(hu:∀op∈u,op.g=0)(hd:Deaf (t++u) 0=Deaf t 0):PastT (t++u):=by
 refine⟨λsaid=>noRace_append (h.clean said) hu λi a ha op hop b hb hc=>h.known i a ha hc.2.1,λi a ha hm=>?_,hd.trans h.hears⟩;obtain⟨x,hx,hxa⟩:=touch_of ha;rcases getElem?_append_cases hx with⟨_,hx'⟩|⟨_,hxu⟩
 ·exact(h.known i a (by rw[touchAt_of hx'];exact hxa) hm).app u
 ·have:=knows_own hx;rw[hu x hxu] at this;exact this
theorem PastT.own {t:Trace}(h:PastT t){fn:FuncId}{pos:String}{es:Array Event}(he:∀e∈es,NoWord e):PastT (t++MemOp.ofEvents 0 fn pos es):=
 h.app0 (λop hop=>by obtain⟨e,_,rfl⟩:=Go.Conc.mem_ofEvents hop;rfl) (by rw[Deaf_own,deafBehind_noWord he])
theorem PastT.mute {t:Trace}(h:PastT t){g:Nat}(hg:g≠0){fn:FuncId}{pos:String}{es:Array Event}(he:∀e∈es,e.mute=true):PastT (t++MemOp.ofEvents g fn pos es):=by
 have hu:∀op∈MemOp.ofEvents g fn pos es,op.g=g:=λop hop=>by obtain⟨e,_,rfl⟩:=Go.Conc.mem_ofEvents hop;rfl
 have hn:∀op∈MemOp.ofEvents g fn pos es,op.act.touch? = none:=λop hop=>by obtain⟨e,h1,rfl⟩:=Go.Conc.mem_ofEvents hop;exact touch_mute (he e h1)
 refine⟨λsaid=>noRace_append (h.clean said) hu λi a ha op hop b hb hc=>(by rw[hn op hop] at hb;cases hb),λi a ha hm=>?_,(Deaf_other t hg _ hu).trans h.hears⟩;obtain⟨x,hx,hxa⟩:=touch_of ha;rcases getElem?_append_cases hx with⟨_,hx'⟩|⟨_,hxu⟩
 ·exact(h.known i a (by rw[touchAt_of hx'];exact hxa) hm).app _
 ·rw[hn x hxu] at hxa;cases hxa
theorem PastT.over {t:Trace}(h:PastT t):t.HandedOver:=by
 rintro i g hg hne ⟨x,hx,hm,_⟩;obtain⟨q,z,h1,h2,h3⟩:=h.known i x hx hm;refine⟨q,by simp[Trace.g?,h1,h2],?_⟩;rcases h3 with rfl|h3
 ·simp only[Trace.g?,h1,Option.map_some,Option.some.injEq] at hg;exact absurd (hg.symm.trans h2) hne
 ·exact h3
theorem pastT_nil:PastT #[]:=⟨λsaid=>by rintro⟨i,j,_,⟨a,b,ha,_⟩,_⟩;simp[Trace.act?] at ha,λi a ha=>by simp[touchAt,Trace.act?] at ha,rfl⟩
def Fz (w:World)(b:Nat):Prop:=FrzAll w b\/∃a l,w.heap[b]? = some (.number a l)
theorem Fz.keep {β γ:Ren P.globals.size}{w W w' W':World}(hr:RunR FN β γ w W w' W'){b B:Nat}(hb:β.f b=some B)(h:Fz w b):W'.heap[B]? = W.heap[B]?/\w'.heap[b]? = w.heap[b]?/\Fz w' b:=by
 rcases h with h|⟨a,l,h⟩
 ·exact⟨(hr.keepF b B hb h).1,(hr.keepF b B hb h).2,.inl (h.of_fz hr.fz)⟩
 ·obtain⟨h1,h2⟩:=hr.keepN b B a l hb h;exact⟨h2,h1,.inr ⟨a,l,h1.trans h⟩⟩
structure CfgR (P:Program) (FN:FuncId->Bool) (N0:Nat) (W0:World) (Ch:List Nat) (fs:List Frame) (w:World) (β:Ren P.globals.size) (gs:Array Goroutine) (W:World) (t:Trace) (q:Nat->Nat):Prop where
 g0:∃FS,gs[0]? = some (gorL FS)/\FrsR P FN β fs FS
 wr:WR FN β w W
 lv:Leavers P t gs q
 past:PastT t
 n0:N0<=W.heap.size
 old:∀B,B<N0->W.heap[B]? = W0.heap[B]?
 oldf:∀b B,β.f b=some B->B<N0->Fz w b
 os:W.os=W0.os
 out:W.output=W0.output
 tp:W.tape=W0.tape
 ch:∀c∈Ch,N0<=c/\W.heap[c]? = some (.chan 0 #[] false 0 0 false)
 chd:Ch.Nodup
def CEnds (P:Program)(FN:FuncId->Bool)(N0:Nat)(W0:World)(Post:Value->World->Prop)(Ch:List Nat)(fs:List Frame)(w:World):Prop:=
 ∀(β:Ren P.globals.size) (gs:Array Goroutine) (W:World) (sl:Option (Nat × Nat)) (t:Trace) (q:Nat->Nat),CfgR P FN N0 W0 Ch fs w β gs W t q->
  ∃N last o w' t',runNT P (N+1) (crowd gs W sl) t=(.ended o w',t')/\runN P N (crowd gs W sl)=.next last/\step P last=.ended o w'/\Good P Post last o w' t'
theorem run_more {M M':Machine}{t ops:Trace}{Q:Machine->Outcome->World->Trace->Prop}(hs:stepT P M=(.next M',ops))(h:∃N last o w' t',runNT P (N+1) M' (t++ops)=(.ended o w',t')/\runN P N M'=.next last/\step P last=.ended o w'/\Q last o w' t') :
  ∃N last o w' t',runNT P (N+1) M t=(.ended o w',t')/\runN P N M=.next last/\step P last=.ended o w'/\Q last o w' t':=by
 obtain⟨N,last,o,w',t',h1,h2,h3,h4⟩:=h;refine⟨N+1,last,o,w',t',?_,?_,h3,h4⟩
 ·rw[runNT,hs];exact h1
 ·rw[runN,show step P M=.next M' by rw[step,hs]];exact h2
theorem chan_notin {β:Ren P.globals.size}{w W:World}(h:WR FN β w W){c:Nat}{cap:Nat}{buf:Array Value}{cl:Bool}{s r:Nat}{tm:Bool}(hc:W.heap[c]? = some (.chan cap buf cl s r tm))(b:Nat):β.f b≠some c:=by
 intro hb;rcases h.blk b c hb with⟨c',C,t',fr',FR,e1,e2,_⟩|⟨a,A,l,g1,g2,_⟩
 ·rw[hc] at e2;cases e2
 ·rw[hc] at g2;cases g2
theorem keep_old {β γ:Ren P.globals.size}{w W w' W':World}(hr:RunR FN β γ w W w' W'){N:Nat}(hN:N<=W.heap.size)(hf:∀b B,β.f b=some B->B<N->Fz w b) :
  (∀B,B<N->W'.heap[B]? = W.heap[B]?)/\∀b B,γ.f b=some B->B<N->Fz w' b:=by
 refine⟨λB hB=>?_,λb B hb hB=>?_⟩
 ·by_cases h:∃b,β.f b=some B
  ·obtain⟨b,hb⟩:=h;exact((hf b B hb hB).keep hr hb).1
  ·exact hr.keep B (by omega) λb hb=>h ⟨b,hb⟩
 ·rcases hr.new_ b B hb with h | ⟨_,h,_⟩
  ·exact((hf b B h hB).keep hr h).2.2
  ·omega
theorem gorL_running {fs:List Frame}(h:fs≠[]):(gorL fs).status=.running:=by
 cases fs with
 | nil=>exact absurd rfl h
 | cons _ _=>rfl
theorem frs_ne {β:Ren P.globals.size}{fs FS:List Frame}(h:FrsR P FN β fs FS)(hne:fs≠[]):FS≠[]:=by
 cases h with
 | nil=>exact absurd rfl hne
 | cons _ _=>simp
theorem leaver_step {gs:Array Goroutine}{W:World}{sl:Option (Nat × Nat)}{t:Trace}{q:Nat->Nat}{a:Goroutine}(h0:gs[0]? = some a)(hrun:a.status=.running)(hL:Leavers P t gs q)(hP:PastT t) :
  (∃d sl',stepT P (crowd gs W sl)=runT P (crowd gs (W.at d) sl') 0)\/
   ∃d sl' gs' ops q',stepT P (crowd gs W sl)=(.next (crowd gs' (W.at d) sl'),ops)/\gs'.size=gs.size/\gs'[0]? = some a/\Leavers P (t++ops) gs' q'/\PastT (t++ops)/\sumTo gs'.size q'<sumTo gs.size q:=by
 have haw:∀g∈gs,awake g:=by
  intro g hg;obtain⟨i,hi,rfl⟩:=Array.mem_iff_getElem.1 hg;rcases Nat.eq_zero_or_pos i with rfl|hpos
  ·have:gs[0]=a:=by simpa[Array.getElem?_eq_getElem hi] using h0
   rw[this];exact awake_of (.inl hrun)
  ·exact awake_of ((hL.old i _ hpos (Array.getElem?_eq_getElem hi)).status.elim .inl λx=>.inr (.inr x))
 obtain⟨i,g,d,sl',hi,hg,hst⟩:=crowd_pick (P:=P) (w:=W) (sl:=sl) haw ⟨0,a,h0,hrun⟩;rcases Nat.eq_zero_or_pos i with rfl|hpos
 ·exact .inl ⟨d,sl',hst⟩
 ·have hq:=hL.old i g hpos hi;have hi0:(i == 0)=false:=by simp;omega
  have hlt:i<gs.size:=(Array.getElem?_eq_some_iff.1 hi).1;cases hqi:q i with
  | zero=>rw[hqi] at hq;rw[hq.1] at hg;cases hg
  | succ k=>
   rw[hqi] at hq;rcases hq with⟨hf,_⟩|⟨_,g',es,hm,hstp,hq'⟩
   ·rw[hf] at hg;cases hg
   have hrunT:=runT_crowd_go (P:=P) (sl:=sl') (i:=i) hi (by rw[hi0];exact hstp (W.at d));have hsz:((gs.map (woken P g g' (W.at d))).setIfInBounds i g').size=gs.size:=by simp
   have hsum:sumTo gs.size (upd q i k)+(k+1)=sumTo gs.size q+k:=by
    have:=sumTo_upd q k id hlt;simpa[hqi] using this
   refine .inr ⟨d,sl',(gs.map (woken P g g' (W.at d))).setIfInBounds i g',MemOp.ofEvents i g.frame.fn g.frame.place es,upd q i k,hst.trans hrunT,hsz,?_,⟨λj x hj hx=>?_,λj hj=>?_⟩,hP.mute (by omega) hm,by rw[hsz];omega⟩
   ·have hne:i≠0:=by omega
    rw[Array.getElem?_setIfInBounds_ne hne,Array.getElem?_map,h0];simp[woken_run hrun]
   ·by_cases hji:i=j
    ·subst hji;rw[Array.getElem?_setIfInBounds_self_of_lt (by simpa using hlt)] at hx;obtain rfl:=Option.some.inj hx;rw[upd_same,Deaf_own];exact hq'
    ·rw[Array.getElem?_setIfInBounds_ne hji,Array.getElem?_map] at hx;obtain⟨y,hy,rfl⟩:=Option.map_eq_some_iff.1 hx;have hqj:=hL.old j y hj hy;rw[woken_quitsD hqj,upd_ne q k (Ne.symm hji),Deaf_other t hji _ (λop hop=>by obtain⟨e,_,rfl⟩:=Go.Conc.mem_ofEvents hop;rfl)];exact hqj
   ·rw[Deaf_other t (g':=i) (by simp at hj;omega) _ (λop hop=>by obtain⟨e,_,rfl⟩:=Go.Conc.mem_ofEvents hop;rfl)];exact hL.above j (by simpa using hj)
theorem leavers_own {gs:Array Goroutine}{t:Trace}{q:Nat->Nat}{a a':Goroutine}{W':World}(h0:gs[0]? = some a)(hL:Leavers P t gs q){u:Trace}(hu:∀op∈u,op.g=0) :
  Leavers P (t++u) ((gs.map (woken P a a' W')).setIfInBounds 0 a') q:=by
 refine⟨λj x hj hx=>?_,λj hj=>?_⟩
 ·have hne:0≠j:=by omega
  rw[Array.getElem?_setIfInBounds_ne hne,Array.getElem?_map] at hx;obtain⟨y,hy,rfl⟩:=Option.map_eq_some_iff.1 hx;have hq:=hL.old j y hj hy;rw[woken_quitsD hq,Deaf_other t (by omega) _ hu];exact hq
 ·have hlt:0<gs.size:=(Array.getElem?_eq_some_iff.1 h0).1;rw[Deaf_other t (g':=0) (by simp at hj;omega) _ hu];exact hL.above j (by simpa using hj)
section
variable {N0:Nat} {W0:World} {Post:Value->World->Prop} {Ch:List Nat}
theorem CfgR.at_ {fs:List Frame}{w:World}{β:Ren P.globals.size}{gs gs':Array Goroutine}{W:World}{t t':Trace}{q q':Nat->Nat}(h:CfgR P FN N0 W0 Ch fs w β gs W t q)(d:Nat)(h0:gs'[0]? = gs[0]?)(hl:Leavers P t' gs' q')(hp:PastT t') :
  CfgR P FN N0 W0 Ch fs w β gs' (W.at d) t' q':=⟨by rw[h0];exact h.g0,h.wr.heap rfl rfl,hl,hp,h.n0,h.old,h.oldf,h.os,h.out,h.tp,h.ch,h.chd⟩
theorem cEnds_clo:Clo P FN (CEnds P FN N0 W0 Post Ch) where
 vac fs w h:=λβ gs W sl t q hc=>by
  obtain⟨FS,_,h2⟩:=hc.g0;exact(h β FS W h2 hc.wr).elim
 tp fs w tp h:=λβ gs W sl t q hc=>h β gs W sl t q ⟨hc.g0,hc.wr.tpd tp,hc.lv,hc.past,hc.n0,hc.old,hc.oldf,hc.os,hc.out,hc.tp,hc.ch,hc.chd⟩
 step fs w F K hne hneF hs hn:=by
  intro β gs W sl t q hc;generalize hM:sumTo gs.size q=M;induction M using Nat.strongRecOn generalizing gs W sl t q with
  | _ M ih=>
   obtain⟨FS,hg0,hfs⟩:=hc.g0;have hrun:(gorL FS).status=.running:=gorL_running (frs_ne hfs hne);rcases leaver_step (W:=W) (sl:=sl) hg0 hrun hc.lv hc.past with⟨d,sl',hst⟩ | ⟨d,sl',gs',ops,q',hst,hsz,h0',hL',hP',hlt⟩
   ·
    have ht:=tp_tapeFor w (W.at d);obtain⟨γ,FS',W',ES,h1,h2,h3,h4⟩:=hs (tapeFor w (W.at d)) β FS (W.at d) hfs ((hc.wr.tpd _).heap rfl rfl) ht;have hgo:=h3 (0 == 0);have hrunT:=runT_crowd_go (P:=P) (sl:=sl') (i:=0) hg0 hgo;have hlt0:0<gs.size:=(Array.getElem?_eq_some_iff.1 hg0).1;refine run_more (hst.trans hrunT) (hn (tapeFor w (W.at d)) γ _ W' sl' _ q ⟨⟨FS',by simp[hlt0],h1⟩,h2.wr,leavers_own hg0 hc.lv λop hop=>by obtain⟨e,_,rfl⟩:=Go.Conc.mem_ofEvents hop;rfl,hc.past.own λe he=>(h4 e he).noWord,?_,λB hB=>?_,?_,h2.os.trans hc.os,h2.out.trans hc.out,h2.tape.trans hc.tp,λc hcc=>?_,hc.chd⟩)
    ·have h5:W'.heap.size+w.heap.size=W.heap.size+(K (tapeFor w (W.at d))).heap.size:=h2.size;have h6:w.heap.size<=(K (tapeFor w (W.at d))).heap.size:=h2.grow;have:=hc.n0;omega
    ·exact((keep_old h2 hc.n0 hc.oldf).1 B hB).trans (hc.old B hB)
    ·exact(keep_old h2 hc.n0 hc.oldf).2
    ·obtain⟨g1,g2⟩:=hc.ch c hcc;exact⟨g1,(h2.keep c (Array.getElem?_eq_some_iff.1 g2).1 λb hb=>chan_notin hc.wr g2 b hb).trans g2⟩
   ·exact run_more hst (ih (sumTo gs'.size q') (by omega) gs' (W.at d) sl' (t++ops) q' (hc.at_ d (by rw[h0',hg0]) hL' hP') rfl)
theorem CEnds.done {fr:Frame}{w:World}{fn:Func}(hm:fr.mode=.returning)(hd:fr.defers=[])(hk:fr.kind=.normal)(hf:P.funcs[fr.fn]? = some fn)(hr:fn.results.all okRes=true)(hi:P.inits.idxOf? fr.fn=none)
  (h:∀(β:Ren P.globals.size) V W,VR FN β (resV fn fr.tmps) V->WR FN β w W->(∀B,B<N0->W.heap[B]? = W0.heap[B]?)->N0<=W.heap.size->W.os=W0.os->W.output=W0.output->W.tape=W0.tape->Post V W):CEnds P FN N0 W0 Post Ch [fr] w:=by
 intro β gs W sl t q hc;generalize hM:sumTo gs.size q=M;induction M using Nat.strongRecOn generalizing gs W sl t q with
 | _ M ih=>
  obtain⟨FS,hg0,hfs⟩:=hc.g0;have hrun:(gorL FS).status=.running:=gorL_running (frs_ne hfs (by simp));rcases leaver_step (W:=W) (sl:=sl) hg0 hrun hc.lv hc.past with⟨d,sl',hst⟩ | ⟨d,sl',gs',ops,q',hst,hsz,h0',hL',hP',hlt⟩
  ·cases hfs with
   | cons x t'=>
    cases t' with
    | nil=>
     rename_i FR;have hend:stepG P true (gorL [FR]) (W.at d)=.ended (.done (resV fn FR.tmps)) (W.at d) #[]:=by
      have h1:=x.mode.trans hm;have h2:=x.defers.trans hd;have h3:=x.kind.2.trans hk;have h4:P.funcs[FR.fn]? = some fn:=by rw[x.fn];exact hf
      have h5:P.inits.idxOf? FR.fn=none:=by rw[x.fn];exact hi
      cases FR;simp only at h1 h2 h3 h4 h5;subst h1 h2 h3;have hs:∀f,seen P f #[]=#[]:=λf=>by simp[seen]
      simp[gorL,gor,stepG,unwind,h4,results_eq hr,Sem.runT,GStep.after,doReturn,hs,Sem.run,h5]
     have hrunT:=runT_many_ended (P:=P) (sl:=sl') (i:=0) hg0 (show stepG P (0 == 0) (gorL [FR]) (W.at d)=_ from hend);have hP':=hc.past.own (fn:=(gorL [FR]).frame.fn) (pos:=(gorL [FR]).frame.place) (es:=#[]) (λe he=>by simp at he);have e0:MemOp.ofEvents 0 (gorL [FR]).frame.fn (gorL [FR]).frame.place #[]=#[]:=by simp[MemOp.ofEvents]
     rw[e0] at hrunT hP';refine⟨0,crowd gs W sl,.done (resV fn FR.tmps),W.at d,t++#[],?_,rfl,?_,?_⟩
     ·rw[runNT,hst,hrunT]
     ·rw[step,hst,hrunT]
     ·refine⟨_,rfl,h β _ (W.at d) (resV_rel x.tmps) (hc.wr.heap rfl rfl) hc.old hc.n0 hc.os hc.out hc.tp,hP'.clean,hP'.over,⟨λx hx=>?_,rfl⟩,λj x hx hj=>?_⟩
      ·obtain⟨j,hj⟩:=List.mem_iff_getElem?.1 hx;rw[List.getElem?_drop] at hj;exact⟨_,(hc.lv.old (1+j) x (by omega) (by simpa[crowd] using hj)).leaves⟩
      ·have hq:=hc.lv.old j x (by omega) hx;refine⟨q j,?_⟩;have e:(t++#[]).deaf j (t++#[]).size=Deaf t j:=by simp[Deaf]
       rw[e];exact hq.hears _
  ·exact run_more hst (ih (sumTo gs'.size q') (by omega) gs' (W.at d) sl' (t++ops) q' (hc.at_ d (by rw[h0',hg0]) hL' hP') rfl)
end
end Go.Fw
end
