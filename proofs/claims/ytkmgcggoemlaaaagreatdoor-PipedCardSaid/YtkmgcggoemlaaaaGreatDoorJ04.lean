/-
  Part 4 of the common ground of this seat: what single parts show stands ahead of each.
  No condition.
-/
import Derived.Test.YtkmgcggoemlaaaaGreatDoorJ03
import Derived.Conc.Own5
import Derived.Laws.Sem
set_option linter.unusedSimpArgs false
set_option linter.unusedVariables false
set_option linter.constructorNameAsVariable false
section
/- Related Sem trees: a run hangs on the consumed answers of the tape alone; what it may halt with. -/
namespace Go.Fw
open Go
def tpd (w:World)(tp:Tape):World:={ w with tape:=tp }
@[simp] theorem tpd_heap (w:World) (tp:Tape):(tpd w tp).heap=w.heap:=rfl
@[simp] theorem tpd_drawn (w:World) (tp:Tape):(tpd w tp).drawn=w.drawn:=rfl
@[simp] theorem tpd_tape (w:World) (tp:Tape):(tpd w tp).tape=tp:=rfl
theorem tpd_self (w:World):tpd w w.tape=w:=rfl
@[simp] theorem tpd_tpd (w:World) (tp tq:Tape):tpd (tpd w tp) tq=tpd w tq:=rfl
theorem tpd_cell (w:World)(tp:Tape)(a:Addr):(tpd w tp).cell? a=w.cell? a:=rfl
theorem tpd_frozen (w:World)(tp:Tape)(a:Addr):(tpd w tp).frozen? a=w.frozen? a:=rfl
theorem tpd_shape (w:World)(tp:Tape)(r:Nat):(tpd w tp).shape? r=w.shape? r:=rfl
section
variable {G:Nat} {FN:FuncId->Bool}
theorem WR.tpd {β:Ren G}{w W:World}(h:WR FN β w W)(tp:Tape):WR FN β (tpd w tp) W:=⟨h.blk,h.gl,h.gr⟩
theorem WR.heap {β:Ren G}{w w' W W':World}(h:WR FN β w W)(h1:w'.heap=w.heap)(h2:W'.heap=W.heap):WR FN β w' W':=
 ⟨λb B hb=>by rw[h1,h2];exact h.blk b B hb,by rw[h1];exact h.gl,by rw[h2];exact h.gr⟩
def Agree (tp tq:Tape)(lo hi:Nat):Prop:=∀p,lo<=p->p<hi->∀q,tp p q=tq p q
def tapeFor (w W:World):Tape:=λi q=>W.tape (W.drawn+(i-w.drawn)) q
theorem tp_tapeFor (w W:World):Tp (tpd w (tapeFor w W)) W:=λi q=>by
 show W.tape (W.drawn+(w.drawn+i-w.drawn)) q=_;rw[Nat.add_sub_cancel_left]
theorem SemR.local_ {P:Program}{α:Type}{RA:Ren G->α->α->Prop}{β:Ren G}{s S:Sem α}(h:SemR P FN RA β s S) :
  ∀(w W:World) (es:Array Event) (a:α) (w1:World) (es1:Array Event),WR FN β w W->s.runT P w es=(.ok a w1,es1)->
   w.drawn<=w1.drawn/\w1.tape=w.tape/\∀tp,Agree tp w.tape w.drawn w1.drawn->s.runT P (Fw.tpd w tp) es=(.ok a (Fw.tpd w1 tp),es1):=by
 induction h with
 | pure h=>
  intro w W es a w1 es1 hw hr;simp only[Sem.runT,Prod.mk.injEq,Result.ok.injEq] at hr;obtain⟨⟨rfl,rfl⟩,rfl⟩:=hr;exact⟨Nat.le_refl _,rfl,λtp _=>rfl⟩
 | @load β a A k K ha hk ih=>
  intro w W es x w1 es1 hw hr;simp only[Sem.runT] at hr;cases hc:w.cell? a with
  | none=>
   rw[hc] at hr;simp only[(hw.stuck ha P false).1,show ((Mode.plain == Mode.atomic)=false) from rfl] at hr;cases hr
  | some v=>
   rw[hc] at hr;obtain⟨V,hV,hR⟩:=hw.cell ha hc;obtain⟨h1,h2,h3⟩:=ih v V hR w W _ x w1 es1 hw hr;refine⟨h1,h2,λtp ht=>?_⟩;simp only[Sem.runT,tpd_cell,hc];exact h3 tp ht
 | @store β a A v V k K ha hv hk ih=>
  intro w W es x w1 es1 hw hr;have p1:∀xs,v≠.agg xs:=λxs e=>by subst e;simp only[Sem.runT] at hr;cases hr
  have p2:∀xs,v≠.tuple xs:=λxs e=>by subst e;simp only[Sem.runT] at hr;cases hr
  rw[runT_store p1 p2] at hr;cases hc:w.cell? a with
  | none=>
   rw[hc] at hr;simp only[(hw.stuck ha P false).2 v] at hr;cases hr
  | some v0=>
   rw[hc] at hr;simp only at hr;cases hf:w.frozen? a with
   | true=>rw[hf] at hr;simp at hr
   | false=>
    rw[hf] at hr;simp only[Bool.false_eq_true,if_false] at hr;have hT:Tp (Fw.tpd w (tapeFor w W)) W:=tp_tapeFor w W;obtain⟨_,_,h3,_,_⟩:=run_store (w:=Fw.tpd w (tapeFor w W)) (hw.tpd _) hT ha hv hc hf;have hw3:WR FN β (w.setCell a v) (W.setCell A V):=h3.wr.heap rfl rfl;obtain⟨g1,g2,g3⟩:=ih (w.setCell a v) (W.setCell A V) _ x w1 es1 hw3 hr;refine⟨g1,g2,λtp ht=>?_⟩;rw[runT_store p1 p2,tpd_cell,hc,tpd_frozen,hf];simp only[Bool.false_eq_true,if_false];exact g3 tp ht
 | @new β o O k K ho hk ih=>
  intro w W es x w1 es1 hw hr;simp only[Sem.runT] at hr;obtain⟨hn,hR⟩:=run_new (w:=Fw.tpd w (tapeFor w W)) (hw.tpd _) (tp_tapeFor w W) ho;have hw3:WR FN (β.ext w.heap.size W.heap.size hn) { w with heap:=w.heap.push o } { W with heap:=W.heap.push O }:=hR.wr.heap rfl rfl;obtain⟨g1,g2,g3⟩:=ih w.heap.size W.heap.size hn _ _ _ x w1 es1 hw3 hr;exact⟨g1,g2,λtp ht=>by simp only[Sem.runT];exact g3 tp ht⟩
 | @shape β r R k K hr' hk ih=>
  intro w W es x w1 es1 hw hr;simp only[Sem.runT] at hr;obtain⟨g1,g2,g3⟩:=ih (w.shape? r) w W _ x w1 es1 hw hr;exact⟨g1,g2,λtp ht=>by simp only[Sem.runT,tpd_shape];exact g3 tp ht⟩
 | @getObj β r R k K hr' hk ih=>
  intro w W es x w1 es1 hw hr;simp only[Sem.runT] at hr;rcases hw.blk _ _ hr' with⟨c',C,t',fr',FR,e1,e2,hR,hfz⟩|⟨a',A',l,hn,hN,hA⟩
  ·rw[e1] at hr;simp only at hr;cases hr
  ·rw[hn] at hr;simp only at hr;obtain⟨g1,g2,g3⟩:=ih a' A' l hA w W _ x w1 es1 hw hr;exact⟨g1,g2,λtp ht=>by simp only[Sem.runT,tpd_heap,hn];exact g3 tp ht⟩
 | @getObjD β r R k S hr' hk=>
  intro w W es x w1 es1 hw hr;simp only[Sem.runT] at hr;rcases hw.blk _ _ hr' with⟨c',C,t',fr',FR,e1,e2,hR,hfz⟩|⟨a',A',l,hn,hN,hA⟩
  ·rw[e1] at hr;simp only at hr;cases hr
  ·rw[hn] at hr;simp only at hr;obtain⟨e,w',he,_⟩:=(hk a' l).run (P:=P) w;rw[Sem.runT_eq,he] at hr;cases hr
 | @choose β q k K hk ih=>
  intro w W es x w1 es1 hw hr;simp only[Sem.runT] at hr;cases hq:q.forced with
  | true=>
   rw[hq] at hr;simp only[if_true] at hr;obtain⟨g1,g2,g3⟩:=ih 0 w W _ x w1 es1 hw hr;exact⟨g1,g2,λtp ht=>by simp only[Sem.runT,hq,if_true];exact g3 tp ht⟩
  | false=>
   rw[hq] at hr;simp only[Bool.false_eq_true,if_false] at hr;have hw3:WR FN β { w with drawn:=w.drawn+1 } W:=hw.heap rfl rfl;obtain⟨g1,g2,g3⟩:=ih _ { w with drawn:=w.drawn+1 } W _ x w1 es1 hw3 hr;have g1':w.drawn+1<=w1.drawn:=g1;refine⟨by omega,g2,λtp ht=>?_⟩;have e:tp w.drawn q=w.tape w.drawn q:=ht _ (Nat.le_refl _) (by omega) q;simp only[Sem.runT,hq,Bool.false_eq_true,if_false,tpd_tape,tpd_drawn,e];exact g3 tp λp h1 h2 q'=>ht p (by have:w.drawn+1<=p:=h1;omega) h2 q'
 | program hk ih=>
  intro w W es x w1 es1 hw hr;simp only[Sem.runT] at hr;obtain⟨g1,g2,g3⟩:=ih w W _ x w1 es1 hw hr;exact⟨g1,g2,λtp ht=>by simp only[Sem.runT];exact g3 tp ht⟩
 | progL hk ih=>
  intro w W es x w1 es1 hw hr;simp only[Sem.runT] at hr;obtain⟨g1,g2,g3⟩:=ih w W _ x w1 es1 hw hr;exact⟨g1,g2,λtp ht=>by simp only[Sem.runT];exact g3 tp ht⟩
 | @mark β m k K hm hk ih=>
  intro w W es x w1 es1 hw hr;simp only[Sem.runT] at hr;obtain⟨g1,g2,g3⟩:=ih w W _ x w1 es1 hw hr;exact⟨g1,g2,λtp ht=>by simp only[Sem.runT];exact g3 tp ht⟩
 | dead h=>
  intro w W es x w1 es1 hw hr;obtain⟨e,w',he,_⟩:=h.run (P:=P) w;rw[Sem.runT_eq,he] at hr;cases hr
theorem SemR.halts {P:Program}{α:Type}{RA:Ren G->α->α->Prop}{β:Ren G}{s S:Sem α}(h:SemR P FN RA β s S) :
  ∀(w W:World) (es:Array Event) (e:Halt) (w1:World) (es1:Array Event),WR FN β w W->s.runT P w es=(.halt e w1,es1)->HaltOk e:=by
 induction h with
 | pure h=>
  intro w W es e w1 es1 hw hr;simp only[Sem.runT,Prod.mk.injEq] at hr;cases hr.1
 | @load β a A k K ha hk ih=>
  intro w W es e w1 es1 hw hr;simp only[Sem.runT] at hr;cases hc:w.cell? a with
  | none=>
   rw[hc] at hr;simp only[(hw.stuck ha P false).1,show ((Mode.plain == Mode.atomic)=false) from rfl,Prod.mk.injEq,Result.halt.injEq] at hr;obtain⟨⟨rfl,_⟩,_⟩:=hr;trivial
  | some v=>
   rw[hc] at hr;obtain⟨V,hV,hR⟩:=hw.cell ha hc;exact ih v V hR w W _ e w1 es1 hw hr
 | @store β a A v V k K ha hv hk ih=>
  intro w W es e w1 es1 hw hr;by_cases p1:∃xs,v=.agg xs
  ·obtain⟨xs,rfl⟩:=p1;simp only[Sem.runT,Prod.mk.injEq,Result.halt.injEq] at hr;obtain⟨⟨rfl,_⟩,_⟩:=hr;trivial
  by_cases p2:∃xs,v=.tuple xs
  ·obtain⟨xs,rfl⟩:=p2;simp only[Sem.runT,Prod.mk.injEq,Result.halt.injEq] at hr;obtain⟨⟨rfl,_⟩,_⟩:=hr;trivial
  rw[runT_store (λxs e=>p1 ⟨xs,e⟩) (λxs e=>p2 ⟨xs,e⟩)] at hr;cases hc:w.cell? a with
  | none=>
   rw[hc] at hr;simp only[(hw.stuck ha P false).2 v,Prod.mk.injEq,Result.halt.injEq] at hr;obtain⟨⟨rfl,_⟩,_⟩:=hr;trivial
  | some v0=>
   rw[hc] at hr;simp only at hr;cases hf:w.frozen? a with
   | true=>
    rw[hf] at hr;simp only[if_true,Prod.mk.injEq,Result.halt.injEq] at hr;obtain⟨⟨rfl,_⟩,_⟩:=hr;trivial
   | false=>
    rw[hf] at hr;simp only[Bool.false_eq_true,if_false] at hr;have hT:Tp (Fw.tpd w (tapeFor w W)) W:=tp_tapeFor w W;obtain⟨_,_,h3,_,_⟩:=run_store (w:=Fw.tpd w (tapeFor w W)) (hw.tpd _) hT ha hv hc hf;exact ih (w.setCell a v) (W.setCell A V) _ e w1 es1 (h3.wr.heap rfl rfl) hr
 | @new β o O k K ho hk ih=>
  intro w W es e w1 es1 hw hr;simp only[Sem.runT] at hr;obtain⟨hn,hR⟩:=run_new (w:=Fw.tpd w (tapeFor w W)) (hw.tpd _) (tp_tapeFor w W) ho;exact ih w.heap.size W.heap.size hn { w with heap:=w.heap.push o } { W with heap:=W.heap.push O } _ e w1 es1 (hR.wr.heap rfl rfl) hr
 | @shape β r R k K hr' hk ih=>
  intro w W es e w1 es1 hw hr;simp only[Sem.runT] at hr;exact ih (w.shape? r) w W _ e w1 es1 hw hr
 | @getObj β r R k K hr' hk ih=>
  intro w W es e w1 es1 hw hr;simp only[Sem.runT] at hr;rcases hw.blk _ _ hr' with⟨c',C,t',fr',FR,e1,e2,hR,hfz⟩|⟨a',A',l,hn,hN,hA⟩
  ·rw[e1] at hr;simp only[Prod.mk.injEq,Result.halt.injEq] at hr;obtain⟨⟨rfl,_⟩,_⟩:=hr;trivial
  ·rw[hn] at hr;exact ih a' A' l hA w W _ e w1 es1 hw hr
 | @getObjD β r R k S hr' hk=>
  intro w W es e w1 es1 hw hr;simp only[Sem.runT] at hr;rcases hw.blk _ _ hr' with⟨c',C,t',fr',FR,e1,e2,hR,hfz⟩|⟨a',A',l,hn,hN,hA⟩
  ·rw[e1] at hr;simp only[Prod.mk.injEq,Result.halt.injEq] at hr;obtain⟨⟨rfl,_⟩,_⟩:=hr;trivial
  ·rw[hn] at hr;simp only at hr;obtain⟨e',w',he,ho⟩:=(hk a' l).run (P:=P) w;rw[Sem.runT_eq,he] at hr;simp only[Prod.mk.injEq,Result.halt.injEq] at hr;obtain⟨⟨rfl,_⟩,_⟩:=hr;exact ho
 | @choose β q k K hk ih=>
  intro w W es e w1 es1 hw hr;simp only[Sem.runT] at hr;cases hq:q.forced with
  | true=>rw[hq] at hr;exact ih 0 w W _ e w1 es1 hw hr
  | false=>
   rw[hq] at hr;simp only[Bool.false_eq_true,if_false] at hr;exact ih _ { w with drawn:=w.drawn+1 } W _ e w1 es1 (hw.heap rfl rfl) hr
 | program hk ih=>
  intro w W es e w1 es1 hw hr;exact ih w W _ e w1 es1 hw hr
 | progL hk ih=>
  intro w W es e w1 es1 hw hr;exact ih w W _ e w1 es1 hw hr
 | @mark β m k K hm hk ih=>
  intro w W es e w1 es1 hw hr;exact ih w W _ e w1 es1 hw hr
 | dead h=>
  intro w W es e w1 es1 hw hr;obtain⟨e',w',he,ho⟩:=h.run (P:=P) w;rw[Sem.runT_eq,he] at hr;simp only[Prod.mk.injEq,Result.halt.injEq] at hr;obtain⟨⟨rfl,_⟩,_⟩:=hr;exact ho
end
end Go.Fw
end
section
/- A goroutine's frames, in a private world and in company: related; which code they run; moves of control. -/
namespace Go.Fw
open Go Go.Conc
variable {P:Program} {FN:FuncId->Bool} {β:Ren P.globals.size}
theorem seen_sub {f:FuncId}{es:Array Event}{e:Event}(h:e∈seen P f es):e∈es:=by
 unfold seen at h;obtain⟨l⟩:=es;have key:∀(l:List Event) (q:Bool) (kept:Array Event) (e:Event),e∈(l.foldl (λ(q,kept) e=>
   match e.loc with
   | .mark (.extern f)=>((P.funcs[f]?).any (·.norace),kept)
   | _=>(q,if q && !e.sync then kept else kept.push e)) (q,kept)).2->e∈kept\/e∈l:=by
  intro l;induction l with
  | nil=>intro q kept e h;exact .inl h
  | cons x l ih=>
   intro q kept e h;rw[List.foldl_cons] at h;rcases ih _ _ e h with h|h
   ·split at h
    ·exact .inl h
    ·split at h
     ·exact .inl h
     ·rcases Array.mem_push.1 h with h | h
      ·exact .inl h
      ·exact .inr (h ▸ List.mem_cons_self)
   ·exact .inr (List.mem_cons_of_mem _ h)
 simp only[List.size_toArray,List.foldl_toArray'] at h;rcases key l _ #[] e h with h|h
 ·simp at h
 ·simpa using h
def okCode (P:Program)(FN:FuncId->Bool):Code->Bool
 | .skip | .ret | .exit _=>true
 | .seq a b=>okCode P FN a && okCode P FN b
 | .cond c a b=>okX FN c && okCode P FN a && okCode P FN b
 | .block _ a | .loop a=>okCode P FN a
 | .region _ ops _=>ops.all (okOp P FN)
 | _=>false
def okItem (P:Program)(FN:FuncId->Bool):Item->Bool
 | .code c=>okCode P FN c
 | .inBlock _=>true
 | .inLoop c=>okCode P FN c
 | .inRegion ops _=>ops.all (okOp P FN)
 | _=>false
def okRes:ResultVar->Bool
 | .tmp _=>true
 | .cell ..=>false
def bodyGood (P:Program)(FN:FuncId->Bool)(f:FuncId):Bool:=match P.funcs[f]? with
 | none=>false
 | some fn=>fn.results.all okRes && match fn.body with
  | some c=>okCode P FN c
  | none=>true
def resGood (P:Program)(f:FuncId):Bool:=match P.funcs[f]? with
 | none=>false
 | some fn=>fn.results.all okRes && true
theorem resGood_of {P:Program}{FN:FuncId->Bool}{f:FuncId}(h:bodyGood P FN f=true):resGood P f=true:=by
 unfold bodyGood at h;unfold resGood;cases hf:P.funcs[f]? with
 | none=>rw[hf] at h;cases h
 | some fn=>
  rw[hf] at h;simp only[Bool.and_eq_true] at h ⊢;exact⟨h.1,trivial⟩
structure FrR (P:Program) (FN:FuncId->Bool) (β:Ren P.globals.size) (fr FR:Frame):Prop where
 fn:FR.fn=fr.fn
 todo:FR.todo=fr.todo
 tmps:ArrR FN β fr.tmps FR.tmps
 mode:FR.mode=fr.mode
 kind:fr.kind≠.early/\FR.kind=fr.kind
 round:FR.roundOf=fr.roundOf/\FR.roundOf=fr.roundOf
 defers:FR.defers=fr.defers
theorem FrR.mono {γ:Ren P.globals.size}(h:β.le γ){fr FR:Frame}(x:FrR P FN β fr FR):FrR P FN γ fr FR:=
 ⟨x.fn,x.todo,x.tmps.mono h,x.mode,x.kind,x.round,x.defers⟩
theorem FrR.opn {fr FR:Frame}(x:FrR P FN β fr FR):OpnR FN β fr.eval FR.eval:=by
 refine⟨λo ho=>?_,λv=>⟨rfl,rfl⟩⟩;cases o with
 | tmp t=>
  show VR FN β (fr.tmps.getD t undef) (FR.tmps.getD t undef);rw[Array.getD_eq_getD_getElem?,Array.getD_eq_getD_getElem?];cases h:fr.tmps[t]? with
  | none=>rw[x.tmps.get_none h];exact VR.undef
  | some v=>
   obtain⟨V,hV,hR⟩:=x.tmps.get h;rw[hV];exact hR
 | const v=>exact VR.of_plain 5 v ho
 | func f=>exact .func ho rfl (λi a A h=>by simp at h) rfl (λi a A h=>by simp at h)
 | global g=>
  have hg:g=0:=by simpa[okX] using ho
  subst hg;exact .ptr ⟨β.sp 0 (.inl rfl),rfl,rfl⟩
inductive FrsR (P:Program) (FN:FuncId->Bool) (β:Ren P.globals.size):List Frame->List Frame->Prop
 | nil:FrsR P FN β [] []
 | cons {fr FR:Frame} {l L:List Frame} (h:FrR P FN β fr FR) (t:FrsR P FN β l L):FrsR P FN β (fr :: l) (FR :: L)
theorem FrsR.mono {γ:Ren P.globals.size}(h:β.le γ){l L:List Frame}(x:FrsR P FN β l L):FrsR P FN γ l L:=by
 induction x with
 | nil=>exact .nil
 | cons a _ ih=>exact .cons (a.mono h) ih
theorem FrsR.app {l L m M:List Frame}(x:FrsR P FN β l L)(y:FrsR P FN β m M):FrsR P FN β (l++m) (L++M):=by
 induction x with
 | nil=>exact y
 | cons a _ ih=>exact .cons a ih
def gor (fr:Frame)(cs:List Frame):Goroutine:={ frame:=fr,callers:=cs,status:=.running,dying:=none }
def gorL:List Frame->Goroutine
 | []=>default
 | fr :: cs=>gor fr cs
def suf (s:List Item)(fr:Frame):Frame:={ fr with todo:=fr.todo++s }
def stk (s:List Item)(base:List Frame):List Frame->List Frame
 | []=>base
 | fr :: cs=>suf (if cs.isEmpty then s else []) fr :: stk s base cs
theorem suf_nil (fr:Frame):suf [] fr=fr:=by simp[suf]
theorem stk_cons2 (s:List Item)(base:List Frame)(fr c:Frame)(cs:List Frame):stk s base (fr :: c :: cs)=fr :: stk s base (c :: cs):=by simp[stk,suf_nil]
theorem stk_nil (fs:List Frame):stk [] [] fs=fs:=by
 induction fs with
 | nil=>rfl
 | cons x l ih=>simp[stk,suf_nil,ih]
theorem stk_rel {s:List Item}{base:List Frame}{fs FF:List Frame}(h:FrsR P FN β (stk s base fs) FF):∃FS BASE,FF=stk s BASE FS/\FrsR P FN β fs FS/\FrsR P FN β base BASE:=by
 induction fs generalizing FF with
 | nil=>exact⟨[],FF,rfl,.nil,h⟩
 | cons x l ih=>
  cases h with
  | cons h1 h2=>
   rename_i X L;obtain⟨FS,BASE,rfl,h3,h4⟩:=ih h2;have hl:FS.isEmpty=l.isEmpty:=by cases h3<;>rfl
   refine⟨{ X with todo:=x.todo } :: FS,BASE,?_,.cons ⟨h1.fn,rfl,h1.tmps,h1.mode,h1.kind,h1.round,h1.defers⟩ h3,h4⟩;have:=h1.todo;cases X;simp only[stk,suf,hl,List.cons.injEq,and_true,Frame.mk.injEq,true_and] at this ⊢;exact this
theorem rel_stk {s:List Item}{base BASE:List Frame}{fs FS:List Frame}(h:FrsR P FN β fs FS)(hb:FrsR P FN β base BASE):FrsR P FN β (stk s base fs) (stk s BASE FS):=by
 induction h with
 | nil=>exact hb
 | cons a t ih=>
  rename_i x X l L;have hl:L.isEmpty=l.isEmpty:=by cases t<;>rfl
  refine .cons ⟨a.fn,?_,a.tmps,a.mode,a.kind,a.round,a.defers⟩ ih;simp[suf,hl,a.todo]
structure OkFr (P:Program) (FN:FuncId->Bool) (fr:Frame):Prop where
 ok:fr.todo.all (okItem P FN)=true
 defers:fr.defers=[]
 mode:fr.mode=.run\/fr.mode=.returning
 good:resGood P fr.fn=true
 kind:fr.kind=.normal
 round:fr.roundOf=none
def AtOp (fr:Frame):Prop:=fr.mode=.run/\∃ops i rest k,fr.todo=.inRegion ops (i :: rest) :: k
structure OkStk (P:Program) (FN:FuncId->Bool) (fs:List Frame):Prop where
 all:∀fr∈fs,OkFr P FN fr
 at_:∀fr∈fs.tail,AtOp fr
theorem exitTo_app (id:Nat):∀{k s k':List Item},exitTo id s=none->exitTo id (k++s)=some k'->∃k1,exitTo id k=some k1/\k'=k1++s:=by
 intro k;induction k with
 | nil=>intro s k' hs h;rw[List.nil_append,hs] at h;cases h
 | cons x k ih=>
  intro s k' hs h;cases x with
  | inBlock id'=>
   simp only[List.cons_append,exitTo] at h ⊢;split at h
   ·rename_i e;cases h;exact⟨k,by rw[if_pos e],rfl⟩
   ·rename_i e;obtain⟨k1,h1,h2⟩:=ih hs h;exact⟨k1,by rw[if_neg e];exact h1,h2⟩
  | _=>exact(by simpa[exitTo] using ih hs (by simpa[exitTo] using h))
theorem exitTo_more (id:Nat):∀{k k1:List Item} (s:List Item),exitTo id k=some k1->exitTo id (k++s)=some (k1++s):=by
 intro k;induction k with
 | nil=>intro k1 s h;simp[exitTo] at h
 | cons x k ih=>
  intro k1 s h;cases x with
  | inBlock id'=>
   simp only[List.cons_append,exitTo] at h ⊢;split at h
   ·rename_i e;cases h;rw[if_pos e]
   ·rename_i e;rw[if_neg e];exact ih s h
  | _=>exact(by simpa[exitTo] using ih s (by simpa[exitTo] using h))
theorem okItems_exit (id:Nat):∀{k k':List Item},k.all (okItem P FN)=true->exitTo id k=some k'->k'.all (okItem P FN)=true:=by
 intro k;induction k with
 | nil=>intro k' _ h;simp[exitTo] at h
 | cons x k ih=>
  intro k' hk h;simp only[List.all_cons,Bool.and_eq_true] at hk;cases x with
  | inBlock id'=>
   simp only[exitTo] at h;split at h
   ·cases h;exact hk.2
   ·exact ih hk.2 h
  | _=>exact ih hk.2 (by simpa[exitTo] using h)
def mkr:Item:=.code (.refuse "")
def c0:Frame:={ fn:=0,tmps:=#[],todo:=[mkr],defers:=[{ target:=.nil,args:=#[] }],mode:=.run,kind:=.normal }
def ctl:List Item->Bool
 | .code (.region _ _ true) :: _=>false
 | .inRegion _ (_ :: _) :: _=>false
 | _=>true
def isEnd (s:GStep):Prop:=match s with
 | .ended ..=>True
 | _=>False
theorem ctl_step {fr FR:Frame}(x:FrR P FN β fr FR)(hm:fr.mode=.run)(hok:fr.todo.all (okItem P FN)=true)(hne:fr.todo≠[])(hc:ctl fr.todo=true)(hrd:fr.roundOf=none) :
  (∃k' md,(md=.run\/md=.returning)/\k'.all (okItem P FN)=true/\(∀(m:Bool) (s:List Item) (C:List Frame) (w:World),stepG P m (gor (suf s fr) C) w=.go (gor (suf s { fr with todo:=k',mode:=md }) C) w #[])/\
    ∀(m:Bool) (s:List Item) (C:List Frame) (w:World),stepG P m (gor (suf s FR) C) w=.go (gor (suf s { FR with todo:=k',mode:=md }) C) w #[])\/
   ∀(m:Bool) (s:List Item) (C:List Frame) (w:World),(s=[]\/s=[mkr])->isEnd (stepG P m (gor (suf s fr) C) w):=by
 obtain⟨hfn,htodo,htmps,hmode,⟨hk1,hk2⟩,⟨hr1,hr9⟩,hd⟩:=x;clear hr9;cases fr;cases FR;simp only at hfn htodo htmps hmode hk1 hk2 hr1 hrd hd hm hc hok hne;subst hrd;subst hfn htodo hmode hk2 hr1 hd hm;rename_i tmps fn TMPS todo defers kind;cases todo with
 | nil=>exact absurd rfl hne
 | cons it k=>
  simp only[List.all_cons,Bool.and_eq_true] at hok;obtain⟨hit,hk⟩:=hok;have fin:∀k' md,(md=.run\/md=.returning)->k'.all (okItem P FN)=true->(∀(m:Bool) (T:Array Value) (s:List Item) (C:List Frame) (w:World),stepG P m (gor (suf s { fn,tmps:=T,todo:=it :: k,defers,mode:=.run,kind,roundOf:=none }) C) w=.go (gor (suf s { fn,tmps:=T,todo:=k',defers,mode:=md,kind,roundOf:=none }) C) w #[])->
    (∃k' md,(md=.run\/md=.returning)/\k'.all (okItem P FN)=true/\(∀(m:Bool) (s:List Item) (C:List Frame) (w:World),stepG P m (gor (suf s { fn,tmps,todo:=it :: k,defers,mode:=.run,kind,roundOf:=none }) C) w=.go (gor (suf s { fn,tmps,todo:=k',defers,mode:=md,kind,roundOf:=none }) C) w #[])/\
     ∀(m:Bool) (s:List Item) (C:List Frame) (w:World),stepG P m (gor (suf s { fn,tmps:=TMPS,todo:=it :: k,defers,mode:=.run,kind,roundOf:=none }) C) w=.go (gor (suf s { fn,tmps:=TMPS,todo:=k',defers,mode:=md,kind,roundOf:=none }) C) w #[])\/
    ∀(m:Bool) (s:List Item) (C:List Frame) (w:World),(s=[]\/s=[mkr])->isEnd (stepG P m (gor (suf s { fn,tmps,todo:=it :: k,defers,mode:=.run,kind,roundOf:=none }) C) w):=
   λk' md hmd hk' hst=>.inl ⟨k',md,hmd,hk',λm s C w=>hst m _ s C w,λm s C w=>hst m _ s C w⟩
  cases it with
  | inBlock id=>exact fin k .run (.inl rfl) hk λm T s C w=>by simp[stepG,stepG.exec,gor,suf]
  | inLoop c=>exact fin (.code c :: .inLoop c :: k) .run (.inl rfl) (by simp only[List.all_cons,Bool.and_eq_true];exact⟨hit,hit,hk⟩) λm T s C w=>by simp[stepG,stepG.exec,gor,suf]
  | inRegion ops l=>
   cases l with
   | nil=>exact fin k .run (.inl rfl) hk λm T s C w=>by simp[stepG,stepG.exec,gor,suf]
   | cons i l=>simp[ctl] at hc
  | code c=>
   simp only[okItem] at hit;cases c with
   | skip=>exact fin k .run (.inl rfl) hk λm T s C w=>by simp[stepG,stepG.exec,gor,suf]
   | ret=>exact fin (.code .ret :: k) .returning (.inr rfl) (by simp only[List.all_cons,Bool.and_eq_true];exact⟨hit,hk⟩) λm T s C w=>by simp[stepG,stepG.exec,gor,suf]
   | seq a b=>
    simp only[okCode,Bool.and_eq_true] at hit;exact fin (.code a :: .code b :: k) .run (.inl rfl) (by simp only[List.all_cons,Bool.and_eq_true];exact⟨hit.1,hit.2,hk⟩) λm T s C w=>by simp[stepG,stepG.exec,gor,suf]
   | block id a=>exact fin (.code a :: .inBlock id :: k) .run (.inl rfl) (by simp only[List.all_cons,Bool.and_eq_true];exact⟨hit,rfl,hk⟩) λm T s C w=>by simp[stepG,stepG.exec,gor,suf]
   | loop a=>exact fin (.code a :: .inLoop a :: k) .run (.inl rfl) (by simp only[List.all_cons,Bool.and_eq_true];exact⟨hit,hit,hk⟩) λm T s C w=>by simp[stepG,stepG.exec,gor,suf]
   | region id ops d=>
    cases d with
    | true=>simp[ctl] at hc
    | false=>exact fin (.inRegion ops (List.range ops.size) :: k) .run (.inl rfl) (by simp only[List.all_cons,Bool.and_eq_true];exact⟨hit,hk⟩) λm T s C w=>by simp[stepG,stepG.exec,gor,suf]
   | exit id=>
    cases he:exitTo id (k++[mkr]) with
    | some k'=>
     obtain⟨k1,h1,rfl⟩:=exitTo_app id rfl he;refine fin k1 .run (.inl rfl) (okItems_exit id hk h1) λm T s C w=>?_
     simp[stepG,stepG.exec,gor,suf,exitTo_more id s h1]
    | none=>
     have he2:exitTo id k=none:=by
      cases hk2:exitTo id k with
      | none=>rfl
      | some k1=>rw[exitTo_more id [mkr] hk2] at he;cases he
     refine .inr λm s C w hs=>?_
     rcases hs with rfl|rfl
     ·simp[stepG,stepG.exec,gor,suf,he2,isEnd]
     ·simp[stepG,stepG.exec,gor,suf,he,isEnd]
   | cond c a b=>
    simp only[okCode,Bool.and_eq_true] at hit;have hfr:FrR P FN β { fn,tmps,todo:=.code (.cond c a b) :: k,defers,mode:=.run,kind,roundOf:=none } { fn,tmps:=TMPS,todo:=.code (.cond c a b) :: k,defers,mode:=.run,kind,roundOf:=none }:=
     ⟨rfl,rfl,htmps,rfl,⟨hk1,rfl⟩,⟨rfl,rfl⟩,rfl⟩
    have hv:=hfr.opn.x c hit.1.1;have ev:∀(T:Array Value) (td td':List Item),Frame.eval { fn,tmps:=T,todo:=td,defers,mode:=.run,kind,roundOf:=none } c=Frame.eval { fn,tmps:=T,todo:=td',defers,mode:=.run,kind,roundOf:=none } c:=λT td td'=>by cases c<;>rfl
    generalize hx:Frame.eval { fn,tmps,todo:=.code (.cond c a b) :: k,defers,mode:=.run,kind,roundOf:=none } c=v at hv;generalize hX:Frame.eval { fn,tmps:=TMPS,todo:=.code (.cond c a b) :: k,defers,mode:=.run,kind,roundOf:=none } c=V at hv;have hx':∀td,Frame.eval { fn,tmps,todo:=td,defers,mode:=.run,kind,roundOf:=none } c=v:=λtd=>(ev tmps td _).trans hx
    have hX':∀td,Frame.eval { fn,tmps:=TMPS,todo:=td,defers,mode:=.run,kind,roundOf:=none } c=V:=λtd=>(ev TMPS td _).trans hX
    cases hv with
    | bool t=>
     refine .inl ⟨.code (if t then a else b) :: k,.run,.inl rfl,?_,λm s C w=>by simp[stepG,stepG.exec,gor,suf,hx'],λm s C w=>by simp[stepG,stepG.exec,gor,suf,hX']⟩;simp only[List.all_cons,Bool.and_eq_true,okItem];refine⟨?_,hk⟩;cases t
     ·exact hit.2
     ·exact hit.1.2
    | _=>exact .inr λm s C w _=>by simp[stepG,stepG.exec,gor,suf,hx',isEnd]
   | goto l=>simp[okCode] at hit
   | label l=>simp[okCode] at hit
   | scope a=>simp[okCode] at hit
   | rangeFunc f ps a b=>simp[okCode] at hit
   | refuse why=>simp[okCode] at hit
  | _=>simp[okItem] at hit
/- One step of related goroutines: a region's draw; an operation; a return. -/
theorem all_get' {α:Type}{xs:Array α}{f:α->Bool}(h:xs.all f=true){i:Nat}{x:α}(hx:xs[i]? = some x):f x=true:=by
 rw[Array.all_eq_true] at h;obtain⟨hi,rfl⟩:=Array.getElem?_eq_some_iff.1 hx;exact h i hi
theorem tp_back (w W:World):Tp w (tpd W (tapeFor W w)):=λi q=>by
 show _=w.tape (w.drawn+(W.drawn+i-W.drawn)) q;rw[Nat.add_sub_cancel_left]
theorem yielded_rel {tmps TMPS:Array Value}(h:ArrR FN β tmps TMPS)(ops:Array Oper):yielded ops tmps=yielded ops TMPS:=by
 funext j
 unfold yielded;cases (ops[j]?).bind (·.dst) with
 | none=>rfl
 | some d=>
  simp only[Option.bind_some];cases hv:tmps[d]? with
  | none=>rw[h.get_none hv]
  | some v=>
   obtain⟨V,hV,hR⟩:=h.get hv;rw[hV];cases hR with
   | junk hj=>cases V<;>first | rfl | (cases hj;done)
   | _=>rfl
theorem draw_step {fr:Frame}(hm:fr.mode=.run){id:Nat}{ops:Array Oper}{k:List Item}(hc:fr.todo=.code (.region id ops true) :: k)(hr:fr.roundOf=none)(m:Bool)(s:List Item)(C:List Frame)(w:World) :
  stepG P m (gor (suf s fr) C) w=.go (gor (suf s { fr with todo:=.inRegion ops (Region.schedule (P.follows .mixedOrders) ops (w.tape w.drawn (.order fr.fn id))) :: k }) C) { w with drawn:=w.drawn+1 } #[]:=by
 cases fr;simp only at hm hc hr;subst hm hc hr;simp[stepG,stepG.exec,gor,suf,choose,Sem.run,Question.forced,Question.cut]
def putT (tmps:Array Value)(d:Option Tmp)(v:Value):Array Value:=match d with
 | some d=>tmps.setIfInBounds d v
 | none=>tmps
theorem finish_at {fr:Frame}{ops:Array Oper}{i:Nat}{rest:List Nat}{k:List Item}(h:fr.todo=.inRegion ops (i :: rest) :: k)(v:Value) :
  fr.finish v = { fr with tmps:=putT fr.tmps ((ops[i]?).bind (·.dst)) v,todo:=.inRegion ops rest :: k }:=by
 cases fr;simp only at h;subst h;cases hb:(ops[i]?).bind (·.dst)<;>simp[Frame.finish,hb,putT]
theorem finish_suf {fr:Frame}(h:AtOp fr)(s:List Item)(v:Value):(suf s fr).finish v=suf s (fr.finish v):=by
 obtain⟨_,ops,i,rest,k,h⟩:=h;have h':(suf s fr).todo=.inRegion ops (i :: rest) :: (k++s):=by simp[suf,h]
 rw[finish_at h,finish_at h'];simp[suf]
theorem finish_rel {fr FR:Frame}(x:FrR P FN β fr FR)(h:AtOp fr){v V:Value}(hv:VR FN β v V):FrR P FN β (fr.finish v) (FR.finish V):=by
 obtain⟨_,ops,i,rest,k,h⟩:=h;rw[finish_at h,finish_at (x.todo.trans h)];refine⟨x.fn,rfl,?_,x.mode,x.kind,x.round,x.defers⟩;cases (ops[i]?).bind (·.dst) with
 | none=>exact x.tmps
 | some d=>exact x.tmps.set hv d
theorem finish_ok {fr:Frame}(x:OkFr P FN fr)(h:AtOp fr)(v:Value):OkFr P FN (fr.finish v):=by
 obtain⟨_,ops,i,rest,k,h⟩:=h;rw[finish_at h];have:=x.ok;rw[h] at this;exact⟨by simpa[okItem] using this,x.defers,x.mode,x.good,x.kind,x.round⟩
structure Plain (P:Program) (fr:Frame):Prop where
 defers:fr.defers=[]
 fn:P.funcs[fr.fn]?≠none
def Bad (P:Program)(C:List Frame)(s:GStep):Prop:=
 isEnd s\/∃fr1 ch w' es,s=.go (gor fr1 C) w' es/\fr1.mode=.panicking ch/\Plain P fr1
theorem OkFr.plain {fr:Frame}(x:OkFr P FN fr):Plain P fr:=⟨x.defers,λh=>by
 have:=x.good;unfold resGood at this;rw[h] at this;cases this⟩
theorem enter_rel {f:FuncId}{xs XS:Array Value}(hb:bodyOk P f=true)(hg:bodyGood P FN f=true)(h:ArrR FN β xs XS) :
  FrR P FN β (Frame.enter P f xs .normal) (Frame.enter P f XS .normal)/\OkFr P FN (Frame.enter P f xs .normal):=by
 have hg':=hg;unfold bodyOk at hb;unfold bodyGood at hg;cases hfn:P.funcs[f]? with
 | none=>rw[hfn] at hb;cases hb
 | some fn=>
  rw[hfn] at hb hg;simp only[Bool.and_eq_true] at hb hg;cases hc:fn.body with
  | none=>rw[hc] at hb;simp at hb
  | some c=>
   simp only[hc] at hg;have e:∀ys:Array Value,Frame.enter P f ys .normal = { fn:=f,tmps:=ys++Array.replicate (fn.ntmps-ys.size) undef,todo:=[.code c],defers:=[],mode:=.run,kind:=.normal }:=λys=>by
    simp[Frame.enter,hfn,hc]
   rw[e,e,←h.1];exact⟨⟨rfl,rfl,h.app (ArrR.replicate VR.undef _),rfl,⟨by simp,rfl⟩,⟨rfl,rfl⟩,rfl⟩,by simp[okItem,hg],rfl,.inl rfl,resGood_of hg',rfl,rfl⟩
structure Lst (P:Program) (FN:FuncId->Bool):Prop where
 call:∀g,FN g=true->CallOk P FN g
 good:∀g,FN g=true->bodyOk P g=true->bodyGood P FN g=true
theorem stepG_unwanted {fr:Frame}{ops:Array Oper}{i:Nat}{rest:List Nat}{k:List Item}(hm:fr.mode=.run)(hc:fr.todo=.inRegion ops (i :: rest) :: k)(h:((ops[i]?).map (Region.wanted · (yielded ops fr.tmps))).getD false=false)
  (m:Bool) (C:List Frame) (w:World):stepG P m (gor fr C) w=.go (gor (fr.finish undef) C) w #[]:=by
 cases fr;simp only at hm hc h;subst hm hc;simp[stepG,stepG.exec,gor,h]
theorem stepG_wanted {fr:Frame}{ops:Array Oper}{i:Nat}{rest:List Nat}{k:List Item}{o:Oper}(hm:fr.mode=.run)(hc:fr.todo=.inRegion ops (i :: rest) :: k)(hr:fr.roundOf=none)(ho:ops[i]? = some o)(h:Region.wanted o (yielded ops fr.tmps)=true)
  (m:Bool) (C:List Frame) (w:World):stepG P m (gor fr C) w=stepG.apply P true fr C none (execOp fr.eval o) w:=by
 cases fr;simp only at hm hc h hr;subst hm hc hr;simp[stepG,stepG.exec,stepG.oper,gor,Frame.oper?,ho,h]
section
variable {fr:Frame} {C:List Frame} {w w1:World} {es:Array Event} {s:Sem Next}
theorem raise_plain (hp:Plain P fr)(vs:List PanicEntry):(∃ch,(fr.raise vs).mode=.panicking ch)/\Plain P (fr.raise vs):=by
 obtain⟨h1,h2⟩:=hp;cases fr with
 | mk fn tmps todo defers mode kind round=>
  cases mode<;>exact⟨⟨_,rfl⟩,h1,h2⟩
theorem apply_value {ops:Array Oper}{l:List Nat}{k:List Item}(hc:fr.todo=.inRegion ops l :: k)(hk:fr.kind≠.early){v:Value}(h:s.runT P w #[]=(.ok (.value v) w1,es)):stepG.apply P true fr C none s w=.go (gor (fr.finish v) C) w1 (seen P fr.fn es):=by
 have hk':(fr.kind == CallKind.early)=false:=by simpa using hk
 unfold stepG.apply;rw[if_pos rfl,h];simp only[hk',Bool.false_eq_true,if_false,GStep.after];rfl
theorem apply_skip {ops:Array Oper}{l:List Nat}{k:List Item}(hc:fr.todo=.inRegion ops l :: k)(hk:fr.kind≠.early)(h:s.runT P w #[]=(.ok .skip w1,es)):stepG.apply P true fr C none s w=.go (gor (fr.finish undef) C) w1 (seen P fr.fn es):=by
 have hk':(fr.kind == CallKind.early)=false:=by simpa using hk
 unfold stepG.apply;rw[if_pos rfl,h];simp only[hk',Bool.false_eq_true,if_false,GStep.after];rfl
theorem apply_enter {ops:Array Oper}{l:List Nat}{k:List Item}(hc:fr.todo=.inRegion ops l :: k)(hk:fr.kind≠.early){f:FuncId}{xs:Array Value}(h:s.runT P w #[]=(.ok (.enter f xs) w1,es)) :
  stepG.apply P true fr C none s w=.go (gor (Frame.enter P f xs .normal) (fr :: C)) w1 (seen P fr.fn es):=by
 have hk':(fr.kind == CallKind.early)=false:=by simpa using hk
 unfold stepG.apply;rw[if_pos rfl,h];simp only[hk',Bool.false_eq_true,if_false,GStep.after,hc];rfl
theorem apply_halt {ops:Array Oper}{l:List Nat}{k:List Item}(hc:fr.todo=.inRegion ops l :: k)(hk:fr.kind≠.early)(hp:Plain P fr){e:Halt}(he:HaltOk e)(h:s.runT P w #[]=(.halt e w1,es)) :
  Bad P C (stepG.apply P true fr C none s w):=by
 have hk':(fr.kind == CallKind.early)=false:=by simpa using hk
 unfold stepG.apply;rw[if_pos rfl,h];simp only[hk',Bool.false_eq_true,if_false];cases e with
 | panic v=>
  simp only[GStep.after];obtain⟨⟨ch,h1⟩,h2⟩:=raise_plain hp [{ v,recovered:=false }];exact .inr ⟨_,ch,_,_,rfl,h1,h2⟩
 | stuck m=>exact .inl trivial
 | unsupported u=>
  cases u with
  | initOrder g=>exact he.elim
  | _=>exact .inl trivial
 | _=>exact he.elim
end
theorem eval_suf (s:List Item)(fr:Frame):(suf s fr).eval=fr.eval:=by funext o;cases o<;>rfl
theorem op_step (hL:Lst P FN){fr FR:Frame}(x:FrR P FN β fr FR)(hok:OkFr P FN fr){ops:Array Oper}{i:Nat}{rest:List Nat}{k:List Item}(hm:fr.mode=.run)(hc:fr.todo=.inRegion ops (i :: rest) :: k){w W:World}(hw:WR FN β w W) :
  (∃ups fr' w' es,(∀u∈ups,OkFr P FN u)/\ups.length<=1/\OkFr P FN fr'/\(ups≠[]->AtOp fr')/\w.drawn<=w'.drawn/\w'.tape=w.tape/\
    (∀m tp s C,Agree tp w.tape w.drawn w'.drawn->stepG P m (gor (suf s fr) C) (tpd w tp)=.go (gorL (ups++suf s fr' :: C)) (tpd w' tp) es)/\
    (Tp w W->∃(γ:Ren P.globals.size) (UPS:List Frame) (FR':Frame) (W':World) (ES:Array Event),FrsR P FN γ ups UPS/\FrR P FN γ fr' FR'/\RunR FN β γ w W w' W'/\
     (∀m s C,stepG P m (gor (suf s FR) C) W=.go (gorL (UPS++suf s FR' :: C)) W' ES)/\∀e∈ES,EvR γ w' W' e))\/
   ∀m s C,Bad P C (stepG P m (gor (suf s fr) C) w):=by
 have hA:AtOp fr:=⟨hm,ops,i,rest,k,hc⟩;have hmR:FR.mode=.run:=x.mode.trans hm;have hcR:FR.todo=.inRegion ops (i :: rest) :: k:=x.todo.trans hc;have hAR:AtOp FR:=⟨hmR,ops,i,rest,k,hcR⟩;have hcS:∀s,(suf s fr).todo=.inRegion ops (i :: rest) :: (k++s):=λs=>by simp[suf,hc]
 have hcSR:∀s,(suf s FR).todo=.inRegion ops (i :: rest) :: (k++s):=λs=>by simp[suf,hcR]
 have hy:=yielded_rel x.tmps ops;by_cases hun:((ops[i]?).map (Region.wanted · (yielded ops fr.tmps))).getD false=false
 ·refine .inl ⟨[],fr.finish undef,w,#[],λu hu=>by (cases hu),Nat.zero_le _,finish_ok hok hA _,λh=>absurd rfl h,Nat.le_refl _,rfl,λm tp s C _=>?_,λht=>⟨β,[],FR.finish undef,W,#[],.nil,finish_rel x hA VR.undef,.refl hw ht,λm s C=>?_,λe he=>by simp at he⟩⟩
  ·rw[stepG_unwanted (fr:=suf s fr) hm (hcS s) hun,finish_suf hA];rfl
  ·rw[stepG_unwanted (fr:=suf s FR) hmR (hcSR s) (by show ((ops[i]?).map (Region.wanted · (yielded ops FR.tmps))).getD false=false;rw[←hy];exact hun),finish_suf hAR];rfl
 ·cases ho:ops[i]? with
  | none=>rw[ho] at hun;simp at hun
  | some o=>
   rw[ho] at hun;simp only[Option.map_some,Option.getD_some,Bool.not_eq_false] at hun;have hokO:okOp P FN o=true:=by
    have:=hok.ok;rw[hc] at this;simp only[List.all_cons,Bool.and_eq_true,okItem] at this;exact all_get' this.1 ho
   have hS:=rel_execOp hokO hL.call x.opn;have st:∀m s C w0,stepG P m (gor (suf s fr) C) w0=stepG.apply P true (suf s fr) C none (execOp fr.eval o) w0:=λm s C w0=>by
    rw[stepG_wanted (fr:=suf s fr) hm (hcS s) hok.round ho hun,eval_suf]
   have stR:∀m s C w0,stepG P m (gor (suf s FR) C) w0=stepG.apply P true (suf s FR) C none (execOp FR.eval o) w0:=λm s C w0=>by
    rw[stepG_wanted (fr:=suf s FR) hmR (hcSR s) (x.round.1.trans hok.round) ho (by show Region.wanted o (yielded ops FR.tmps)=true;rw[←hy];exact hun),eval_suf]
   cases hr:(execOp fr.eval o).runT P w #[] with
   | mk r es=>
    cases r with
    | halt e w1=>
     refine .inr λm s C=>?_
     rw[st];exact apply_halt (hcS s) x.kind.1 ⟨hok.defers,hok.plain.fn⟩ (hS.halts w W _ _ _ _ hw hr) hr
    | ok n w1=>
     obtain⟨hd,htp,hloc⟩:=hS.local_ w W _ _ _ _ hw hr;obtain⟨γ0,N0,W0,ES0,_,hN0,_,_⟩:=hS.run w (tpd W (tapeFor W w)) #[] #[] n w1 es (hw.heap rfl rfl) (tp_back w W) hr;cases hN0 with
     | @value v V0 hv=>
      refine .inl ⟨[],fr.finish v,w1,seen P fr.fn es,λu hu=>by (cases hu),Nat.zero_le _,finish_ok hok hA _,λh=>absurd rfl h,hd,htp,λm tp s C ha=>?_,λht=>?_⟩
      ·rw[st,apply_value (hcS s) x.kind.1 (hloc tp ha),finish_suf hA];rfl
      ·obtain⟨γ,N,W1,ES1,h1,h2,h3,h4⟩:=hS.run w W #[] #[] _ w1 es hw ht hr;cases h2 with
       | @value _ V hv'=>
        refine⟨γ,[],FR.finish V,W1,seen P FR.fn ES1,.nil,finish_rel (x.mono h3.le) hA hv',h3,λm s C=>?_,λe he=>?_⟩
        ·rw[stR,apply_value (hcSR s) (show FR.kind≠.early by rw[x.kind.2];exact x.kind.1) h1,finish_suf hAR];rfl
        ·exact(h4 e (seen_sub he)).resolve_left (by simp)
     | skip=>
      refine .inl ⟨[],fr.finish undef,w1,seen P fr.fn es,λu hu=>by (cases hu),Nat.zero_le _,finish_ok hok hA _,λh=>absurd rfl h,hd,htp,λm tp s C ha=>?_,λht=>?_⟩
      ·rw[st,apply_skip (hcS s) x.kind.1 (hloc tp ha),finish_suf hA];rfl
      ·obtain⟨γ,N,W1,ES1,h1,h2,h3,h4⟩:=hS.run w W #[] #[] _ w1 es hw ht hr;cases h2 with
       | skip=>
        refine⟨γ,[],FR.finish undef,W1,seen P FR.fn ES1,.nil,finish_rel (x.mono h3.le) hA VR.undef,h3,λm s C=>?_,λe he=>?_⟩
        ·rw[stR,apply_skip (hcSR s) (show FR.kind≠.early by rw[x.kind.2];exact x.kind.1) h1,finish_suf hAR];rfl
        ·exact(h4 e (seen_sub he)).resolve_left (by simp)
     | @enter f xs XS0 hf hb hx=>
      refine .inl ⟨[Frame.enter P f xs .normal],fr,w1,seen P fr.fn es,λu hu=>by rw[List.mem_singleton.1 hu];exact(enter_rel hb (hL.good f hf hb) hx).2,Nat.le_refl _,hok,λ_=>hA,hd,htp,λm tp s C ha=>?_,λht=>?_⟩
      ·rw[st,apply_enter (hcS s) x.kind.1 (hloc tp ha)];rfl
      ·obtain⟨γ,N,W1,ES1,h1,h2,h3,h4⟩:=hS.run w W #[] #[] _ w1 es hw ht hr;cases h2 with
       | @enter _ _ XS hf' hb' hx'=>
        refine⟨γ,[Frame.enter P f XS .normal],FR,W1,seen P FR.fn ES1,.cons (enter_rel hb (hL.good f hf hb) hx').1 .nil,x.mono h3.le,h3,λm s C=>?_,λe he=>?_⟩
        ·rw[stR,apply_enter (hcSR s) (show FR.kind≠.early by rw[x.kind.2];exact x.kind.1) h1];rfl
        ·exact(h4 e (seen_sub he)).resolve_left (by simp)
def one (vs:Array Value):Value:=if h:vs.size=1 then vs[0] else .tuple vs
def resV (fn:Func)(tmps:Array Value):Value:=one (fn.results.map λ| .tmp t=>tmps.getD t undef | .cell _ _=>undef)
theorem res_tmps {rs:Array ResultVar}(h:rs.all okRes=true):∃ts:Array Tmp,rs=ts.map .tmp:=by
 refine⟨rs.map λ| .tmp t=>t | .cell a _=>a,?_⟩;apply Array.ext_getElem?;intro i;simp only[Array.getElem?_map];cases hi:rs[i]? with
 | none=>rfl
 | some r=>
  have:=all_get' h hi;cases r with
  | tmp t=>rfl
  | cell a t=>cases this
theorem results_eq {fn:Func}(h:fn.results.all okRes=true)(tmps:Array Value):results fn tmps=.pure (resV fn tmps):=by
 obtain⟨ts,hts⟩:=res_tmps h;unfold results resV;show (Array.mapM _ fn.results >>= λvs=>(pure (one vs):Sem Value))=_;rw[hts,Array.mapM_map];show (Array.mapM (λt=>(pure (tmps.getD t undef):Sem Value)) ts >>= _)=_;rw[Array.mapM_pure,Array.map_map];rfl
theorem resV_rel {fn:Func}{tmps TMPS:Array Value}(h:ArrR FN β tmps TMPS):VR FN β (resV fn tmps) (resV fn TMPS):=by
 have key:ArrR FN β (fn.results.map λ| .tmp t=>tmps.getD t undef | .cell _ _=>undef) (fn.results.map λ| .tmp t=>TMPS.getD t undef | .cell _ _=>undef):=by
  refine⟨by simp,λi a A ha hA=>?_⟩;simp only[Array.getElem?_map,Option.map_eq_some_iff] at ha hA;obtain⟨r,hr,rfl⟩:=ha;obtain⟨r',hr',rfl⟩:=hA;rw[hr] at hr';cases hr';cases r with
  | cell a t=>exact VR.undef
  | tmp t=>
   show VR FN β (tmps.getD t undef) (TMPS.getD t undef);rw[Array.getD_eq_getD_getElem?,Array.getD_eq_getD_getElem?];cases hv:tmps[t]? with
   | none=>rw[h.get_none hv];exact VR.undef
   | some v=>
    obtain⟨V,hV,hR⟩:=h.get hv;rw[hV];exact hR
 unfold resV one;have hs:=key.1;split
 ·rename_i h1;rw[dif_pos (hs.symm.trans h1)];exact key.2 0 _ _ (Array.getElem?_eq_getElem _) (Array.getElem?_eq_getElem _)
 ·rename_i h1;rw[dif_neg (λe=>h1 (hs.trans e))];exact VR.tuple' key
theorem leave_step {fr:Frame}{fn:Func}(hm:fr.mode=.returning)(hd:fr.defers=[])(hk:fr.kind=.normal)(hf:P.funcs[fr.fn]? = some fn)(hr:fn.results.all okRes=true)(m:Bool)(c:Frame)(C:List Frame)(w:World) :
  stepG P m (gor fr (c :: C)) w=.go (gor (c.finish (resV fn fr.tmps)) C) w #[]:=by
 cases fr;simp only at hm hd hk hf;subst hm hd hk;have hs:∀f,seen P f #[]=#[]:=λf=>by simp[seen]
 simp[stepG,unwind,gor,hf,results_eq hr,Sem.runT,GStep.after,doReturn,hs,Sem.run]
/- One step of a private goroutine, in company as alone; bad ends never come back. -/
def IsStop (b:Bool)(fs:List Frame):Prop:=∃fr,fs=[fr]/\(b=true/\fr.todo=[]/\fr.mode=.run\/fr.mode=.returning)
def Al (b:Bool)(s:List Item):Prop:=b=true\/s=[]
def s0 (b:Bool):List Item:=if b then [mkr] else []
theorem al_s0 (b:Bool):Al b (s0 b):=by cases b<;>simp[Al,s0]
theorem s0_or (b:Bool):s0 b=[]\/s0 b=[mkr]:=by cases b<;>simp[s0]
theorem stk_app (s:List Item)(base ups:List Frame)(fr:Frame)(cs:List Frame):stk s base (ups++fr :: cs)=ups++suf (if cs.isEmpty then s else []) fr :: stk s base cs:=by
 induction ups with
 | nil=>rfl
 | cons u l ih=>
  have:(l++fr :: cs).isEmpty=false:=by cases l<;>rfl
  simp[stk,ih,this,suf_nil]
structure Nxt (b:Bool) (P:Program) (FN:FuncId->Bool) (fs:List Frame) (w:World) (fs':List Frame) (w':World):Prop where
 ne:fs'≠[]
 ok:OkStk P FN fs'
 le:w.drawn<=w'.drawn
 tape:w'.tape=w.tape
 step:∃es,∀m tp s base,Al b s->Agree tp w.tape w.drawn w'.drawn->stepG P m (gorL (stk s base fs)) (tpd w tp)=.go (gorL (stk s base fs')) (tpd w' tp) es
def SimR (b:Bool)(P:Program)(FN:FuncId->Bool)(β:Ren P.globals.size)(fs:List Frame)(w:World)(fs':List Frame)(w':World)(FS:List Frame)(W:World):Prop:=
 ∃(γ:Ren P.globals.size) (FS':List Frame) (W':World) (ES:Array Event),FrsR P FN γ fs' FS'/\RunR FN β γ w W w' W'/\
  (∀m s base,Al b s->stepG P m (gorL (stk s base FS)) W=.go (gorL (stk s base FS')) W' ES)/\∀e∈ES,EvR γ w' W' e
theorem red_step (b:Bool)(hL:Lst P FN){fs FS:List Frame}{w W:World}(hf:FrsR P FN β fs FS)(hne:fs≠[])(hok:OkStk P FN fs)(hns:¬IsStop b fs)(hw:WR FN β w W) :
  (∃fs' w',Nxt b P FN fs w fs' w'/\(Tp w W->SimR b P FN β fs w fs' w' FS W))\/∀m,Bad P (stk (s0 b) [c0] fs.tail) (stepG P m (gorL (stk (s0 b) [c0] fs)) w):=by
 cases hf with
 | nil=>exact absurd rfl hne
 | @cons fr FR cs CS x t=>
  have hO:=hok.all fr List.mem_cons_self;have hcsOk:∀c∈cs,OkFr P FN c:=λc hc=>hok.all c (List.mem_cons_of_mem _ hc)
  have hcsAt:∀c∈cs,AtOp c:=λc hc=>hok.at_ c hc
  have hem:CS.isEmpty=cs.isEmpty:=by cases t<;>rfl
  have okst:∀fr',OkFr P FN fr'->OkStk P FN (fr' :: cs):=λfr' h=>⟨λc hc=>by
   rcases List.mem_cons.1 hc with rfl|hc
   ·exact h
   ·exact hcsOk c hc,hcsAt⟩
  rcases hO.mode with hm|hm
  ·
   by_cases hnil:fr.todo=[]
   ·
    have hcs:cs≠[]\/b=false:=by
     cases b with
     | false=>exact .inr rfl
     | true=>exact .inl λe=>hns ⟨fr,by rw[e],.inl ⟨rfl,hnil,hm⟩⟩
    have hsx:∀s,Al b s->(if cs.isEmpty then s else ([]:List Item))=[]:=λs ha=>by
     rcases hcs with h|h
     ·cases cs with | nil=>exact absurd rfl h | cons _ _=>rfl
     ·rcases ha with h2 | rfl
      ·rw[h] at h2;cases h2
      ·simp
    have st:∀(f:Frame),f.todo=[]->f.mode=.run->f.roundOf=none->∀(m:Bool) C w0,stepG P m (gor f C) w0=.go (gor { f with mode:=.returning } C) w0 #[]:=λf h1 h2 h3 m C w0=>by
     cases f;simp only at h1 h2 h3;subst h1 h2 h3;simp[stepG,stepG.exec,gor]
    refine .inl ⟨{ fr with mode:=.returning } :: cs,w,⟨by simp,okst _ ⟨hO.ok,hO.defers,.inr rfl,hO.good,hO.kind,hO.round⟩,Nat.le_refl _,rfl,#[],λm tp s base hal _=>?_⟩,λht=>⟨β,{ FR with mode:=.returning } :: CS,W,#[],.cons ⟨x.fn,x.todo,x.tmps,rfl,x.kind,x.round,x.defers⟩ t,.refl hw ht,λm s base hal=>?_,λe he=>by simp at he⟩⟩
    ·simp only[stk,hsx s hal,suf_nil,gorL];exact st fr hnil hm hO.round m _ _
    ·simp only[stk,hem,hsx s hal,suf_nil,gorL];exact st FR (x.todo.trans hnil) (x.mode.trans hm) (x.round.1.trans hO.round) m _ _
   ·by_cases hc:ctl fr.todo=true
    ·rcases ctl_step x hm hO.ok hnil hc hO.round with⟨k',md,hmd,hk',h1,h2⟩ | hbad
     ·exact .inl ⟨{ fr with todo:=k',mode:=md } :: cs,w,⟨by simp,okst _ ⟨hk',hO.defers,hmd,hO.good,hO.kind,hO.round⟩,Nat.le_refl _,rfl,#[],λm tp s base _ _=>h1 m _ _ _⟩,λht=>⟨β,{ FR with todo:=k',mode:=md } :: CS,W,#[],.cons ⟨x.fn,rfl,x.tmps,rfl,x.kind,x.round,x.defers⟩ t,.refl hw ht,λm s base _=>h2 m _ _ _,λe he=>by simp at he⟩⟩
     ·refine .inr λm=>.inl (hbad m _ _ w ?_)
      cases cs with
      | nil=>exact s0_or b
      | cons _ _=>exact .inl rfl
    ·
     cases htd:fr.todo with
     | nil=>exact absurd htd hnil
     | cons it k=>
      rw[htd] at hc;have hAll:=hO.ok;rw[htd] at hAll;simp only[List.all_cons,Bool.and_eq_true] at hAll;match it,hc with
      | .code (.region id ops true),_=>
       have hq:∀tp,Agree tp w.tape w.drawn (w.drawn+1)->tp w.drawn (.order fr.fn id)=w.tape w.drawn (.order fr.fn id):=λtp h=>h _ (Nat.le_refl _) (Nat.lt_succ_self _) _
       refine .inl ⟨{ fr with todo:=.inRegion ops (Region.schedule (P.follows .mixedOrders) ops (w.tape w.drawn (.order fr.fn id))) :: k } :: cs,{ w with drawn:=w.drawn+1 },⟨by simp,okst _ ⟨by simpa[okItem,okCode] using hAll,hO.defers,hO.mode,hO.good,hO.kind,hO.round⟩,Nat.le_succ _,rfl,#[],λm tp s base _ ha=>?_⟩,λht=>⟨β,{ FR with todo:=.inRegion ops (Region.schedule (P.follows .mixedOrders) ops (w.tape w.drawn (.order fr.fn id))) :: k } :: CS,{ W with drawn:=W.drawn+1 },#[],.cons ⟨x.fn,rfl,x.tmps,x.mode,x.kind,x.round,x.defers⟩ t,run_draw hw ht,λm s base _=>?_,λe he=>by simp at he⟩⟩
       ·have:=draw_step (P:=P) (fr:=fr) hm htd hO.round m (if cs.isEmpty then s else []) (stk s base cs) (tpd w tp);simp only[tpd_tape,tpd_drawn,hq tp ha] at this;exact this
       ·have hqW:W.tape W.drawn (.order FR.fn id)=w.tape w.drawn (.order fr.fn id):=by rw[x.fn];have:=ht 0 (.order fr.fn id);simpa using this.symm
        have:=draw_step (P:=P) (fr:=FR) (x.mode.trans hm) (x.todo.trans htd) (x.round.1.trans hO.round) m (if CS.isEmpty then s else []) (stk s base CS) W;rw[hqW] at this;exact this
      | .inRegion ops (i :: rest),_=>
       rcases op_step hL x hO hm htd hw with⟨ups,fr',w',es,h1,hlen,h2,h3,h4,h5,h6,h7⟩|hbad
       ·refine .inl ⟨ups++fr' :: cs,w',⟨by simp,⟨λc hc=>?_,λc hc=>?_⟩,h4,h5,es,λm tp s base _ ha=>?_⟩,λht=>?_⟩
        ·rcases List.mem_append.1 hc with hc | hc
         ·exact h1 c hc
         ·exact(okst _ h2).all c hc
        ·cases ups with
         | nil=>exact hcsAt c (by simpa using hc)
         | cons u l=>
          have hl:l=[]:=by simp only[List.length_cons] at hlen;exact List.eq_nil_of_length_eq_zero (by omega)
          subst hl;rcases List.mem_cons.1 (show c∈fr' :: cs by simpa using hc) with rfl|hc
          ·exact h3 (by simp)
          ·exact hcsAt c hc
        ·rw[stk_app];exact h6 m tp _ _ ha
        ·obtain⟨γ,UPS,FR',W',ES,g1,g2,g3,g4,g5⟩:=h7 ht;refine⟨γ,UPS++FR' :: CS,W',ES,g1.app (.cons g2 (t.mono g3.le)),g3,λm s base _=>?_,g5⟩;rw[stk_app];exact g4 m _ _
       ·exact .inr λm=>hbad m _ _
  ·
   have hcs:cs≠[]:=λe=>hns ⟨fr,by rw[e],.inr hm⟩
   cases t with
   | nil=>exact absurd rfl hcs
   | @cons c C l L y t'=>
    have hA:=hcsAt c List.mem_cons_self;have hAC:AtOp C:=by
     obtain⟨h1,ops,i,rest,k,h2⟩:=hA;exact⟨y.mode.trans h1,ops,i,rest,k,y.todo.trans h2⟩
    have hg:=hO.good;unfold resGood at hg;cases hfn:P.funcs[fr.fn]? with
    | none=>rw[hfn] at hg;cases hg
    | some fn=>
     rw[hfn] at hg;simp only[Bool.and_eq_true] at hg;have hem':L.isEmpty=l.isEmpty:=by cases t'<;>rfl
     refine .inl ⟨c.finish (resV fn fr.tmps) :: l,w,⟨by simp,⟨λd hd=>?_,λd hd=>hcsAt d (List.mem_cons_of_mem _ hd)⟩,Nat.le_refl _,rfl,#[],λm tp s base _ _=>?_⟩,λht=>⟨β,C.finish (resV fn FR.tmps) :: L,W,#[],.cons (finish_rel y hA (resV_rel x.tmps)) t',.refl hw ht,λm s base _=>?_,λe he=>by simp at he⟩⟩
     ·rcases List.mem_cons.1 hd with rfl | hd
      ·exact finish_ok (hcsOk c List.mem_cons_self) hA _
      ·exact hcsOk d (List.mem_cons_of_mem _ hd)
     ·rw[stk_cons2];simp only[stk,gorL];rw[leave_step hm hO.defers hO.kind hfn hg.1 m,finish_suf hA]
     ·rw[stk_cons2];simp only[stk,gorL];rw[leave_step (x.mode.trans hm) (x.defers.trans hO.defers) (x.kind.2.trans hO.kind) (by rw[x.fn];exact hfn) hg.1 m,finish_suf hAC]
def loneL (fs:List Frame)(w:World):Machine:=match fs with
 | []=>default
 | fr :: cs=>lone fr cs w
theorem step_loneL_go {fs fs':List Frame}{w w':World}{es:Array Event}(hf:fs≠[])(hf':fs'≠[])(h:stepG P true (gorL fs) w=.go (gorL fs') w' es):step P (loneL fs w)=.next (loneL fs' w'):=by
 cases fs with
 | nil=>exact absurd rfl hf
 | cons fr cs=>
  cases fs' with
  | nil=>exact absurd rfl hf'
  | cons fr' cs'=>exact step_lone_go (by have:stepG P true { frame:=fr,callers:=cs,status:=.running,dying:=none } w=_:=h;rw[this];rfl)
theorem step_loneL_end {fs:List Frame}{w:World}(hf:fs≠[])(h:isEnd (stepG P true (gorL fs) w)):∃o w',step P (loneL fs w)=.ended o w':=by
 cases fs with
 | nil=>exact absurd rfl hf
 | cons fr cs=>
  cases hs:stepG P true (gorL (fr :: cs)) w with
  | ended o w' es=>exact⟨o,w',step_lone_ended (by have:stepG P true { frame:=fr,callers:=cs,status:=.running,dying:=none } w=_:=hs;rw[this];rfl)⟩
  | _=>rw[hs] at h;exact h.elim
def panics:FrameMode->Bool
 | .panicking _=>true
 | _=>false
theorem panic_run:∀(n:Nat) (fs:List Frame) (fr:Frame) (w:World),(∀c∈fs,Plain P c)->Plain P fr->panics fr.mode=true->
  ∀(f:Frame) (cs:List Frame) (w':World),runN P n (lone fr (fs++[c0]) w)=.next (lone f cs w')->panics f.mode=true:=by
 intro n;induction n with
 | zero=>
  intro fs fr w _ _ hm f cs w' h;simp only[runN,Stepped.next.injEq,lone,Machine.mk.injEq,Array.mk.injEq,List.cons.injEq,Goroutine.mk.injEq] at h;rw[←h.2.1.1.1];exact hm
 | succ n ih=>
  intro fs fr w hfs hp hm f cs w' h;cases hmd:fr.mode with
  | panicking ch=>
   have hno:fr.catches P=false:=by
    unfold Frame.catches;cases hf:P.funcs[fr.fn]? with
    | none=>exact absurd hf hp.fn
    | some _=>rfl
   have pop:∀(c:Frame) (rest:List Frame),step P (lone fr (c :: rest) w)=.next (lone (c.raise ch) rest w):=λc rest=>by
    refine step_lone_go ?_;have hd:=hp.defers;cases fr;simp only at hd hmd hno;subst hd hmd;simp[stepG,unwind,hno]
   cases fs with
   | cons c l=>
    simp only[List.cons_append,runN,pop] at h;obtain⟨⟨ch',h1⟩,h2⟩:=raise_plain (hfs c List.mem_cons_self) ch;exact ih l _ w (λd hd=>hfs d (List.mem_cons_of_mem _ hd)) h2 (by rw[h1];rfl) f cs w' h
   | nil=>
    simp only[List.nil_append,runN,pop] at h;cases n with
    | zero=>
     simp only[runN,Stepped.next.injEq,lone,Machine.mk.injEq,Array.mk.injEq,List.cons.injEq,Goroutine.mk.injEq] at h;rw[←h.2.1.1.1];rfl
    | succ n=>
     obtain⟨o,w2,he⟩:=step_loneL_end (P:=P) (fs:=[c0.raise ch]) (w:=w) (by simp) (by simp[gorL,gor,stepG,unwind,callDeferred,c0,Frame.raise,isEnd]);simp only[runN] at h;rw[show step P (lone (c0.raise ch) [] w)=_ from he] at h;cases h
  | _=>rw[hmd] at hm;cases hm
theorem suf_plain {fr:Frame}(s:List Item)(h:Plain P fr):Plain P (suf s fr):=⟨h.defers,h.fn⟩
theorem stk_plain (s:List Item):∀(fs:List Frame),∃l,stk s [c0] fs=l++[c0]/\((∀c∈fs,Plain P c)->∀c∈l,Plain P c)
 | []=>⟨[],rfl,λ_ c hc=>by cases hc⟩
 | fr :: cs=>by
  obtain⟨l,h1,h2⟩:=stk_plain s cs;refine⟨suf (if cs.isEmpty then s else []) fr :: l,by rw[stk,h1];rfl,λh c hc=>?_⟩;rcases List.mem_cons.1 hc with rfl|hc
  ·exact suf_plain _ (h fr List.mem_cons_self)
  ·exact h2 (λd hd=>h d (List.mem_cons_of_mem _ hd)) c hc
theorem bad_run {b:Bool}{fs:List Frame}{w:World}(hne:fs≠[])(hp:∀c∈fs,Plain P c)(hb:Bad P (stk (s0 b) [c0] fs.tail) (stepG P true (gorL (stk (s0 b) [c0] fs)) w))(n:Nat)(f:Frame)(cs:List Frame)(w':World)
  (h:runN P (n+1) (loneL (stk (s0 b) [c0] fs) w)=.next (lone f cs w')):panics f.mode=true:=by
 cases fs with
 | nil=>exact absurd rfl hne
 | cons fr l=>
  have hne':stk (s0 b) [c0] (fr :: l)≠[]:=by simp[stk]
  rcases hb with hb|⟨fr1,ch,w1,es,h1,h2,h3⟩
  ·obtain⟨o,w2,he⟩:=step_loneL_end hne' hb;simp only[runN,he] at h;cases h
  ·have hs:=step_loneL_go (fs:=stk (s0 b) [c0] (fr :: l)) (fs':=fr1 :: stk (s0 b) [c0] l) hne' (by simp) h1;simp only[runN,hs] at h;obtain⟨l',e1,e2⟩:=stk_plain (P:=P) (s0 b) l;have h':runN P n (lone fr1 (stk (s0 b) [c0] l) w1)=.next (lone f cs w'):=h;rw[e1] at h';exact panic_run n l' fr1 w1 (e2 λc hc=>hp c (List.mem_cons_of_mem _ hc)) h3 (by rw[h2];rfl) f cs w' h'
end Go.Fw
end
