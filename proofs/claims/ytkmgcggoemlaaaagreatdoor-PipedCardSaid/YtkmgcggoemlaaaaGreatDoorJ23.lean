/-
  Part 23 of the common ground of this seat: what single parts show stands ahead of each.
  No condition.
-/
import Derived.Test.YtkmgcggoemlaaaaGreatDoorJ22
import Derived.Test.YtkmgcggoemlaaaaGreatDoorRows
import Derived.OpenShut
import Derived.ShutString
import Derived.ChangeOld
import Derived.ChangeSame
import Derived.ChangeVars
import Derived.JoinedOf
import Derived.LaidLaws
import Derived.LaidHandle
import Derived.Stop.Joined
import Derived.Test.YtkmgcggoemlaaaaGreatDoorJ21
import Derived.SevenTiedAt
set_option linter.unusedSimpArgs false
set_option linter.unusedVariables false
set_option linter.constructorNameAsVariable false
section
/- The frame of this seat's rows: what the arguments are, the variable that is laid, the witness, the end. -/
set_option maxRecDepth 100000
namespace Go.Proofs.YtkmgcggoemlaaaaGreatDoor
open Go Go.Fw Go.Conc Go.RowKit Go.Fwm Go.ChangeShapes Go.WideShapes Go.ChangeAt
theorem rl_and {H:Type}{enc:TypeId × Value->H}{a:Assume}{C:Checked}{os:Os}{f:FuncId}{fn:Func}{s:ChangeSpec}{conds:List PathCond}{apart fresh handsOn again:Bool}{X:World->Array Value->Prop}
  (hX:∀(w w':World) (args:Array Value),w.heap=w'.heap->X w args->X w' args)
  (own:ownKnob C.prog.godebug=none) (started:os.Started) (hfn:C.prog.funcs[f]? = some fn)
  (witness:∃(w:World) (tape:Tape) (i:Input),w.os=os/\(w.forCall tape i).Shaped C.prog/\i.vars=[]/\Input.okWide C.prog (w.forCall tape i) .any w.heap.size f i/\
   ((s.pre enc C.prog fn conds apart (w.forCall tape i).memory i.args/\X (w.forCall tape i).memory i.args)/\sizedMet enc C.prog fn (OpenSpec.ofChange s) apart (w.forCall tape i).memory i.args)/\a.holds C.prog (lone (Frame.enter C.prog f i.args .normal) [] (w.forCall tape i)))
  (runs:∀(W:World) (base:Nat) (args:Array Value) (ds gs:List (DataW H)) (before:List MemPlace),(∀(j:Nat) t v,fn.params[j]? = some t->args[j]? = some v->Value.okWide C.prog W .any base t v)->
   DataW.Whole enc C.prog fn.params.toList s.vars apart W args.toList ds gs before->X W args->W.ShapedOpen C.prog->
   ∃M last o w' t',runNT C.prog (M+1) (solo (G (Frame.enter C.prog f args .normal) []) W) #[]=(.ended o w',t')/\runN C.prog M (solo (G (Frame.enter C.prog f args .normal) []) W)=.next last/\
    step C.prog last=.ended o w'/\Conc.Good C.prog (λv W'=>s.post enc C.prog fn apart fresh handsOn again W args v W') last o w' t') :
  ReturnsInLeavingWide a C os f .any (λw args=>(s.pre enc C.prog fn conds apart w args/\X w args)/\sizedMet enc C.prog fn (OpenSpec.ofChange s) apart w args) (s.post enc C.prog fn apart fresh handsOn again):=by
 refine returnsInLeavingWide_of_good own started witness ?_;intro w tape i _ hsh _ hok hpre _;obtain⟨_,_,_,fn',hfn',_,_,_,_,hval⟩:=hok;have e:fn'=fn:=Option.some.inj (hfn'.symm.trans hfn);subst e;obtain⟨⟨⟨ds,gs,before,hw,hc⟩,hx⟩,hz⟩:=hpre;have hw':=DataW.Whole.of_heap (w':=w.forCall tape i) (by rfl) hw;obtain⟨M,last,o,w',t',h1,h2,h3,h4⟩:=runs (w.forCall tape i) w.heap.size i.args ds gs before hval hw' (hX _ _ _ (by rfl) hx) hsh;exact⟨M,last,o,w',t',h1,h2,h3,h4.mono λv hp=>ChangeSpec.post_blind hp⟩
theorem own:ownKnob Tryz.prog.godebug=none:=by kernel_rfl
theorem laidOut:laidOutB Tryz.prog=true:=by kernel_rfl
theorem et:Tryz.prog.globalNamed "errors.errorType" = some 0:=by kernel_rfl
theorem rt:(Tryz.prog.cutTypes.find? (·.1 == "internal/reflectlite.rtype")).map (·.2)=some 133:=by kernel_rfl
theorem size_:Tryz.prog.types.size=209:=by kernel_rfl
theorem oneRow:((List.range 209).filter λt=>Tryz.prog.rowNamed t [101,114,114,111,114])=[27]:=by kernel_rfl
theorem glob2:Tryz.prog.globals.size=2:=by kernel_rfl
def laidL:List (String × DataW Unit):=[("errors.errorType",Rows.laid_errors_errorType)]
theorem handle_of_laid {W:World}(h:laidMetH Tryz.prog laidL W):GV W:=by
 have h':laidMet Tryz.prog [] W/\handlesMet Tryz.prog laidL W:=h;obtain⟨name,u,ty,e1,e2,e3,e4,e5⟩:=h'.2 _ (List.mem_singleton.2 rfl);have en:name=[101,114,114,111,114]:=(Option.some.inj e1).symm;subst en;obtain rfl:=Option.some.inj (rt.symm.trans e2);have hm:ty∈(List.range 209).filter λt=>Tryz.prog.rowNamed t [101,114,114,111,114]:=List.mem_filter.2 ⟨List.mem_range.2 (by rw[←size_];exact e3),e4⟩
 rw[oneRow] at hm;obtain rfl:=List.mem_singleton.1 hm;have hh:typeHandle Tryz.prog 27=.pointer (some ⟨2,27,none⟩):=by kernel_rfl
 rw[hh] at e5;unfold GV;simpa using World.var?_cell et e5 0
noncomputable def laidWorld (os:Os):World:=
 let w0:=World.holding Tryz.prog os ⟨#[],#[],[]⟩
 {w0 with heap:=w0.heap.modify 0 fun
   | .cells _ t frozen=>.cells #[.iface 133 (.agg #[.pointer (some ⟨2,27,none⟩)])] t frozen
   | o=>o }
theorem laidWorld_met (os:Os)(args:Array Value):laidMetH Tryz.prog laidL ((laidWorld os).forCall (λ_ _=>0) ⟨#[],args,[]⟩).memory:=
 laidMetH_of_parts (laidMet_nil _ _) (by kernel_rfl)
theorem shaped2 {W:World}(h:W.ShapedOpen Tryz.prog):∃c t fr,W.heap[2]? = some (.cells c t fr):=by
 have h0:((begin Tryz.prog (λ_ _=>0) default).world.heap[2]?).map isCells=some true:=by kernel_rfl
 obtain⟨c,t,fr,e⟩:=isCells_some h0;obtain⟨o,o0,h1,h2,h3⟩:=h.2 2 (by rw[glob2];exact Nat.le_refl _) (Array.getElem?_eq_some_iff.1 e).1;have hl:World.looseAt (2-Tryz.prog.globals.size)=false:=by rw[glob2];rfl
 rw[hl] at h3;rw[e] at h2;cases h2;have h4:o=_:=h3;exact⟨c,t,fr,h1.trans (by rw[h4])⟩
structure SB (W:World) (a:Option Addr) (len cap:Nat) (bs:List UInt8):Prop where
 len_:bs.length=len
 bytes:Bytes W a bs
 le:len<=cap
 cap_le:cap<=maxLen
 nil_:a=none->cap=0
 cells:∀x,a=some x->∃c t fr,W.heap[x.block]? = some (.cells c t fr)
theorem shape_cells {W:World}{b:Nat}{x:TypeId × Nat}(h:W.shape? b=some x):∃c t fr,W.heap[b]? = some (.cells c t fr):=by
 unfold World.shape? at h;cases ho:W.heap[b]? with
 | none=>rw[ho] at h;cases h
 | some o=>
  rw[ho] at h;cases o with
  | cells c t fr=>exact⟨c,t,fr,rfl⟩
  | _=>cases h
theorem has_of {W:World}{base:Nat}{t e:TypeId}{x:Addr}{len cap:Nat}(ht:Tryz.prog.underlying t=some (.slice e))(h:Value.okWide Tryz.prog W .any base t (.slice (some x) len cap)):len<=cap/\x.spot=none/\∃c t fr,W.heap[x.block]? = some (.cells c t fr):=by
 simp only[Value.okWide,ht,Cell.okWide,Cell.ok] at h;obtain⟨h1,_,_,h3,r,n,h4,_⟩:=h;exact⟨h1,h3,shape_cells h4⟩
theorem arg22 {H:Type}{enc:TypeId × Value->H}{W:World}{base:Nat}{v:Value}{d:DataW H}{p:List MemPlace}(hv:Value.okWide Tryz.prog W .any base 22 v)(h0:DataW.Trod enc Tryz.prog W 0 (λ_=>true) true 22 v d p) :
  ∃a len cap bs,v=.slice a len cap/\SB W a len cap bs:=by
 obtain⟨a,len,cap,rfl⟩:=okWide_slice Tryz.underlying22 hv;obtain⟨fuel,hf⟩:=h0;rcases open_ints Tryz.underlying22 Tryz.underlying5 (by kernel_rfl) hf with⟨hcs,_⟩|⟨x,l,c,zs,hcs,_,hl,hm,hz,_,hcell,hwz⟩
 ·simp[Value.cells] at hcs;obtain⟨rfl,rfl,rfl⟩:=hcs;exact⟨none,0,0,[],rfl,rfl,Bytes.nil _ _,Nat.le_refl _,Nat.zero_le _,λ_=>rfl,λx e=>by cases e⟩
 ·simp[Value.cells] at hcs;obtain⟨rfl,rfl,rfl⟩:=hcs;obtain⟨_,hsp,hc⟩:=has_of Tryz.underlying22 hv;obtain⟨b,off,spot⟩:=x;obtain rfl:spot=none:=hsp;simp at hz;refine⟨_,len,cap,(zs.take len).map λn=>UInt8.ofNat n.toNat,rfl,by simp;omega,λi hi=>⟨b,off,rfl,?_⟩,hl,hm,λe=>(by cases e),λx e=>by cases e;exact hc⟩;simp only[List.length_map,List.length_take] at hi;have hil:i<zs.length:=by omega
  have h1:=hcell i hil;have e:(⟨b,off,none⟩:Addr).add i=⟨b,off+i,none⟩:=by unfold Addr.add;split<;>simp_all
  rw[e] at h1;rw[h1];have hw:=hwz zs[i] (List.getElem_mem _);have hr:0<=zs[i]/\zs[i]<=255:=by
   simp[Lit.wf,IntKind.min,IntKind.max,IntKind.signed,IntKind.bits] at hw;exact hw
  simp[hil];omega
def ArgOk (W:World)(v:Value):Prop:=(∃k n,v=.int k n)\/∃a l c,v=.slice a l c/\∀x,a=some x->∃c t fr,W.heap[x.block]? = some (.cells c t fr)
theorem law_done {f:FuncId}{fn:Func}{t:Tmp}{a:Act}{td:List Item}{W w:World}{Post:Value->World->Prop}{Ch:List Nat}(hf:Tryz.prog.funcs[f]? = some fn)(hr:fn.results=#[.tmp t])(hi:Tryz.prog.inits.idxOf? f=none)(hd:a.defers=[])(hv:a.eval (.tmp t)=.bool true)
  (hpost:∀W',Below W.heap.size W W'->Post (.bool true) W'):CEnds Tryz.prog FN W.heap.size W Post Ch [({ (bas f .normal).at a td with mode:=.returning }:Frame)] w:=by
 refine CEnds.done rfl hd rfl hf (by rw[hr];simp[okRes]) hi ?_;intro β V W' hV hw h1 h2 h3 h4 h5;have e:({ (bas f .normal).at a td with mode:=.returning }:Frame).tmps.getD t undef=.bool true:=hv;rw[res_one hr,e] at hV;cases hV;exact hpost W' ⟨h3,h5,h4,h2,h1⟩
end Go.Proofs.YtkmgcggoemlaaaaGreatDoor
end
section
/- Tools for the laws: flashes and what is applied to them, while the arguments stand. -/
namespace Go.Proofs.YtkmgcggoemlaaaaGreatDoor
open Go Go.Fw Go.Conc Go.RowKit Go.Fwm
structure Kp (w V:World):Prop where
 size:w.heap.size+1<V.heap.size
 old:∀b,b<w.heap.size->V.heap[b]? = w.heap[b]?
theorem Kp.gv {w V:World}(h:Kp w V)(hg:GV w):GV V:=(World.cell?_of_block (w:=w) (h.old 0 hg.lt)).trans hg
theorem Kp.bytes {w V:World}(h:Kp w V){A:Option Addr}{zs:List UInt8}(hx:Bytes w A zs):Bytes V A zs:=hx.keep λa _ hlt=>h.old _ hlt
theorem Kp.next {w V V':World}(h:Kp w V)(hs:V.heap.size<=V'.heap.size)(ho:∀b,b<w.heap.size->V'.heap[b]? = V.heap[b]?):Kp w V':=⟨Nat.lt_of_lt_of_le h.size hs,λb hb=>(ho b hb).trans (h.old b hb)⟩
theorem Kp.below {w V V':World}(h:Kp w V)(k:Below V.heap.size V V'):Kp w V':=h.next k.size λb hb=>k.block b (by have:=h.size;omega)
theorem Kp.tpd {w V:World}(h:Kp w V)(tp:Tape):Kp w (Go.Fw.tpd V tp):=⟨h.size,h.old⟩
theorem FRep.tpd {w:World}{X:Nat->Prop}{pf bf be:Nat}{f:Fl}(h:FRep w X pf bf be f)(tp:Tape):FRep (Go.Fw.tpd w tp) X pf bf be f:=
 h.only (F:=λ_=>False) ⟨Nat.le_refl _,λ_ _ _=>rfl⟩ λb x=>x.elim
end Go.Proofs.YtkmgcggoemlaaaaGreatDoor
end
section
/- The tied card of a row that can start goroutines. -/
namespace Go.Proofs.YtkmgcggoemlaaaaGreatDoor
open Go
theorem card_goes (Lk:Looks){p:Pinned}{s:OpenSpec}{c:OpenClaim}(kinds:List LaidKind)(tests:Bool)(har:Bool × String)(lk goes:Bool)
  (hc:c.holds p s) (hw:c.wfByText s=true)
  (htie:c.laidByTextAt Lk p kinds tests)
  (hst:c.start=.entering) (hnb:c.noBlocks=false/\c.again=false) (hm:p.checked.prog.mainIs=some (har.1,har.2.toList)) (hn:(!har.1 && har.2.isEmpty && !lk)=false)
  (hl:∀f fn,p.checked.prog.funcNamed c.func=some f->p.checked.prog.funcs[f]? = some fn->lk=p.checked.prog.looks []/\∀(j:Nat) t,fn.params[j]? = some t->p.checked.prog.wantsStandIn t=false)
  (hg:goes=c.goesBy p.checked.prog) :
  Claim7.holds p (.plain s) { stood:={ row:=c,standIns:=[],harness:=har,looks:=lk },kinds:=[],alts:=[],goes:=goes,laidByText:=true,laidKinds:=kinds,laidTests:=tests,laidLooks:=Lk }:=by
 have h6:∀r:OpenClaim,Claim7.isSixth { stood:={ row:=r,standIns:=[],harness:=har,looks:=lk },kinds:=[] }=false:=λr=>by simpa[Claim7.isSixth] using hn
 exact⟨Claim7.tied_new_at Lk kinds tests (Claim7.new_of_sixth hc har lk hst hnb hm (h6 c) hl) hw,(λD hD=>by cases hD),htie,(λh=>by cases h),hg⟩
end Go.Proofs.YtkmgcggoemlaaaaGreatDoor
end
section
/- The law's image and wrong. -/
set_option maxRecDepth 100000
namespace Go.Proofs.YtkmgcggoemlaaaaGreatDoor
open Go Go.Fw Go.Conc Go.RowKit Go.Fwm
theorem image14 (w:World)(A:Option Addr)(n c:Nat):Calls Tryz.prog 14 #[.slice A n c] w λe w'=>e=.returned (.bool (decide (n<=4096)))/\w'=w:=by
 by_cases h:n<=4096
 ·have e:decide (n<=4096)=true:=by simp[h]
  rw[e];have h':¬((4096:Int)<(n:Int)):=by omega
  go_enter Tryz.func14,Tryz.ntmps14
  go_wp2
  go_ret
  exact⟨rfl,rfl⟩
 ·have e:decide (n<=4096)=false:=by simp[h]
  rw[e];have h':((4096:Int)<(n:Int)):=by omega
  go_enter Tryz.func14,Tryz.ntmps14
  go_wp2
  go_ret
  exact⟨congrArg (λb=>Ending.returned (.bool b)) (decide_eq_false (by omega)),rfl⟩
end Go.Proofs.YtkmgcggoemlaaaaGreatDoor
end
