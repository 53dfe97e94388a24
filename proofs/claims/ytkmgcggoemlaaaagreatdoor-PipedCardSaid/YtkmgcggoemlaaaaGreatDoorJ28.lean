/-
  Part 28 of the common ground of this seat: what single parts show stands ahead of each.
  No condition.
-/
import Derived.Test.YtkmgcggoemlaaaaGreatDoorJ27
set_option linter.unusedSimpArgs false
set_option linter.unusedVariables false
set_option linter.constructorNameAsVariable false
section
/- A loop over a function, in a network: the rules. -/
namespace Go.Fw
open Go Go.Conc Go.Net
variable {P:Program} {FN:FuncId->Bool}
def yldV (l:Nat):Value:=.func (.method "") #[.nilIface,.nilIface,.int .i64 (l:Int)] #[]
theorem yldV_rel {G:Nat}{β:Ren G}{l:Nat}{V:Value}(h:VR FN β (yldV l) V):V=.func (.yield l) #[] #[]:=by
 unfold yldV at h;generalize hl:(l:Int)=z at h;cases h with
 | yld m=>have:l=m:=Int.ofNat.inj hl;rw[this]
theorem bnd_rel {G:Nat}{β:Ren G}{f:FuncId}{ys:Array Value}{V:Value}(h:VR FN β (bnd f ys) V):∃YS:Array Value,ArrR FN β ys YS/\V=.func (.func f) #[] YS:=by
 unfold bnd at h;generalize hF:(f:Int)=fi at h;cases h with
 | @bound g _ YS g1 g2=>
  have:f=g:=Int.ofNat.inj hF;subst this;exact⟨YS,⟨g1,g2⟩,rfl⟩
theorem sor_loop {G:Nat}{β:Ren G}{r:Loop}{O:Obj}(h:SOR FN β (.loop r) O):∃R:Loop,O=.loop R/\R = { r with tmps:=R.tmps }/\ArrR FN β r.tmps R.tmps:=by
 cases O with
 | loop R=>exact⟨R,rfl,h⟩
 | _=>exact h.elim
theorem sor_def {G:Nat}{β:Ren G}{d:Option (List Deferred)}{O:Obj}(h:SOR FN β (.deferred d) O):O=.deferred d:=by
 cases O with
 | deferred D=>exact congrArg Obj.deferred h
 | _=>exact h.elim
def rfr (l:Nat)(f:FuncId)(a:Act)(td:List Item):Frame:={ fn:=f,tmps:=a.tmps,todo:=td,defers:=a.defers,mode:=.run,kind:=.normal,roundOf:=some l }
theorem rfr_rel {β:Ren P.globals.size}{l:Nat}{f:FuncId}{a:Act}{td:List Item}{FR:Frame}(h:FrR P FN β (rfr l f a td) FR):∃A:Act,FR=rfr l f A td/\ArrR FN β a.tmps A.tmps/\A.defers=a.defers:=by
 obtain⟨h1,h2,h3,h4,⟨h5,h6⟩,⟨_,h7⟩,h8⟩:=h;cases FR;simp only[rfr] at h1 h2 h3 h4 h5 h6 h7 h8;subst h1 h2 h4 h6 h7 h8;exact⟨⟨_,a.defers⟩,rfl,h3,rfl⟩
theorem rfr_frR {β:Ren P.globals.size}{l:Nat}{f:FuncId}{a A:Act}(td:List Item)(h:ArrR FN β a.tmps A.tmps)(hd:A.defers=a.defers):FrR P FN β (rfr l f a td) (rfr l f A td):=⟨rfl,rfl,h,rfl,⟨by simp[rfr],rfl⟩,⟨rfl,rfl⟩,hd⟩
theorem rfr_opn {β:Ren P.globals.size}{a A:Act}(h:ArrR FN β a.tmps A.tmps)(hd:A.defers=a.defers):OpnR FN β a.eval A.eval:=
 opn_at (P:=P) (b:=bas 0 .normal) (by simp[bas]) h hd
theorem foldl_rel {G:Nat}{β:Ren G}{xs XS:Array Value}(hx:ArrR FN β xs XS)(ps:Array Tmp){t T:Array Value}(h:ArrR FN β t T) :
  ArrR FN β ((ps.zip xs).foldl (λtmps (t,a)=>tmps.setIfInBounds t a) t) ((ps.zip XS).foldl (λtmps (t,a)=>tmps.setIfInBounds t a) T):=by
 obtain⟨ps⟩:=ps;obtain⟨xs⟩:=xs;obtain⟨XS⟩:=XS;simp only[List.zip_toArray,List.foldl_toArray'];have hl:LstR FN β xs XS:=by simpa using hx.list
 clear hx;induction ps generalizing xs XS t T with
 | nil=>simpa using h
 | cons p ps ih=>
  match xs,XS,hl with
  | [],[],_=>simpa using h
  | x :: xs,X :: XS,⟨a,b⟩=>simpa using ih (h.set a p) xs XS b
  | [],_ :: _,hl=>exact hl.elim
  | _ :: _,[],hl=>exact hl.elim
section
variable {K:Cfg} {C:Scr Tpe Msg->Prop} {ν:Nat->Option Nat} {i:Nat} {lp:Nat->Option Obj} {w:World} {b:Frame} {a:Act} {k:List Item} {cs:List Frame}
def vst (w:World):Pst:=⟨[default],w,λ_=>some (.cells #[] 0 (0,0))⟩
theorem vst_vac:Vac P FN (vst w):=λβ FS W hg=>by
 obtain⟨O,_,h⟩:=hg.lpr 0 _ rfl;unfold SOR at h;split at h<;>first | contradiction | exact h
def freshL (lp:Nat->Option Obj)(l r:Nat):Prop:=l≠r/\lp l=none/\lp r=none
theorem JC.enter (hD:∀fs w t,K.D fs (tpd w t)->K.D fs w)(hs:∀F,(∀t,C (F t))->C (.step F))(hi:∃s,C s){f:FuncId}{ys:Array Value}{t:Tmp}{ps:Array Tmp}{asg body:Code}(hv:a.eval (.tmp t)=bnd f ys)(hb:bodyOk P f=true)
  (h:∀l r,freshL lp l r->JC P FN K C ν i (Net.upd (Net.upd lp l (some (.deferred (some [])))) r (some (.loop { state:=.ready,pending:=none,fn:=b.fn,tmps:=a.tmps,params:=ps,assign:=asg,body:=body,defers:=l })))
   (Frame.enter P f (#[yldV r]++ys) .normal :: b.at ⟨a.tmps,{ target:=.collected l,args:=#[] } :: a.defers⟩ (.inRangeFunc r :: k) :: cs) w) :
  JC P FN K C ν i lp (b.at a (.code (.rangeFunc (.tmp t) ps asg body) :: k) :: cs) w:=by
 let S:Nat->Nat->Pst:=λl r=>open Classical in if freshL lp l r then ⟨Frame.enter P f (#[yldV r]++ys) .normal :: b.at ⟨a.tmps,{ target:=.collected l,args:=#[] } :: a.defers⟩ (.inRangeFunc r :: k) :: cs,w,Net.upd (Net.upd lp l (some (.deferred (some [])))) r (some (.loop { state:=.ready,pending:=none,fn:=b.fn,tmps:=a.tmps,params:=ps,assign:=asg,body:=body,defers:=l }))⟩ else vst w
 have Sg:∀l r,freshL lp l r->S l r=⟨Frame.enter P f (#[yldV r]++ys) .normal :: b.at ⟨a.tmps,{ target:=.collected l,args:=#[] } :: a.defers⟩ (.inRangeFunc r :: k) :: cs,w,Net.upd (Net.upd lp l (some (.deferred (some [])))) r (some (.loop { state:=.ready,pending:=none,fn:=b.fn,tmps:=a.tmps,params:=ps,assign:=asg,body:=body,defers:=l }))⟩:=λl r hf=>if_pos hf
 have Sb:∀l r,¬freshL lp l r->S l r=vst w:=λl r hf=>if_neg hf
 refine JC.own hD hs (by simp) S (λl r=>?_) (λtp β FS W hg ht=>?_) λl r=>?_
 ·by_cases hf:freshL lp l r
  ·rw[Sg l r hf];simp
  ·rw[Sb l r hf];simp[vst]
 ·have hrel:=hg.rel;cases hrel with
  | cons x tl=>
   rename_i CS;obtain⟨A,rfl,h1,h2,h3⟩:=frR_at x;have hV:=(opn_at (P:=P) (FN:=FN) h3 h1 h2).x (.tmp t) rfl;rw[hv] at hV;obtain⟨YS,hY,hAV⟩:=bnd_rel hV;have lpn:∀l,W.heap.size<=l->lp l=none:=λl hl=>by
    cases hx:lp l with
    | none=>rfl
    | some o=>
     obtain⟨O,e1,_⟩:=hg.lpr l o hx;have:=(Array.getElem?_eq_some_iff.1 e1).1;omega
   have hfr:freshL lp W.heap.size (W.heap.size+1):=⟨by omega,lpn _ (Nat.le_refl _),lpn _ (by omega)⟩;have hb':=hb;unfold bodyOk at hb';cases hfn:P.funcs[f]? with
   | none=>rw[hfn] at hb';cases hb'
   | some fn=>
    rw[hfn] at hb';simp only[Bool.and_eq_true,bne_iff_ne,ne_eq] at hb';obtain⟨c,hc⟩:=Option.isSome_iff_exists.1 hb'.2;obtain⟨W2,hW2⟩:∃W2,W2=(W.alloc (.deferred (some []))).alloc (.loop { state:=.ready,pending:=none,fn:=b.fn,tmps:=A.tmps,params:=ps,assign:=asg,body:=body,defers:=W.heap.size }):=⟨_,rfl⟩;have s2:W2.heap.size=W.heap.size+2:=by rw[hW2];show ((W.heap.push _).push _).size=_;simp
    have o2:∀B,B<W.heap.size->W2.heap[B]? = W.heap[B]?:=λB hB=>by
     rw[hW2];show ((W.heap.push _).push _)[B]? = _;rw[Array.getElem?_push,if_neg (by simp;omega),Array.getElem?_push,if_neg (by omega)]
    have n1:W2.heap[W.heap.size]? = some (.deferred (some [])):=by
     rw[hW2];show ((W.heap.push _).push _)[W.heap.size]? = _;rw[Array.getElem?_push,if_neg (by simp),Array.getElem?_push,if_pos rfl]
    have n2:W2.heap[W.heap.size+1]? = some (.loop { state:=.ready,pending:=none,fn:=b.fn,tmps:=A.tmps,params:=ps,assign:=asg,body:=body,defers:=W.heap.size }):=by
     rw[hW2];show ((W.heap.push _).push _)[W.heap.size+1]? = _;rw[Array.getElem?_push,if_pos (by simp)]
    have hyr:ArrR FN β (#[yldV (W.heap.size+1)]++ys) (#[.func (.yield (W.heap.size+1)) #[] #[]]++YS):=((ArrR.nil (FN:=FN) (β:=β)).push (.yld _)).app hY;refine⟨β,Frame.enter P f (#[.func (.yield (W.heap.size+1)) #[] #[]]++YS) .normal :: b.at ⟨A.tmps,{ target:=.collected W.heap.size,args:=#[] } :: A.defers⟩ (.inRangeFunc (W.heap.size+1) :: k) :: CS,W2,#[],W.heap.size,W.heap.size+1,?_,?_,λm=>?_,λe he=>by simp at he⟩
    ·simp only[Sg _ _ hfr];refine⟨.cons (enter_frR .normal (by simp) hb hyr) (.cons (at_frR _ h3 h1 (by rw[h2])) tl),⟨λb' B hb'=>by rw[o2 B ((hg.wr.lt hb').2)];exact hg.wr.blk b' B hb',hg.wr.gl,by rw[s2];have:=hg.wr.gr;omega⟩,λm om hm=>?_⟩;have hm':Net.upd (Net.upd lp W.heap.size (some (.deferred (some [])))) (W.heap.size+1) (some (.loop { state:=.ready,pending:=none,fn:=b.fn,tmps:=a.tmps,params:=ps,assign:=asg,body:=body,defers:=W.heap.size })) m=some om:=hm;by_cases e:m=W.heap.size+1
     ·subst e;rw[Net.upd_same] at hm';cases hm';exact⟨_,n2,rfl,h1⟩
     ·rw[Net.upd_ne _ _ e] at hm';by_cases e2:m=W.heap.size
      ·subst e2;rw[Net.upd_same] at hm';cases hm';exact⟨_,n1,rfl⟩
      ·rw[Net.upd_ne _ _ e2] at hm';obtain⟨O2,g1,g2⟩:=hg.lpr m om hm';exact⟨O2,(o2 m (Array.getElem?_eq_some_iff.1 g1).1).trans g1,g2⟩
    ·simp only[Sg _ _ hfr];refine⟨Ren.le_refl _,by omega,Nat.le_refl _,λB hB _ _=>o2 B hB,λb' B hb'=>.inl hb',λB hB=>?_,λB hB=>?_,λb' B hb' hf=>hf,by rw[hW2];rfl,by rw[hW2];rfl,by rw[hW2];rfl⟩
     ·by_cases e:B<W.heap.size
      ·have hB':Net.upd (Net.upd lp W.heap.size (some (.deferred (some [])))) (W.heap.size+1) (some (.loop { state:=.ready,pending:=none,fn:=b.fn,tmps:=a.tmps,params:=ps,assign:=asg,body:=body,defers:=W.heap.size })) B≠none:=hB;rw[Net.upd_ne _ _ (by omega),Net.upd_ne _ _ (by omega)] at hB';exact .inl hB'
      ·exact .inr (by omega)
     ·have hlt:B<W.heap.size:=Classical.byContradiction λhn=>hB (lpn B (by omega))
      show Net.upd (Net.upd lp W.heap.size (some (.deferred (some [])))) (W.heap.size+1) (some (.loop { state:=.ready,pending:=none,fn:=b.fn,tmps:=a.tmps,params:=ps,assign:=asg,body:=body,defers:=W.heap.size })) B≠none;rw[Net.upd_ne _ _ (by omega),Net.upd_ne _ _ (by omega)];exact hB
    ·have hk':(b.kind == CallKind.early)=false:=by simpa using h3
     have he:=Frame.eval_at b ⟨A.tmps,{ target:=.collected W.heap.size,args:=#[] } :: A.defers⟩ (.inRangeFunc (W.heap.size+1) :: k);have e2:∀D:List Deferred,(Act.mk A.tmps D).eval (.tmp t)=.func (.func f) #[] YS:=λD=>hAV
     simp only[Frame.at] at he;have hr:=rt_enter (P:=P) (w:=W) b.fn A.tmps ps asg body;rw[←hW2] at hr;simp only[gorL_cons,G,stepG,stepG.exec,Frame.at,hr,GStep.after,seen_nil];simp[stepG.apply,Sem.runT_eq,resolve,Deferred.ofValue,he,e2,invoke,callFunc,hfn,hb'.1,hc,hk',GStep.after,seen_nil];rfl
 ·by_cases hf:freshL lp l r
  ·rw[Sg l r hf];exact h l r hf
  ·rw[Sb l r hf];obtain⟨s,hs⟩:=hi;exact⟨s,.vac vst_vac,hs⟩
theorem JC.yield (hD:∀fs w t,K.D fs (tpd w t)->K.D fs w)(hs:∀F,(∀t,C (F t))->C (.step F)){fs:List Frame}{fr:Frame}{ops:Array Oper}{n l:Nat}{rest:List Nat}{o:Oper}{t:Tmp}{args:Array Operand}{ats:Array TypeId}{r:Loop}
  (hfr:fr.todo=.inRegion ops (n :: rest) :: k) (hm:fr.mode=.run) (ho:ops[n]? = some o) (hg:o.guard=none) (hop:o.op=.call { callee:=.value (.tmp t),args,argTypes:=ats }) (hv:fr.eval (.tmp t)=yldV l) (hx:args.all (okX FN)=true) (hl:lp l=some (.loop r)) (hsz:args.size=r.params.size)
  (h:JC P FN K C ν i lp (rfr l r.fn ⟨(r.params.zip (args.map fr.eval)).foldl (λtmps (t,a)=>tmps.setIfInBounds t a) r.tmps,[]⟩ [.code r.assign,.beginRound,.code r.body] :: fr :: cs) w) :
  JC P FN K C ν i lp (fr :: cs) w:=by
 refine JC.put hD hs (by simp) (fs':=rfr l r.fn ⟨(r.params.zip (args.map fr.eval)).foldl (λtmps (t,a)=>tmps.setIfInBounds t a) r.tmps,[]⟩ [.code r.assign,.beginRound,.code r.body] :: fr :: cs) (by simp) hl (o':=.loop r) (λβ FS W O hf hO hR=>?_) (by rw[upd_eq hl];exact h);cases hf with
 | cons x tl=>
  rename_i FR CS;obtain⟨R,rfl,hR1,hR2⟩:=sor_loop hR;have hop2:=x.opn;have hV:=hop2.x (.tmp t) rfl;rw[hv] at hV;have hAV:=yldV_rel hV;have hA:=hop2.arr hx;have hsz2:(args.map FR.eval).size=R.params.size:=by rw[hR1];simpa using hsz
  have hry:=rt_yield (P:=P) hO hsz2;have hk':(FR.kind == CallKind.early)=false:=by
   have h1:=x.kind.1;have h2:=x.kind.2;simp only[beq_eq_false_iff_ne,ne_eq];rw[h2];exact h1
  have htd:FR.todo=.inRegion ops (n :: rest) :: k:=x.todo.trans hfr;have hmd:FR.mode=.run:=x.mode.trans hm;refine⟨.loop R,rfr l R.fn ⟨(R.params.zip (args.map FR.eval)).foldl (λtmps (t,a)=>tmps.setIfInBounds t a) R.tmps,[]⟩ [.code R.assign,.beginRound,.code R.body] :: FR :: CS,seen P FR.fn (ev1 l),⟨hR1,hR2⟩,?_,λm=>?_,λe he=>.inr (seen_sub he)⟩
  ·refine .cons ?_ (.cons x tl);have e1:R.fn=r.fn:=by rw[hR1]
   have e2:R.params=r.params:=by rw[hR1]
   have e3:R.assign=r.assign:=by rw[hR1]
   have e4:R.body=r.body:=by rw[hR1]
   rw[e1,e2,e3,e4];exact rfr_frR _ (foldl_rel hA r.params hR2) rfl
  ·rw[wput_self hO];have hex:(execOp FR.eval o).runT P W #[]=(.ok (.round l R.fn ((R.params.zip (args.map FR.eval)).foldl (λtmps (t,a)=>tmps.setIfInBounds t a) R.tmps) R.assign R.body) W,ev1 l):=by
    rw[←hry];unfold execOp;simp[hop,resolve,Deferred.ofValue,hAV,invoke]
   cases FR with
   | mk fF tF tdF dF mF kF rF=>
    simp only at htd hmd hk' hex hAV;subst htd hmd;rw[gorL_cons];have hop3:∀c,o.op≠.defer c:=λc=>by rw[hop];simp
    cases rF with
    | none=>
     simp only[G,stepG,stepG.exec,ho,Option.map_some,Option.getD_some,wanted_plain hg,if_true,stepG.oper,Frame.oper?];unfold stepG.apply;simp only[if_true,hex,hk',Bool.false_eq_true,if_false,GStep.after];rfl
    | some lF=>
     simp only[G,stepG,stepG.exec,ho,Option.map_some,Option.getD_some,wanted_plain hg,if_true,stepG.oper,Frame.oper?];rw[hop];simp only;unfold stepG.apply;simp only[if_true,hex,hk',Bool.false_eq_true,if_false,GStep.after];rfl
theorem JC.begin_ (hD:∀fs w t,K.D fs (tpd w t)->K.D fs w)(hs:∀F,(∀t,C (F t))->C (.step F)){l:Nat}{f:FuncId}{r:Loop}(hl:lp l=some (.loop r))(hr:r.state=.ready)
  (h:JC P FN K C ν i (Net.upd lp l (some (.loop { r with state:=.busy }))) (rfr l f a k :: cs) w):JC P FN K C ν i lp (rfr l f a (.beginRound :: k) :: cs) w:=by
 refine JC.put hD hs (by simp) (fs':=rfr l f a k :: cs) (by simp) hl (o':=.loop { r with state:=.busy }) (λβ FS W O hf hO hR=>?_) h;cases hf with
 | cons x tl=>
  rename_i CS;obtain⟨A,rfl,h1,h2⟩:=rfr_rel x;obtain⟨R,rfl,hR1,hR2⟩:=sor_loop hR;have hst:R.state=.ready:=by rw[hR1];exact hr
  have hb:=rt_begin (P:=P) hO hst;refine⟨.loop { R with state:=.busy },rfr l f A k :: CS,seen P f (ev2 l),⟨by rw[hR1],hR2⟩,.cons (rfr_frR _ h1 h2) tl,λm=>?_,λe he=>.inl (seen_sub he)⟩;have hrt:((do Option.elim (some l) (stuck "beginRound: no round") Instr.beginRound;pure Next.skip):Sem Next).runT P W #[]=(.ok .skip (wput W l (.loop { R with state:=.busy })),ev2 l):=by
   simp only[Option.elim,Instr.beginRound,Instr.getLoop,getObj,setObj,bind,Sem.bind,pure,Sem.runT,hO,hst];rfl
  simp only[gorL_cons,G,stepG,stepG.exec,rfr];unfold stepG.apply;simp only[if_true];rw[hrt];rfl
theorem JC.end_ (hD:∀fs w t,K.D fs (tpd w t)->K.D fs w)(hs:∀F,(∀t,C (F t))->C (.step F)){l:Nat}{f:FuncId}{r:Loop}{c:Frame}(hl:lp l=some (.loop r))(hc:AtOp c)
  (h:JC P FN K C ν i (Net.upd lp l (some (.loop { r with state:=.ready,pending:=none }))) (c.finish (.bool true) :: cs) w):JC P FN K C ν i lp (rfr l f a [] :: c :: cs) w:=by
 refine JC.put hD hs (by simp) (fs':=c.finish (.bool true) :: cs) (by simp) hl (o':=.loop { r with state:=.ready,pending:=none }) (λβ FS W O hf hO hR=>?_) h;cases hf with
 | cons x tl=>
  cases tl with
  | cons y tl=>
   rename_i CF CS;obtain⟨A,rfl,h1,h2⟩:=rfr_rel x;obtain⟨R,rfl,hR1,hR2⟩:=sor_loop hR;have hb:=rt_end (P:=P) hO;refine⟨.loop { R with state:=.ready,pending:=none },CF.finish (.bool true) :: CS,seen P f (ev2 l),⟨by rw[hR1],hR2⟩,.cons (finish_rel y hc (.bool true)) tl,λm=>?_,λe he=>.inl (seen_sub he)⟩;simp only[gorL_cons,G,stepG,stepG.exec,rfr,hb,GStep.after,doReturn];rfl
theorem JC.over (hD:∀fs w t,K.D fs (tpd w t)->K.D fs w)(hs:∀F,(∀t,C (F t))->C (.step F)){l:Nat}{r:Loop}(hl:lp l=some (.loop r))(hr:r.state=.ready)(hp:r.pending=none)
  (h:JC P FN K C ν i (Net.upd lp l (some (.loop { r with state:=.exhausted }))) (b.at a k :: cs) w):JC P FN K C ν i lp (b.at a (.endRangeFunc l :: k) :: cs) w:=by
 refine JC.put hD hs (by simp) (fs':=b.at a k :: cs) (by simp) hl (o':=.loop { r with state:=.exhausted }) (λβ FS W O hf hO hR=>?_) h;cases hf with
 | cons x tl=>
  rename_i CS;obtain⟨A,rfl,h1,h2,h3⟩:=frR_at x;obtain⟨R,rfl,hR1,hR2⟩:=sor_loop hR;have hst:R.state=.ready:=by rw[hR1];exact hr
  have hpd:R.pending=none:=by rw[hR1];exact hp
  have hb:=rt_over (P:=P) hO hst hpd;refine⟨.loop { R with state:=.exhausted },b.at A k :: CS,seen P b.fn (ev2 l),⟨by rw[hR1],hR2⟩,.cons (at_frR _ h3 h1 h2) tl,λm=>?_,λe he=>.inl (seen_sub he)⟩;simp only[gorL_cons,G,stepG,stepG.exec,Frame.at,hb,GStep.after];simp
theorem JC.take (hD:∀fs w t,K.D fs (tpd w t)->K.D fs w)(hs:∀F,(∀t,C (F t))->C (.step F)){l:Nat}{fr:Frame}{D:List Deferred}(hm:fr.mode=.returning)(hd:fr.defers = { target:=.collected l,args:=#[] } :: D)(hl:lp l=some (.deferred (some [])))
  (h:JC P FN K C ν i (Net.upd lp l (some (.deferred none))) ({ fr with defers:=D } :: cs) w):JC P FN K C ν i lp (fr :: cs) w:=by
 refine JC.put hD hs (by simp) (fs':={ fr with defers:=D } :: cs) (by simp) hl (o':=.deferred none) (λβ FS W O hf hO hR=>?_) h;cases hf with
 | cons x tl=>
  rename_i FR CS;have hO2:=sor_def hR;subst hO2;have hb:=rt_take (P:=P) hO;have e3:FR.defers = { target:=.collected l,args:=#[] } :: D:=x.defers.trans hd;have e4:FR.mode=.returning:=x.mode.trans hm;refine⟨.deferred none,{ FR with defers:=D } :: CS,seen P FR.fn (ev2 l),rfl,.cons ⟨x.fn,x.todo,x.tmps,x.mode,x.kind,x.round,rfl⟩ tl,λm=>?_,λe he=>.inl (seen_sub he)⟩;cases FR;simp only at e3 e4;subst e3 e4;simp only[gorL_cons,G,stepG,unwind,hb,GStep.after];simp
end
theorem Clo.leaveR {J:List Frame->World->Prop}(hJ:Clo P FN J){fr b:Frame}{a:Act}{k:List Item}{cs:List Frame}{w:World}{fn:Func}{l:Nat}(hm:fr.mode=.returning)(hd:fr.defers=[])(hk:fr.kind=.normal)(hf:P.funcs[fr.fn]? = some fn)(hr:fn.results.all okRes=true)
  (h:J (b.at a (.endRangeFunc l :: k) :: cs) w):J (fr :: b.at a (.inRangeFunc l :: k) :: cs) w:=by
 refine hJ.one (by simp) (by simp) (λtp β FS W hfr hw ht=>?_) h;cases hfr with
 | cons x t=>
  cases t with
  | cons y t'=>
   obtain⟨A,rfl,h1,h2,h3⟩:=frR_at y;refine⟨β,b.at A (.endRangeFunc l :: k) :: _,W,#[],.cons (at_frR _ h3 h1 h2) t',.refl hw ht,λm=>?_,λe he=>by simp at he⟩;exact leave_step (x.mode.trans hm) (x.defers.trans hd) (x.kind.2.trans hk) (by rw[x.fn];exact hf) hr m _ _ W
end Go.Fw
end
section
/- Rules for a frame that runs a round. -/
namespace Go.Fw
open Go Go.Conc Go.Net
variable {P:Program} {FN:FuncId->Bool}
variable {J:List Frame->World->Prop} {l:Nat} {f:FuncId} {a:Act} {k:List Item} {cs:List Frame} {w w':World} {ops:Array Oper} {i n d:Nat} {rest:List Nat} {o:Oper} {fx:Nat->Value} {D:List Deferred} {v:Value}
theorem rfr_eval (A:Act)(td:List Item)(x:Operand):(rfr l f A td).eval x=A.eval x:=by cases x<;>rfl
theorem rfr_eval' (A:Act)(td:List Item):(rfr l f A td).eval=A.eval:=funext λx=>rfr_eval A td x
theorem rfr_atOp:AtOp (rfr l f a (.inRegion ops (i :: rest) :: k)):=⟨rfl,ops,i,rest,k,rfl⟩
theorem rfr_finish (ho:ops[i]? = some o)(v:Value):(rfr l f a (.inRegion ops (i :: rest) :: k)).finish v=rfr l f (a.put o.dst v) (.inRegion ops rest :: k):=by
 rw[finish_at (ops:=ops) (i:=i) (rest:=rest) (k:=k) rfl,ho];cases hd:o.dst<;>simp[rfr,putT,Act.put,hd]
theorem rfr_finish_fa (ho:ops[i]? = some o)(hd:o.dst=some d)(v:Value):(rfr l f (fa n fx D) (.inRegion ops (i :: rest) :: k)).finish v=rfr l f (fa n (up fx d v) D) (.inRegion ops rest :: k):=by
 rw[rfr_finish ho,hd,fa_put]
theorem Clo.rctl (hJ:Clo P FN J){td td':List Item}(h:∀(A:Act) (m:Bool) (C:List Frame) (W:World),stepG P m (gorL (rfr l f A td :: C)) W=.go (gorL (rfr l f A td' :: C)) W #[])(hn:J (rfr l f a td' :: cs) w):J (rfr l f a td :: cs) w:=by
 refine hJ.one (by simp) (by simp) (λtp β FS W hf hw ht=>?_) hn;cases hf with
 | cons x t=>
  obtain⟨A,rfl,h1,h2⟩:=rfr_rel x;exact⟨β,_,W,#[],.cons (rfr_frR td' h1 h2) t,.refl hw ht,λm=>h A m _ W,λe he=>by simp at he⟩
theorem Clo.rseq (hJ:Clo P FN J){x y:Code}(h:J (rfr l f a (.code x :: .code y :: k) :: cs) w):J (rfr l f a (.code (.seq x y) :: k) :: cs) w:=hJ.rctl (λA m C W=>by simp[gorL_cons,G,stepG,stepG.exec,rfr]) h
theorem Clo.rskip (hJ:Clo P FN J)(h:J (rfr l f a k :: cs) w):J (rfr l f a (.code .skip :: k) :: cs) w:=hJ.rctl (λA m C W=>by simp[gorL_cons,G,stepG,stepG.exec,rfr]) h
theorem Clo.rblock (hJ:Clo P FN J){id:Nat}{c:Code}(h:J (rfr l f a (.code c :: .inBlock id :: k) :: cs) w):J (rfr l f a (.code (.block id c) :: k) :: cs) w:=hJ.rctl (λA m C W=>by simp[gorL_cons,G,stepG,stepG.exec,rfr]) h
theorem Clo.rinBlock (hJ:Clo P FN J){id:Nat}(h:J (rfr l f a k :: cs) w):J (rfr l f a (.inBlock id :: k) :: cs) w:=hJ.rctl (λA m C W=>by simp[gorL_cons,G,stepG,stepG.exec,rfr]) h
theorem Clo.rregion (hJ:Clo P FN J){id:Nat}{ops:Array Oper}(h:J (rfr l f a (.inRegion ops (List.range ops.size) :: k) :: cs) w):J (rfr l f a (.code (.region id ops false) :: k) :: cs) w:=hJ.rctl (λA m C W=>by simp[gorL_cons,G,stepG,stepG.exec,rfr]) h
theorem Clo.rregion_end (hJ:Clo P FN J){ops:Array Oper}(h:J (rfr l f a k :: cs) w):J (rfr l f a (.inRegion ops [] :: k) :: cs) w:=hJ.rctl (λA m C W=>by simp[gorL_cons,G,stepG,stepG.exec,rfr]) h
theorem Clo.rcond (hJ:Clo P FN J){t:Tmp}{x y:Code}{v:Bool}(hc:a.eval (.tmp t)=.bool v)(h:J (rfr l f a (.code (if v then x else y) :: k) :: cs) w):J (rfr l f a (.code (.cond (.tmp t) x y) :: k) :: cs) w:=by
 refine hJ.one (by simp) (by simp) (λtp β FS W hf hw ht=>?_) h;cases hf with
 | cons z t'=>
  obtain⟨A,rfl,h1,h2⟩:=rfr_rel z;have hv:=(rfr_opn (P:=P) h1 h2).x (.tmp t) rfl;rw[hc] at hv;have hA:A.eval (.tmp t)=.bool v:=by
   generalize A.eval (.tmp t)=V at hv;cases hv;rfl
  refine⟨β,_,W,#[],.cons (rfr_frR _ h1 h2) t',.refl hw ht,λm=>?_,λe he=>by simp at he⟩;have he':(rfr l f A (.code (.cond (.tmp t) x y) :: k)).eval (.tmp t)=.bool v:=(rfr_eval A _ _).trans hA;simp only[rfr] at he';simp[gorL_cons,G,stepG,stepG.exec,rfr,he']
theorem Clo.rdraw (hJ:Clo P FN J){id:Nat}{ops:Array Oper}(h:∀t w',w'.heap=w.heap->J (rfr l f a (.inRegion ops (Region.schedule (P.follows .mixedOrders) ops t) :: k) :: cs) w'):J (rfr l f a (.code (.region id ops true) :: k) :: cs) w:=by
 refine hJ.step _ w (λtp=>rfr l f a (.inRegion ops (Region.schedule (P.follows .mixedOrders) ops (tp w.drawn (.order f id))) :: k) :: cs) (λtp=>{ tpd w tp with drawn:=w.drawn+1 }) (by simp) (by simp) (λtp β FS W hf hw ht=>?_) λtp=>h _ _ rfl
 cases hf with
 | cons x t'=>
  obtain⟨A,rfl,h1,h2⟩:=rfr_rel x;have hq:W.tape W.drawn (.order f id)=tp w.drawn (.order f id):=by have:=ht 0 (.order f id);simpa using this.symm
  refine⟨β,_,{ W with drawn:=W.drawn+1 },#[],.cons (rfr_frR _ h1 h2) t',run_draw hw ht,λm=>?_,λe he=>by simp at he⟩;rw[←hq];simp[gorL_cons,G,stepG,stepG.exec,rfr,choose,Sem.run,Question.forced,Question.cut]
theorem stepG_rfr {A:Act}(ho:ops[i]? = some o)(hg:o.guard=none)(nd:∀c,o.op≠.defer c)(m:Bool)(C:List Frame)(W:World) :
  stepG P m (gorL (rfr l f A (.inRegion ops (i :: rest) :: k) :: C)) W=stepG.apply P true (rfr l f A (.inRegion ops (i :: rest) :: k)) C none (execOp A.eval o) W:=by
 have he:=rfr_eval' (l:=l) (f:=f) A (.inRegion ops (i :: rest) :: k);rw[←he];simp only[gorL_cons,G,rfr,stepG,stepG.exec,ho,Option.map_some,Option.getD_some,wanted_plain hg,if_true,stepG.oper,Frame.oper?];cases ho2:o.op<;>first | rfl | exact absurd ho2 (nd _)
theorem Clo.rop (hJ:Clo P FN J)(hL:Lst P FN)(ho:ops[i]? = some o)(hg:o.guard=none)(hok:okOp P FN o=true)(hd:o.dst=some d)(nd:∀c,o.op≠.defer c)
  (hr:∀tp,(execOp (fa n fx D).eval o).run P (tpd w tp)=.ok (.value v) (tpd w' tp)) (h:J (rfr l f (fa n (up fx d v) D) (.inRegion ops rest :: k) :: cs) w'):J (rfr l f (fa n fx D) (.inRegion ops (i :: rest) :: k) :: cs) w:=by
 refine hJ.one (by simp) (by simp) (λtp β FS W hf hwr ht=>?_) h;cases hf with
 | cons x t=>
  obtain⟨A,rfl,h1,h2⟩:=rfr_rel x;have hS:=rel_execOp hok hL.call (rfr_opn (P:=P) h1 h2);obtain⟨γ,N,W1,ES1,g1,g2,g3,g4⟩:=hS.run (tpd w tp) W #[] #[] _ _ _ hwr ht (by rw[Sem.runT_eq,hr]);cases g2 with
  | @value _ V hv=>
   obtain⟨q1,q2⟩:=put_rel (h1.mono g3.le) h2 hv o.dst;rw[hd,fa_put] at q1 q2;refine⟨γ,_,W1,seen P f ES1,.cons (rfr_frR (A:=A.put (some d) V) _ q1 q2) (t.mono g3.le),g3,λm=>?_,λe he=>(g4 e (seen_sub he)).resolve_left (by simp)⟩;rw[stepG_rfr ho hg nd,apply_value (fr:=rfr l f A (.inRegion ops (i :: rest) :: k)) rfl (by simp[rfr]) g1,rfr_finish ho,hd];rfl
theorem Clo.rcallf (hJ:Clo P FN J)(hL:Lst P FN){g:FuncId}{args:Array Operand}{ats:Array TypeId}(ho:ops[i]? = some o)(hg:o.guard=none)(hop:o.op=.call { callee:=.value (.func g),args,argTypes:=ats })
  (hb:bodyOk P g=true) (hx:args.all (okX FN)=true) (hf:FN g=true) (hd:o.dst=some d) {R:Value->World->Prop} (xs:Array Value) (hxs:args.map (fa n fx D).eval=xs)
  (h:∀tp,Calls P g xs (tpd w tp) λe w'=>∃v,e=.returned v/\R v w') (hk:∀v w',R v w'->J (rfr l f (fa n (up fx d v) D) (.inRegion ops rest :: k) :: cs) w'):J (rfr l f (fa n fx D) (.inRegion ops (i :: rest) :: k) :: cs) w:=by
 have hnx:J (Frame.enter P g (args.map (fa n fx D).eval) .normal :: rfr l f (fa n fx D) (.inRegion ops (i :: rest) :: k) :: cs) w:=by
  refine hJ.call hL hf hb rfr_atOp (R:=R) (λtp=>?_) λv w' hR=>?_
  ·rw[hxs];exact h tp
  ·rw[rfr_finish_fa ho hd];exact hk v w' hR
 refine hJ.one (by simp) (by simp) (λtp β FS W hf hwr ht=>?_) hnx;cases hf with
 | cons x t=>
  obtain⟨A,rfl,h1,h2⟩:=rfr_rel x;have hA:=(rfr_opn (P:=P) h1 h2).arr hx;obtain⟨e1,e2⟩:=run_call (P:=P) (a:=A) hop hb W;refine⟨β,_,W,#[],.cons (enter_frR .normal (by simp) hb hA) (.cons (rfr_frR _ h1 h2) t),.refl hwr ht,λm=>?_,λe he=>by simp at he⟩;rw[stepG_rfr ho hg (λc=>by rw[hop];simp),apply_enter (fr:=rfr l f A (.inRegion ops (i :: rest) :: k)) (f:=g) (xs:=args.map A.eval) (w1:=W) (es:=#[]) rfl (by simp[rfr]) (by rw[Sem.runT_eq,e1,e2]),seen_nil];rfl
theorem simSend_r {c:Nat}{x y:Operand}{v:Value}(ho:ops[i]? = some o)(hg:o.guard=none)(hop:o.op=.send x y)(hxo:okX FN x=true)(hyo:okX FN y=true)(hx:a.eval x=.chan (some c))(hy:a.eval y=v) :
  SimSend P FN c (rfr l f a (.inRegion ops (i :: rest) :: k) :: cs) v (rfr l f (a.put o.dst undef) (.inRegion ops rest :: k) :: cs):=by
 intro β FS hf;cases hf with
 | cons z t=>
  rename_i CS;obtain⟨A,rfl,h1,h2⟩:=rfr_rel z;have hO:=rfr_opn (P:=P) (FN:=FN) h1 h2;have hA:A.eval x=.chan (some c):=by
   have:=hO.x x hxo;rw[hx] at this;generalize A.eval x=V at this;cases this;rfl
  have hv:=hO.x y hyo;rw[hy] at hv;obtain⟨q1,q2⟩:=put_rel (FN:=FN) h1 h2 VR.undef o.dst;refine⟨A.eval y,.tuple #[],_,hv,λm W=>?_,.cons (rfr_frR (A:=A.put o.dst undef) _ q1 q2) t,by simp,?_⟩
  ·rw[stepG_rfr ho hg (λc=>by rw[hop];simp)];have hr:(execOp A.eval o).runT P W #[]=(.ok (.comm #[scase c (A.eval y) (.tuple #[])] true .send) W,#[]):=by
    unfold execOp;simp[hop,hA,scase,Sem.runT_eq]
   unfold stepG.apply;rw[if_pos rfl,hr];have e1:((rfr l f A (.inRegion ops (i :: rest) :: k)).kind == CallKind.early)=false:=rfl;simp only[e1,Bool.false_eq_true,if_false,GStep.after,seen_nil];rfl
  ·have hfin:=rfr_finish (l:=l) (f:=f) (a:=A) (k:=k) (rest:=rest) ho undef;simp[Go.Conc.served,gorL,gor,hfin]
end Go.Fw
end
section
/- A participant's moves over channels, as rules. -/
namespace Go.Fw
open Go Go.Conc Go.Net
variable {P:Program} {FN:FuncId->Bool}
section
variable {K:Cfg} {C C1:Scr Tpe Msg->Prop} {ν:Nat->Option Nat} {i q a c:Nat} {lp:Nat->Option Obj} {fs fs':List Frame} {w w':World} {m:Msg} {Q:Msg->Prop}
theorem jc_mk (hC:∀k:Tpe->Scr Tpe Msg,(∀t,C1 (k t))->C (.mk a k))(hr:K.R.maker a=i)(hne:fs≠[]){nx:Nat->List Frame}(hnx:∀c,nx c≠[])(hsim:SimMk P FN (K.cap a) fs nx)(h:∀c,JC P FN K C1 (Net.upd ν a (some c)) i lp (nx c) w):JC P FN K C ν i lp fs w:=by
 refine⟨.mk a λt=>Classical.choose (h t.2.1),?_,hC _ λt=>(Classical.choose_spec (h t.2.1)).2⟩;unfold Does;exact .inr ⟨hr,hne,nx,hnx,hsim,λt=>(Classical.choose_spec (h t.2.1)).1⟩
theorem jc_fork {Cc:Scr Tpe Msg->Prop}(hC:∀s k,Cc s->C1 k->C (.fork q s k))(hr:K.R.parent q=i)(hqi:q≠i)(hne:fs≠[]){X:Nat->Prop}{f:FuncId}{xs:Array Value}(hP:Part FN P.globals.size K.X0 X w)(hX:∀x∈xs.toList,InX FN P.globals.size X x)(hb:bodyOk P f=true)(hne':fs'≠[])(hsim:SimGo P FN f xs fs fs')
  (hc:JC P FN K Cc ν q (λ_=>none) [Frame.enter P f xs .deferred,base0 P] (frzX X w)) (hk:JC P FN K C1 ν i lp fs' (frzX X w)):JC P FN K C ν i lp fs w:=by
 obtain⟨s,h1,h2⟩:=hc;obtain⟨k,h3,h4⟩:=hk;refine⟨.fork q s k,?_,hC s k h2 h4⟩;unfold Does;exact .inr ⟨hr,hqi,hne,X,f,xs,fs',hP,hX,hb,hne',hsim,h1,h3⟩
theorem jc_send {v:Value}(hC:∀k,C1 k->C (.send a m k))(hs:K.R.sender a=i)(hcap:K.cap a=0)(hc:ν a=some c)(hne:fs≠[])(hne':fs'≠[])(hsim:SimSend P FN c fs v fs')(hM:SendM FN P.globals.size K.X0 m v w w')(h:JC P FN K C1 ν i lp fs' w'):JC P FN K C ν i lp fs w:=by
 obtain⟨k,h1,h2⟩:=h;refine⟨.send a m k,?_,hC k h2⟩;unfold Does;exact .inr ⟨hs,hcap,hne,c,v,fs',w',hc,hne',hsim,hM,h1⟩
theorem jc_put {v:Value}(hC:∀k,C1 k->C (.put a (.val v) k))(hs:K.R.sender a=i)(hcap:K.cap a=1)(hc:ν a=some c)(hne:fs≠[])(hne':fs'≠[])(hsim:SimSend P FN c fs v fs')(hM:InX FN P.globals.size K.X0 v)(h:JC P FN K C1 ν i lp fs' w):JC P FN K C ν i lp fs w:=by
 obtain⟨k,h1,h2⟩:=h;refine⟨.put a (.val v) k,?_,hC k h2⟩;unfold Does;exact .inr ⟨hs,hcap,hne,c,v,fs',hc,hne',rfl,hM,hsim,h1⟩
theorem jc_close (hC:C (.close a))(hs:K.R.sender a=i)(hi:i≠0)(hcap:K.cap a=0)(hc:ν a=some c)(hne:fs≠[])(hsim:SimClose P FN c fs):JC P FN K C ν i lp fs w:=by
 refine⟨.close a,?_,hC⟩;unfold Does;exact .inr ⟨hs,hi,hcap,hne,c,hc,hsim⟩
theorem jc_recv {z:Value}{nx:Value->Bool->List Frame}(hC:∀k:Msg->Scr Tpe Msg,(∀m,Q m->C1 (k m))->C (.recv a Q k))(hr:K.R.receiver a=i)(hcap:K.cap a=0)(hc:ν a=some c)(hne:fs≠[])(hsim:SimRecvG P FN true c fs z nx)
  (h:∀m,Q m->JC P FN K C1 ν i lp (nx (RecvM m w).1 true) (RecvM m w).2):JC P FN K C ν i lp fs w:=by
 let k:Msg->Scr Tpe Msg:=λm=>open Classical in if hq:Q m then Classical.choose (h m hq) else .done
 have hk:∀m (hq:Q m),k m=Classical.choose (h m hq):=λm hq=>dif_pos hq
 refine⟨.recv a Q k,?_,hC k λm hq=>by rw[hk m hq];exact(Classical.choose_spec (h m hq)).2⟩;unfold Does;exact .inr ⟨hr,hcap,hne,c,z,nx,hc,hsim,λm hq=>by rw[hk m hq];exact(Classical.choose_spec (h m hq)).1⟩
theorem jc_shut {z:Value}{nx:Value->Bool->List Frame}(hC:∀k,C1 k->C (.shut a k))(hr:K.R.receiver a=i)(hcap:K.cap a=0)(hc:ν a=some c)(hne:fs≠[])(hsim:SimRecvG P FN true c fs z nx)
  (h:JC P FN K C1 ν i lp (nx z false) w):JC P FN K C ν i lp fs w:=by
 obtain⟨k,h1,h2⟩:=h;refine⟨.shut a k,?_,hC k h2⟩;unfold Does;exact .inr ⟨hr,hcap,hne,c,z,nx,hc,hsim,h1⟩
theorem jc_get {z u:Value}{nx:Value->Bool->List Frame}(hC:∀k:Msg->Scr Tpe Msg,(∀m,valQ u m->C1 (k m))->C (.get a (valQ u) k))(hr:K.R.receiver a=i)(hcap:K.cap a=1)(hc:ν a=some c)(hne:fs≠[])(hsim:SimRecvG P FN false c fs z nx)
  (h:JC P FN K C1 ν i lp (nx u true) w):JC P FN K C ν i lp fs w:=by
 obtain⟨k,h1,h2⟩:=h;refine⟨.get a (valQ u) λ_=>k,?_,hC _ λ_ _=>h2⟩;unfold Does;refine .inr ⟨hr,hcap,hne,c,z,nx,hc,hsim,λv hv=>?_⟩;cases hv;exact h1
theorem jc_done (hC:C .done)(hne:fs≠[])(hD:K.D fs w):JC P FN K C ν 0 (λ_=>none) fs w:=by
 refine⟨.done,?_,hC⟩;unfold Does;exact .inr ⟨rfl,hne,λ_=>rfl,hD⟩
end
section
variable {b:Frame} {a:Act} {k:List Item} {cs:List Frame} {w:World} {ops:Array Oper} {i:Nat} {rest:List Nat} {o:Oper}
theorem simMk_at {cap:Nat}(ho:ops[i]? = some o)(hw:Region.wanted o (yielded ops a.tmps)=true)
  (hr:∀(A:Act) (W:World),(execOp A.eval o).run P W=.ok (.value (.chan (some W.heap.size))) (W.alloc (.chan cap #[] false 0 0 false))/\(execOp A.eval o).events P W #[]=#[]) :
  SimMk P FN cap (b.at a (.inRegion ops (i :: rest) :: k) :: cs) λc=>b.at (a.put o.dst (.chan (some c))) (.inRegion ops rest :: k) :: cs:=by
 intro β FS hf W;cases hf with
 | cons x tl=>
  rename_i CS;obtain⟨A,rfl,h1,h2,h3⟩:=frR_at x;obtain⟨e1,e2⟩:=hr A W;obtain⟨q1,q2⟩:=put_rel (FN:=FN) h1 h2 (VR.chan (some W.heap.size)) o.dst;refine⟨b.at (A.put o.dst (.chan (some W.heap.size))) (.inRegion ops rest :: k) :: CS,.cons (at_frR _ h3 q1 q2) tl,by simp,λm=>?_⟩;have:=stepG_value (P:=P) (main:=m) (b:=b) (k:=k) (cs:=CS) (rest:=rest) ho (by rw[←yielded_rel h1 ops];exact hw) h3 e1;unfold listed at this;rw[e2,seen_nil] at this;exact this
theorem born_step {f:FuncId}(hb:bodyOk P f=true)(XS:Array Value)(m:Bool)(W:World):stepG P m (born P { target:=.fn (.func f) #[],args:=XS }) W=.go (gorL [Frame.enter P f XS .deferred,base0 P]) W #[]:=by
 have hbb:=hb;unfold bodyOk at hbb;cases hfn:P.funcs[f]? with
 | none=>rw[hfn] at hbb;cases hbb
 | some fn=>
  rw[hfn] at hbb;simp only[Bool.and_eq_true,bne_iff_ne,ne_eq] at hbb;obtain⟨cc,hcc⟩:=Option.isSome_iff_exists.1 hbb.2;simp[born,stepG,unwind,callDeferred,invoke,callFunc,hfn,hbb.1,hcc,GStep.after,seen_nil,gorL,gor,base0];rfl
theorem born_step2 {f:FuncId}(hb:bodyOk P f=true)(XS YS:Array Value)(m:Bool)(W:World):stepG P m (born P { target:=.fn (.func f) YS,args:=XS }) W=.go (gorL [Frame.enter P f (XS++YS) .deferred,base0 P]) W #[]:=by
 have hbb:=hb;unfold bodyOk at hbb;cases hfn:P.funcs[f]? with
 | none=>rw[hfn] at hbb;cases hbb
 | some fn=>
  rw[hfn] at hbb;simp only[Bool.and_eq_true,bne_iff_ne,ne_eq] at hbb;obtain⟨cc,hcc⟩:=Option.isSome_iff_exists.1 hbb.2;simp[born,stepG,unwind,callDeferred,invoke,callFunc,hfn,hbb.1,hcc,GStep.after,seen_nil,gorL,gor,base0];rfl
theorem simGo_at {f:FuncId}{args:Array Operand}{ats:Array TypeId}(ho:ops[i]? = some o)(hw:Region.wanted o (yielded ops a.tmps)=true)(hop:o.op=.go { callee:=.value (.func f),args,argTypes:=ats })(hb:bodyOk P f=true)(hx:args.all (okX FN)=true) :
  SimGo P FN f (args.map a.eval) (b.at a (.inRegion ops (i :: rest) :: k) :: cs) (b.at (a.put o.dst undef) (.inRegion ops rest :: k) :: cs):=by
 intro β FS hf;cases hf with
 | cons x tl=>
  rename_i CS;obtain⟨A,rfl,h1,h2,h3⟩:=frR_at x;have hAx:=(opn_at (P:=P) h3 h1 h2).arr hx;have ef:A.eval (.func f)=.func (.func f) #[] #[]:=rfl;obtain⟨q1,q2⟩:=put_rel (FN:=FN) h1 h2 VR.undef o.dst;refine⟨args.map A.eval,{ target:=.fn (.func f) #[],args:=args.map A.eval },b.at (A.put o.dst undef) (.inRegion ops rest :: k) :: CS,hAx,.cons (at_frR _ h3 q1 q2) tl,by simp,λm W=>?_,λm W=>born_step hb _ m W⟩;have hrn:(execOp A.eval o).run P W=.ok (.spawn { target:=.fn (.func f) #[],args:=args.map A.eval }) W/\(execOp A.eval o).events P W #[]=#[]:=by
   unfold execOp;simp[hop,resolve,Deferred.ofValue,ef]
  have hsp:=Go.Conc.stepG_spawn (P:=P) (main:=m) (b:=b) (k:=k) (cs:=CS) (rest:=rest) ho (by rw[←yielded_rel h1 ops];exact hw) h3 hrn.1 rfl;unfold listed at hsp;rw[hrn.2,seen_nil] at hsp;exact hsp
theorem simGo_bnd {f:FuncId}{t:Tmp}{ys:Array Value}{ats:Array TypeId}(ho:ops[i]? = some o)(hw:Region.wanted o (yielded ops a.tmps)=true)(hop:o.op=.go { callee:=.value (.tmp t),args:=#[],argTypes:=ats })(hv:a.eval (.tmp t)=bnd f ys)(hb:bodyOk P f=true) :
  SimGo P FN f ys (b.at a (.inRegion ops (i :: rest) :: k) :: cs) (b.at (a.put o.dst undef) (.inRegion ops rest :: k) :: cs):=by
 intro β FS hf;cases hf with
 | cons x tl=>
  rename_i CS;obtain⟨A,rfl,h1,h2,h3⟩:=frR_at x;have hV:=(opn_at (P:=P) (FN:=FN) h3 h1 h2).x (.tmp t) rfl;rw[hv] at hV;obtain⟨YS,hY,hAV⟩:=bnd_rel hV;obtain⟨q1,q2⟩:=put_rel (FN:=FN) h1 h2 VR.undef o.dst;refine⟨YS,{ target:=.fn (.func f) YS,args:=#[] },b.at (A.put o.dst undef) (.inRegion ops rest :: k) :: CS,hY,.cons (at_frR _ h3 q1 q2) tl,by simp,λm W=>?_,λm W=>?_⟩
  ·have hrn:(execOp A.eval o).run P W=.ok (.spawn { target:=.fn (.func f) YS,args:=#[] }) W/\(execOp A.eval o).events P W #[]=#[]:=by
    unfold execOp;simp[hop,resolve,Deferred.ofValue,hAV]
   have hsp:=Go.Conc.stepG_spawn (P:=P) (main:=m) (b:=b) (k:=k) (cs:=CS) (rest:=rest) ho (by rw[←yielded_rel h1 ops];exact hw) h3 hrn.1 rfl;unfold listed at hsp;rw[hrn.2,seen_nil] at hsp;exact hsp
  ·have:=born_step2 (P:=P) hb #[] YS m W;rw[Array.empty_append] at this;exact this
theorem simRecvG_at {c:Nat}{ty:TypeId}{x:Operand}{z:Value}{fl:Bool}(ho:ops[i]? = some o)(hw:Region.wanted o (yielded ops a.tmps)=true)(hop:o.op=.recv ty x fl)(hxo:okX FN x=true)(hx:a.eval x=.chan (some c))(hz:plainV 5 z=true)
  (hr:∀(A:Act) (W:World),A.eval x=.chan (some c)->(execOp A.eval o).run P W=.ok (.comm #[rcase c z] true (.recv fl)) W/\(execOp A.eval o).events P W #[]=#[]) :
  SimRecvG P FN fl c (b.at a (.inRegion ops (i :: rest) :: k) :: cs) z λv ok=>b.at (a.put o.dst (if fl then .tuple #[v,.bool ok] else v)) (.inRegion ops rest :: k) :: cs:=by
 intro β FS hf;cases hf with
 | cons y t=>
  rename_i CS;obtain⟨A,rfl,h1,h2,h3⟩:=frR_at y;have hA:A.eval x=.chan (some c):=by
   have:=(opn_at (P:=P) h3 h1 h2).x x hxo;rw[hx] at this;generalize A.eval x=V at this;cases this;rfl
  refine⟨z,VR.of_plain 5 z hz,λm W=>stepG_comm' ho (by rw[←yielded_rel h1 ops];exact hw) h3 (hr A W hA),λv V ok hv=>?_⟩;have hvv:VR FN β (if fl then .tuple #[v,.bool ok] else v) (if fl then .tuple #[V,.bool ok] else V):=by
   cases fl with
   | true=>
    have:=((ArrR.nil (FN:=FN) (β:=β)).push hv).push (.bool ok);exact .tuple' (by simpa using this)
   | false=>exact hv
  obtain⟨q1,q2⟩:=put_rel h1 h2 hvv o.dst;refine⟨b.at (A.put o.dst (if fl then .tuple #[V,.bool ok] else V)) (.inRegion ops rest :: k) :: CS,.cons (at_frR _ h3 q1 q2) t,by simp,?_⟩;have hfin:∀v,(b.at A (.inRegion ops (i :: rest) :: k)).finish v=b.at (A.put o.dst v) (.inRegion ops rest :: k):=λv=>by rw[Frame.finish_at,ho];rfl
  cases fl<;>simp[Go.Conc.served,gorL,gor,recvd,hfin]
end
end Go.Fw
end
section
/- Values of old blocks; classes of scripts that are closed under steps. -/
namespace Go.Fw
open Go Go.Conc Go.Net
variable {P:Program} {FN:FuncId->Bool}
theorem InX.int {G:Nat}{X:Nat->Prop}(k:IntKind)(n:Int):InX FN G X (.int k n):=λβ hX V h=>by cases h;exact .int _ _
theorem InX.chan {G:Nat}{X:Nat->Prop}(r:Option Nat):InX FN G X (.chan r):=λβ hX V h=>by cases h;exact .chan _
theorem InX.nilIface {G:Nat}{X:Nat->Prop}:InX FN G X .nilIface:=λβ hX V h=>by cases h;exact .nilIface
theorem InX.ptr {G:Nat}{X:Nat->Prop}{a:Addr}(h:X a.block):InX FN G X (.pointer (some a)):=λβ hX V hv=>by
 cases hv with
 | ptr hA=>exact .ptr ⟨(res_f (hX:=hX) h).trans hA.1,hA.2⟩
theorem InX.slice {G:Nat}{X:Nat->Prop}{A:Option Addr}{l c:Nat}(h:∀a,A=some a->X a.block):InX FN G X (.slice A l c):=λβ hX V hv=>by
 cases hv with
 | slice0=>exact .slice0 _ _
 | slice l c hA=>exact .slice l c ⟨(res_f (hX:=hX) (h _ rfl)).trans hA.1,hA.2⟩
 | sliceE a A=>exact .sliceE _ _
theorem InX.agg {G:Nat}{X:Nat->Prop}{xs:Array Value}(h:∀x∈xs.toList,InX FN G X x):InX FN G X (.agg xs):=λβ hX V hv=>by
 cases hv with
 | agg h1 h2=>exact .agg h1 λi x V hx hV=>h x (by have:=Array.mem_of_getElem? hx;simpa using this) β hX V (h2 i x V hx hV)
theorem inX_dom {G:Nat}{β:Ren G}{X:Nat->Prop}(hd:∀b,β.f b≠none->X b):∀(n:Nat) (v V:Value),SizeOf.sizeOf v<=n->VR FN β v V->InX FN G X v:=by
 intro n;induction n with
 | zero=>intro v V h;cases v<;>simp at h
 | succ n ih=>
  have harr:∀xs XS:Array Value,SizeOf.sizeOf xs<=n->ArrR FN β xs XS->∀(γ:Ren G) (hX:X 0/\X G) (YS:Array Value),ArrR FN γ xs YS->ArrR FN (γ.res X hX) xs YS:=λxs XS hs h γ hX YS hY=>
   ⟨hY.1,λi x Y hx hY'=>by
    obtain⟨V,hV,hR⟩:=h.get hx;obtain⟨hi,rfl⟩:=Array.getElem?_eq_some_iff.1 hx;exact ih _ V (by have:=Array.sizeOf_getElem xs i hi;omega) hR γ hX Y (hY.2 i _ Y hx hY')⟩
  intro v V hv h γ hX U hU;cases h with
  | bool b=>cases hU;exact .bool _
  | int k m=>cases hU;exact .int _ _
  | string s=>cases hU;exact .string _
  | ptr0=>cases hU;exact .ptr0
  | ptr hA=>exact InX.ptr (hd _ (by rw[hA.1];simp)) γ hX U hU
  | slice0 l c=>cases hU;exact .slice0 _ _
  | slice l c hA=>exact InX.slice (λa e=>by cases e;exact hd _ (by rw[hA.1];simp)) γ hX U hU
  | sliceE a A=>cases hU<;>exact .sliceE _ _
  | chan r=>cases hU;exact .chan _
  | nilFunc=>cases hU;exact .nilFunc
  | nilIface=>cases hU;exact .nilIface
  | @iface t v V hx=>
   cases hU with
   | iface _ hy=>exact .iface t (ih v _ (by simp at hv;omega) hx γ hX _ hy)
  | @func f xs XS ys YS hf h1 h2 h3 h4=>
   cases hU with
   | func _ g1 g2 g3 g4=>
    have e1:=harr xs XS (by simp at hv;omega) ⟨h1,h2⟩ γ hX _ ⟨g1,g2⟩;have e2:=harr ys YS (by simp at hv;omega) ⟨h3,h4⟩ γ hX _ ⟨g3,g4⟩;exact .func hf e1.1 e1.2 e2.1 e2.2
  | @agg xs XS h1 h2=>
   cases hU with
   | agg g1 g2=>
    have e1:=harr xs XS (by simp at hv;omega) ⟨h1,h2⟩ γ hX _ ⟨g1,g2⟩;exact .agg e1.1 e1.2
  | @tuple xs XS h1 h2=>
   cases hU with
   | tuple g1 g2=>
    have e1:=harr xs XS (by simp at hv;omega) ⟨h1,h2⟩ γ hX _ ⟨g1,g2⟩;exact .tuple e1.1 e1.2
  | junkF f xs ys=>cases hU;exact .junkF _ _ _
  | @bound f ys YS h1 h2=>
   have key:∀z:Value,z=.func (.method "") #[.nilIface,.int .i64 (f:Int)] ys->VR FN γ z U->VR FN (γ.res X hX) z U:=λz hz hU=>by
    cases hU with
    | @bound g ys2 YS2 g1 g2=>
     have e:ys2=ys:=by simp only[Value.func.injEq] at hz;exact hz.2.2
     subst e;have e1:=harr ys2 YS (by simp at hv;omega) ⟨h1,h2⟩ γ hX _ ⟨g1,g2⟩;exact .bound e1.1 e1.2
    | func _ _ _ _ _=>simp at hz
    | junkF _ _ _=>simp at hz
    | yld _=>simp at hz
    | _=>cases hz
   exact key _ rfl hU
  | yld l=>
   have key:∀z:Value,z=.func (.method "") #[.nilIface,.nilIface,.int .i64 (l:Int)] #[]->VR FN γ z U->VR FN (γ.res X hX) z U:=λz hz hU=>by
    cases hU with
    | yld m=>exact .yld m
    | func _ _ _ _ _=>simp at hz
    | junkF _ _ _=>simp at hz
    | bound _ _=>simp at hz
    | _=>cases hz
   exact key _ rfl hU
  | mapNil=>cases hU;exact .mapNil
  | junk h=>cases hU with
   | junk h'=>exact .junk h'
theorem VR.inX {G:Nat}{β:Ren G}{X:Nat->Prop}(hd:∀b,β.f b≠none->X b){v V:Value}(h:VR FN β v V):InX FN G X v:=inX_dom hd _ v V (Nat.le_refl _) h
def inS {G:Nat}(S:Nat->Prop)(β:Ren G)(b:Nat):Prop:=S b/\β.f b≠none
theorem InX.both {G:Nat}{β:Ren G}{S:Nat->Prop}(hS:S 0/\S G){v V:Value}(hv:InX FN G S v)(h:VR FN β v V):InX FN G (inS S β) v:=
 VR.inX (β:=β.res S hS) (λb hb=>by
  cases hf:(β.res S hS).f b with
  | none=>exact absurd hf hb
  | some B=>
   obtain⟨h1,h2⟩:=res_some (hX:=hS) hf;exact⟨h1,by rw[h2];simp⟩) (hv β hS V h)
theorem InX.mono {G:Nat}{X Y:Nat->Prop}(hs:X 0/\X G)(h:∀b,X b->Y b){v:Value}(hv:InX FN G X v):InX FN G Y v:=λβ hY V hV=>by
 have hle:(β.res X hs).le (β.res Y hY):=λb B hb=>by
  obtain⟨h1,h2⟩:=res_some (hX:=hs) hb;exact(res_f (h b h1)).trans h2
 exact(hv β hs V hV).mono hle
structure Base (FN:FuncId->Bool) (G:Nat) (S:Nat->Prop) (w:World):Prop where
 sp:S 0/\S G
 cl:∀b,S b->∃c t fr,w.heap[b]? = some (.cells c t fr)/\∀v∈c.toList,InX FN G S v
theorem Base.keep {G:Nat}{S:Nat->Prop}{w w':World}(h:Base FN G S w)(hk:∀b,S b->w'.heap[b]? = w.heap[b]?):Base FN G S w':=⟨h.sp,λb hb=>by rw[hk b hb];exact h.cl b hb⟩
theorem inS_sp {G:Nat}{S:Nat->Prop}(hS:S 0/\S G)(β:Ren G):inS S β 0/\inS S β G:=⟨⟨hS.1,by rw[β.sp 0 (.inl rfl)];simp⟩,⟨hS.2,by rw[β.sp G (.inr rfl)];simp⟩⟩
theorem Base.part {G:Nat}{S:Nat->Prop}{w W:World}{β:Ren G}(h:Base FN G S w)(hw:WR FN β w W):Part FN G (inS S β) (inS S β) w:=by
 refine⟨λb hb=>hb,inS_sp h.sp β,λb c t fr hb hc v hv=>?_,λb a l hb hn=>?_⟩
 ·obtain⟨c',t',fr',e1,e2⟩:=h.cl b hb.1;rw[hc] at e1;cases e1;obtain⟨B,hB⟩:=Option.ne_none_iff_exists'.1 hb.2;rcases hw.blk b B hB with⟨c2,C,t2,fr2,FR,g1,g2,hR,_⟩|⟨a,A,l,g1,_⟩
  ·rw[hc] at g1;cases g1;obtain⟨i,hi⟩:=List.mem_iff_getElem?.1 hv;obtain⟨V,_,hV⟩:=hR.get (i:=i) (by simpa using hi);exact(e2 v hv).both h.sp hV
  ·rw[hc] at g1;cases g1
 ·obtain⟨c',t',fr',e1,_⟩:=h.cl b hb.1;rw[hn] at e1;cases e1
theorem Part.more {G:Nat}{X0 X:Nat->Prop}{w:World}(h:Part FN G X0 X w){g:Nat}{c:Array Value}{t:TypeId}{fr:Nat × Nat}(hg:w.heap[g]? = some (.cells c t fr))(hv:∀v∈c.toList,InX FN G X v):Part FN G X0 (λb=>X b\/b=g) w:=by
 refine⟨λb hb=>.inl (h.sub b hb),⟨.inl h.sp.1,.inl h.sp.2⟩,λb c' t' fr' hb hc v hm=>?_,λb a l hb hn=>?_⟩
 ·rcases hb with hb | rfl
  ·exact(h.cells b c' t' fr' hb hc v hm).mono h.sp λ_=>.inl
  ·rw[hg] at hc;cases hc;exact(hv v hm).mono h.sp λ_=>.inl
 ·rcases hb with hb | rfl
  ·exact h.nonum b a l hb hn
  ·rw[hg] at hn;cases hn
theorem Part.frz {G:Nat}{X0 X Y:Nat->Prop}{w:World}(h:Part FN G X0 X w):Part FN G X0 X (frzX Y w):=by
 have key:∀b,(frzX Y w).heap[b]? = (w.heap[b]?).map (λo=>open Classical in if Y b then frzO o else o):=frzX_get Y w;refine⟨h.sub,h.sp,λb c t fr hb hc v hv=>?_,λb a l hb hn=>?_⟩
 ·rw[key] at hc;obtain⟨o,ho,he⟩:=Option.map_eq_some_iff.1 hc;cases o with
  | cells c' t' fr'=>
   have:c'=c:=by split at he<;>simp_all [frzO]
   subst this;exact h.cells b c' t' fr' hb ho v hv
  | _=>split at he<;>simp[frzO] at he
 ·rw[key] at hn;obtain⟨o,ho,he⟩:=Option.map_eq_some_iff.1 hn;cases o with
  | number a' l'=>exact h.nonum b a' l' hb ho
  | _=>split at he<;>simp[frzO] at he
theorem Part.keep {G:Nat}{X0 X:Nat->Prop}{w w':World}(h:Part FN G X0 X w)(hk:∀b,X b->w'.heap[b]? = w.heap[b]?):Part FN G X0 X w':=⟨h.sub,h.sp,λb c t fr hb hc=>h.cells b c t fr hb (by rw[←hk b hb];exact hc),λb a l hb hn=>h.nonum b a l hb (by rw[←hk b hb];exact hn)⟩
section
variable {K:Cfg} {ν:Nat->Option Nat} {i:Nat} {lp:Nat->Option Obj}
theorem sndS_inh {a:Nat}{L:List (Msg->Prop)}(hL:∀Q∈L,∃m,Q m):∃s:Scr Tpe Msg,SndS a L s:=by
 induction L with
 | nil=>exact⟨_,.close⟩
 | cons Q L ih=>
  obtain⟨s,hs⟩:=ih λq hq=>hL q (List.mem_cons_of_mem _ hq)
  obtain⟨m,hm⟩:=hL Q List.mem_cons_self;exact⟨_,.send hm hs⟩
theorem sndS_clo (hD:∀fs w t,K.D fs (tpd w t)->K.D fs w){a:Nat}{L:List (Msg->Prop)}(hL:∀Q∈L,∃m,Q m):Clo P FN (JC P FN K (SndS a L) ν i lp):=jc_clo hD (λF h=>.step F h) (sndS_inh hL) ν i lp
theorem rcvS_clo (hD:∀fs w t,K.D fs (tpd w t)->K.D fs w){a:Nat}{C:Scr Tpe Msg->Prop}(hC:∃s,C s)(L:List (Msg->Prop)):Clo P FN (JC P FN K (RcvS a C L) ν i lp):=jc_clo hD (λF h=>.step F h) (rcv_inh a hC L) ν i lp
def ForkS (Q1:Msg->Prop)(L0:List (Msg->Prop)):Scr Tpe Msg->Prop:=Net.Steps λs=>∃c k2 L2,s=.fork 2 c k2/\SndS 2 L2 c/\RcvS 2 (PutS Q1 L0) L2 k2
theorem putS_inh {Q1:Msg->Prop}{L0:List (Msg->Prop)}(h1:∃m,Q1 m)(hL:∀Q∈L0,∃m,Q m):∃s,PutS (τ:=Tpe) Q1 L0 s:=by
 obtain⟨m,hm⟩:=h1;obtain⟨k,hk⟩:=sndS_inh (a:=0) hL;exact⟨_,.base ⟨m,k,rfl,hm,hk⟩⟩
theorem forkS_inh {Q1:Msg->Prop}{L0:List (Msg->Prop)}(h1:∃m,Q1 m)(hL:∀Q∈L0,∃m,Q m):∃s,ForkS Q1 L0 s:=by
 obtain⟨k,hk⟩:=putS_inh h1 hL;exact⟨_,.base ⟨_,_,[],rfl,.close,.shut hk⟩⟩
theorem midS_inh {Q1:Msg->Prop}{L0:List (Msg->Prop)}(h1:∃m,Q1 m)(hL:∀Q∈L0,∃m,Q m):∃s,MidS (τ:=Tpe) Q1 L0 s:=by
 obtain⟨k,hk⟩:=forkS_inh h1 hL;exact⟨_,.base ⟨λ_=>k,rfl,λ_=>hk⟩⟩
theorem endS_inh (Q1:Msg->Prop)(L0:List (Msg->Prop)):∃s,EndS (τ:=Tpe) Q1 L0 s:=by
 obtain⟨k,hk⟩:=rcv_inh 0 (C:=Net.Steps λs=>s=.done) ⟨.done,.base rfl⟩ L0;exact⟨_,.base ⟨λ_=>k,rfl,λ_ _=>hk⟩⟩
def GoS (Q1:Msg->Prop)(L0:List (Msg->Prop)):Scr Tpe Msg->Prop:=Net.Steps λs=>∃c k,s=.fork 1 c k/\MidS Q1 L0 c/\EndS Q1 L0 k
theorem goS_inh {Q1:Msg->Prop}{L0:List (Msg->Prop)}(h1:∃m,Q1 m)(hL:∀Q∈L0,∃m,Q m):∃s,GoS Q1 L0 s:=by
 obtain⟨c,hc⟩:=midS_inh h1 hL;obtain⟨k,hk⟩:=endS_inh Q1 L0;exact⟨_,.base ⟨_,_,rfl,hc,hk⟩⟩
def Mk1S (Q1:Msg->Prop)(L0:List (Msg->Prop)):Scr Tpe Msg->Prop:=Net.Steps λs=>∃k:Tpe->Scr Tpe Msg,s=.mk 1 k/\∀t,GoS Q1 L0 (k t)
theorem mk1S_inh {Q1:Msg->Prop}{L0:List (Msg->Prop)}(h1:∃m,Q1 m)(hL:∀Q∈L0,∃m,Q m):∃s,Mk1S Q1 L0 s:=by
 obtain⟨k,hk⟩:=goS_inh h1 hL;exact⟨_,.base ⟨λ_=>k,rfl,λ_=>hk⟩⟩
theorem mainS_inh {Q1:Msg->Prop}{L0:List (Msg->Prop)}(h1:∃m,Q1 m)(hL:∀Q∈L0,∃m,Q m):∃s,MainS (τ:=Tpe) Q1 L0 s:=by
 obtain⟨k,hk⟩:=mk1S_inh h1 hL;exact⟨_,.base ⟨λ_=>k,rfl,λ_=>hk⟩⟩
end
end Go.Fw
end
section
/- A participant's moves over channels at the operations that make them. -/
namespace Go.Fw
open Go Go.Conc Go.Net
variable {P:Program} {FN:FuncId->Bool}
variable {K:Cfg} {C C1:Scr Tpe Msg->Prop} {ν:Nat->Option Nat} {p q ch c:Nat} {lp:Nat->Option Obj} {Q:Msg->Prop}
variable {b:Frame} {k:List Item} {cs:List Frame} {w w':World} {ops:Array Oper} {i n d:Nat} {rest:List Nat} {o:Oper} {fx:Nat->Value} {D:List Deferred}
theorem jc_mk_at {cap:Nat}(ho:ops[i]? = some o)(hg:o.guard=none)(hd:o.dst=some d)(hr:∀(A:Act) (W:World),(execOp A.eval o).run P W=.ok (.value (.chan (some W.heap.size))) (W.alloc (.chan cap #[] false 0 0 false))/\(execOp A.eval o).events P W #[]=#[])
  (hcap:K.cap ch=cap) (hm:K.R.maker ch=p) (hC:∀k:Tpe->Scr Tpe Msg,(∀t,C1 (k t))->C (.mk ch k)) (h:∀c,JC P FN K C1 (Net.upd ν ch (some c)) p lp (b.at (fa n (up fx d (.chan (some c))) D) (.inRegion ops rest :: k) :: cs) w):JC P FN K C ν p lp (b.at (fa n fx D) (.inRegion ops (i :: rest) :: k) :: cs) w:=by
 have hs:=simMk_at (P:=P) (FN:=FN) (b:=b) (a:=fa n fx D) (k:=k) (cs:=cs) (rest:=rest) ho (wanted_plain hg _) hr;rw[←hcap] at hs;refine jc_mk hC hm (by simp) (λc=>by simp) hs λc=>?_
 rw[hd,fa_put];exact h c
theorem jc_fork_at {Cc:Scr Tpe Msg->Prop}{X:Nat->Prop}{f:FuncId}{args:Array Operand}{ats:Array TypeId}(ho:ops[i]? = some o)(hg:o.guard=none)(hd:o.dst=none)(hop:o.op=.go { callee:=.value (.func f),args,argTypes:=ats })(hb:bodyOk P f=true)(hx:args.all (okX FN)=true)(xs:Array Value)(hxs:args.map (fa n fx D).eval=xs)
  (hP:Part FN P.globals.size K.X0 X w) (hX:∀x∈xs.toList,InX FN P.globals.size X x) (hr:K.R.parent q=p) (hqi:q≠p) (hC:∀s k,Cc s->C1 k->C (.fork q s k))
  (hc:JC P FN K Cc ν q (λ_=>none) [Frame.enter P f xs .deferred,base0 P] (frzX X w)) (hk:JC P FN K C1 ν p lp (b.at (fa n fx D) (.inRegion ops rest :: k) :: cs) (frzX X w)):JC P FN K C ν p lp (b.at (fa n fx D) (.inRegion ops (i :: rest) :: k) :: cs) w:=by
 have hs:=simGo_at (P:=P) (FN:=FN) (b:=b) (a:=fa n fx D) (k:=k) (cs:=cs) (rest:=rest) ho (wanted_plain hg _) hop hb hx;rw[hxs,hd,fa_none] at hs;exact jc_fork hC hr hqi (by simp) hP hX hb (by simp) hs hc hk
theorem jc_forkb_at {Cc:Scr Tpe Msg->Prop}{X:Nat->Prop}{f:FuncId}{t:Tmp}{ats:Array TypeId}(ho:ops[i]? = some o)(hg:o.guard=none)(hd:o.dst=none)(hop:o.op=.go { callee:=.value (.tmp t),args:=#[],argTypes:=ats })(hb:bodyOk P f=true){xs:Array Value}(hv:(fa n fx D).eval (.tmp t)=bnd f xs)
  (hP:Part FN P.globals.size K.X0 X w) (hX:∀x∈xs.toList,InX FN P.globals.size X x) (hr:K.R.parent q=p) (hqi:q≠p) (hC:∀s k,Cc s->C1 k->C (.fork q s k))
  (hc:JC P FN K Cc ν q (λ_=>none) [Frame.enter P f xs .deferred,base0 P] (frzX X w)) (hk:JC P FN K C1 ν p lp (b.at (fa n fx D) (.inRegion ops rest :: k) :: cs) (frzX X w)):JC P FN K C ν p lp (b.at (fa n fx D) (.inRegion ops (i :: rest) :: k) :: cs) w:=by
 have hs:=simGo_bnd (P:=P) (FN:=FN) (b:=b) (a:=fa n fx D) (k:=k) (cs:=cs) (rest:=rest) ho (wanted_plain hg _) hop hv hb;rw[hd,fa_none] at hs;exact jc_fork hC hr hqi (by simp) hP hX hb (by simp) hs hc hk
theorem jc_put_at {v:Value}{x y:Operand}(ho:ops[i]? = some o)(hg:o.guard=none)(hd:o.dst=none)(hop:o.op=.send x y)(hxo:okX FN x=true)(hyo:okX FN y=true)(hx:(fa n fx D).eval x=.chan (some c))(hy:(fa n fx D).eval y=v)
  (hν:ν ch=some c) (hs:K.R.sender ch=p) (hcap:K.cap ch=1) (hM:InX FN P.globals.size K.X0 v) (hC:∀k,C1 k->C (.put ch (.val v) k)) (h:JC P FN K C1 ν p lp (b.at (fa n fx D) (.inRegion ops rest :: k) :: cs) w):JC P FN K C ν p lp (b.at (fa n fx D) (.inRegion ops (i :: rest) :: k) :: cs) w:=by
 have hsim:=simSend_at (P:=P) (FN:=FN) (b:=b) (a:=fa n fx D) (k:=k) (cs:=cs) (rest:=rest) ho (wanted_plain hg _) hop hxo hyo hx hy;rw[hd,fa_none] at hsim;exact jc_put hC hs hcap hν (by simp) (by simp) hsim hM h
theorem jc_row_r {l:Nat}{f:FuncId}{x y:Operand}{CC:Array Value}{g len cap:Nat}(ho:ops[i]? = some o)(hg:o.guard=none)(hd:o.dst=none)(hop:o.op=.send x y)(hxo:okX FN x=true)(hyo:okX FN y=true)(hx:(fa n fx D).eval x=.chan (some c))(hy:(fa n fx D).eval y=.slice (some ⟨g,0,none⟩) len cap)
  (hν:ν ch=some c) (hs:K.R.sender ch=p) (hcap:K.cap ch=0) (hgl:P.globals.size<=g) (h0:0<cap) (h1:0<CC.size) (hb:w.heap[g]? = some (.cells CC 5 (0,0))) (hint:∀x∈CC.toList,∃n,x=.int .u8 n)
  (hC:∀k,C1 k->C (.send ch (.row CC len cap) k)) (h:JC P FN K C1 ν p lp (rfr l f (fa n fx D) (.inRegion ops rest :: k) :: cs) (frzX (λb=>b=g) w)):JC P FN K C ν p lp (rfr l f (fa n fx D) (.inRegion ops (i :: rest) :: k) :: cs) w:=by
 have hsim:=simSend_r (P:=P) (FN:=FN) (l:=l) (f:=f) (a:=fa n fx D) (k:=k) (cs:=cs) (rest:=rest) ho hg hop hxo hyo hx hy;rw[hd,fa_none] at hsim;exact jc_send hC hs hcap hν (by simp) (by simp) hsim ⟨g,rfl,hgl,h0,h1,hb,hint,rfl⟩ h
theorem jc_get_at {u z:Value}{x:Operand}{ty:TypeId}(ho:ops[i]? = some o)(hg:o.guard=none)(hd:o.dst=some d)(hop:o.op=.recv ty x false)(hxo:okX FN x=true)(hx:(fa n fx D).eval x=.chan (some c))(hz:plainV 5 z=true)
  (hr:∀(A:Act) (W:World),A.eval x=.chan (some c)->(execOp A.eval o).run P W=.ok (.comm #[rcase c z] true (.recv false)) W/\(execOp A.eval o).events P W #[]=#[])
  (hν:ν ch=some c) (hs:K.R.receiver ch=p) (hcap:K.cap ch=1) (hC:∀k:Msg->Scr Tpe Msg,(∀m,valQ u m->C1 (k m))->C (.get ch (valQ u) k)) (h:JC P FN K C1 ν p lp (b.at (fa n (up fx d u) D) (.inRegion ops rest :: k) :: cs) w):JC P FN K C ν p lp (b.at (fa n fx D) (.inRegion ops (i :: rest) :: k) :: cs) w:=by
 have hsim:=simRecvG_at (P:=P) (FN:=FN) (b:=b) (a:=fa n fx D) (k:=k) (cs:=cs) (rest:=rest) ho (wanted_plain hg _) hop hxo hx hz hr;refine jc_get hC hs hcap hν (by simp) hsim ?_;simp only[Bool.false_eq_true,if_false,hd,fa_put];exact h
theorem jc_recv_at {z:Value}{x:Operand}{ty:TypeId}(ho:ops[i]? = some o)(hg:o.guard=none)(hd:o.dst=some d)(hop:o.op=.recv ty x true)(hxo:okX FN x=true)(hx:(fa n fx D).eval x=.chan (some c))(hz:plainV 5 z=true)
  (hr:∀(A:Act) (W:World),A.eval x=.chan (some c)->(execOp A.eval o).run P W=.ok (.comm #[rcase c z] true (.recv true)) W/\(execOp A.eval o).events P W #[]=#[])
  (hν:ν ch=some c) (hs:K.R.receiver ch=p) (hcap:K.cap ch=0) (hC:∀k:Msg->Scr Tpe Msg,(∀m,Q m->C1 (k m))->C (.recv ch Q k)) (h:∀m,Q m->JC P FN K C1 ν p lp (b.at (fa n (up fx d (.tuple #[(RecvM m w).1,.bool true])) D) (.inRegion ops rest :: k) :: cs) (RecvM m w).2):JC P FN K C ν p lp (b.at (fa n fx D) (.inRegion ops (i :: rest) :: k) :: cs) w:=by
 have hsim:=simRecvG_at (P:=P) (FN:=FN) (b:=b) (a:=fa n fx D) (k:=k) (cs:=cs) (rest:=rest) ho (wanted_plain hg _) hop hxo hx hz hr;refine jc_recv hC hs hcap hν (by simp) hsim λm hm=>?_
 simp only[if_true,hd,fa_put];exact h m hm
theorem jc_shut_at {z:Value}{x:Operand}{ty:TypeId}(ho:ops[i]? = some o)(hg:o.guard=none)(hd:o.dst=some d)(hop:o.op=.recv ty x true)(hxo:okX FN x=true)(hx:(fa n fx D).eval x=.chan (some c))(hz:plainV 5 z=true)
  (hr:∀(A:Act) (W:World),A.eval x=.chan (some c)->(execOp A.eval o).run P W=.ok (.comm #[rcase c z] true (.recv true)) W/\(execOp A.eval o).events P W #[]=#[])
  (hν:ν ch=some c) (hs:K.R.receiver ch=p) (hcap:K.cap ch=0) (hC:∀k,C1 k->C (.shut ch k)) (h:JC P FN K C1 ν p lp (b.at (fa n (up fx d (.tuple #[z,.bool false])) D) (.inRegion ops rest :: k) :: cs) w):JC P FN K C ν p lp (b.at (fa n fx D) (.inRegion ops (i :: rest) :: k) :: cs) w:=by
 have hsim:=simRecvG_at (P:=P) (FN:=FN) (b:=b) (a:=fa n fx D) (k:=k) (cs:=cs) (rest:=rest) ho (wanted_plain hg _) hop hxo hx hz hr;refine jc_shut hC hs hcap hν (by simp) hsim ?_;simp only[if_true,hd,fa_put];exact h
end Go.Fw
end
