/-
  Part 7 of the common ground of this seat: what single parts show stands ahead of each.
  No condition.
-/
import Derived.Test.YtkmgcggoemlaaaaGreatDoorJ06
import Derived.Conc.SmallLaws
import Derived.Conc.Own2
import Derived.Orders
set_option linter.unusedSimpArgs false
set_option linter.unusedVariables false
set_option linter.constructorNameAsVariable false
section
/- A fork: receiver and sender come to the receiver's end, on whatever schedule. -/
namespace Go.Fw
open Go Go.Conc
open Go.ConcN (sumTo upd sumTo_upd upd_ne upd_same)
variable {P:Program} {FN:FuncId->Bool}
section
variable {N0:Nat} {W0:World} {Ch:List Nat} {c:Nat} {βf:Ren P.globals.size} {w0 Wf:World} {Post:Value->World->Prop} {K:List Frame->World->Prop} {n:Nat}
def Goal1 (P:Program)(FN:FuncId->Bool)(Post:Value->World->Prop)(c n:Nat)(βf:Ren P.globals.size)(w0 Wf:World)(fa:List Frame)(wa:World)(fb:List Frame)(wb:World):Prop:=
 ∀(β0:Ren P.globals.size) (FA:List Frame) (β1:Ren P.globals.size) (FB:List Frame) (gs:Array Goroutine) (W:World) (sl:Option (Nat × Nat)) (t:Trace) (q:Nat->Nat) (ga gb:Goroutine) (ka kb:Nat),Ph1 P FN c n βf w0 Wf β0 fa wa FA β1 fb wb FB gs W t q ga gb->SitA P c FA ka ga->SitB P c FB kb gb->0<ka+kb->Ends P Post gs W sl t
def Goes1 (P:Program)(Post:Value->World->Prop)(i:Nat)(gs:Array Goroutine)(W:World)(sl:Option (Nat × Nat))(t:Trace):Prop:=
 ∃gs' W' sl' ops,runT P (crowd gs W sl) i=(.next (crowd gs' W' sl'),ops)/\Ends P Post gs' W' sl' (t++ops)
def MoveA (P:Program)(FN:FuncId->Bool)(Post:Value->World->Prop)(c n:Nat)(βf:Ren P.globals.size)(w0 Wf:World)(fa:List Frame)(wa:World)(fb:List Frame)(wb:World):Prop:=
 ∀(β0:Ren P.globals.size) (FA:List Frame) (β1:Ren P.globals.size) (FB:List Frame) (gs:Array Goroutine) (W:World) (sl:Option (Nat × Nat)) (t:Trace) (q:Nat->Nat) (gb:Goroutine) (kb:Nat),Ph1 P FN c n βf w0 Wf β0 fa wa FA β1 fb wb FB gs W t q (gorL FA) gb->SitB P c FB kb gb->
  (∀(Z:Value) (gs':Array Goroutine) (W':World) (t':Trace),(∀m W,stepG P m (gorL FA) W=.comm (gorL FA) #[rcase c Z] true (.recv true) W #[])->0<kb->gs'.size=gs.size->
   Ph1 P FN c n βf w0 Wf β0 fa wa FA β1 fb wb FB gs' W' t' q (parked (gorL FA) #[rcase c Z] (.recv true)) gb->Ends P Post gs' W' sl t')->Goes1 P Post 0 gs W sl t
def MoveB (P:Program)(FN:FuncId->Bool)(Post:Value->World->Prop)(c n:Nat)(βf:Ren P.globals.size)(w0 Wf:World)(fa:List Frame)(wa:World)(fb:List Frame)(wb:World):Prop:=
 ∀(β0:Ren P.globals.size) (FA:List Frame) (β1:Ren P.globals.size) (FB:List Frame) (gs:Array Goroutine) (W:World) (sl:Option (Nat × Nat)) (t:Trace) (q:Nat->Nat) (ga:Goroutine) (ka:Nat),Ph1 P FN c n βf w0 Wf β0 fa wa FA β1 fb wb FB gs W t q ga (gorL FB)->SitA P c FA ka ga->
  (∀(V Z:Value) (gs':Array Goroutine) (W':World) (t':Trace),(∀m W,stepG P m (gorL FB) W=.comm (gorL FB) #[scase c V Z] true .send W #[])->0<ka->gs'.size=gs.size->
   Ph1 P FN c n βf w0 Wf β0 fa wa FA β1 fb wb FB gs' W' t' q ga (parked (gorL FB) #[scase c V Z] .send)->Ends P Post gs' W' sl t')->Goes1 P Post n gs W sl t
theorem ofEvents_nil (i:Nat)(fn:FuncId)(pos:String):MemOp.ofEvents i fn pos #[]=#[]:=by simp[MemOp.ofEvents]
theorem wrap (hn:0<n){fa fb:List Frame}{wa wb:World}(hneA:fa≠[])(hneB:fb≠[])(HA:MoveA P FN Post c n βf w0 Wf fa wa fb wb)(HB:MoveB P FN Post c n βf w0 Wf fa wa fb wb):Goal1 P FN Post c n βf w0 Wf fa wa fb wb:=by
 intro β0 FA β1 FB gs W sl t q ga gb ka kb h sa sb hk;generalize hM:ka+kb+sumTo gs.size q=M;induction M using Nat.strongRecOn generalizing gs W sl t q ga gb ka kb with
 | _ M ih=>
  have nA:=frs_ne h.A.rel hneA;have nB:=frs_ne h.B.rel hneB;obtain⟨d,sl',hpk⟩:=h.pick hn sa sb nA nB hk sl;have hd:=h.at_ d;rcases hpk with⟨hka,hst⟩|⟨hkb,hst⟩|⟨gs',ops,q',hst,h',hsz,hlt⟩
  ·cases sa with
   | park Z hz=>cases hka
   | run=>
    obtain⟨gs',W',sl2,ops,h1,h2⟩:=HA β0 FA β1 FB gs (W.at d) sl' t q gb kb hd sb λZ gs' W' t' hz hkb hs hp=>ih (0+kb+sumTo gs'.size q) (by rw[hs];omega) gs' W' sl' t' q _ gb 0 kb hp (.park Z hz) sb (by omega) rfl
    exact run_more (hst.trans h1) h2
  ·cases sb with
   | park V Z hz=>cases hkb
   | run=>
    obtain⟨gs',W',sl2,ops,h1,h2⟩:=HB β0 FA β1 FB gs (W.at d) sl' t q ga ka hd sa λV Z gs' W' t' hz hka hs hp=>ih (ka+0+sumTo gs'.size q) (by rw[hs];omega) gs' W' sl' t' q ga _ ka 0 hp sa (.park V Z hz) (by omega) rfl
    exact run_more (hst.trans h1) h2
   | unborn hg hb=>
    have hn0:(n == 0)=false:=by simp;omega
    have hrT:=runT_crowd_go (P:=P) (sl:=sl') (i:=n) hd.gb (by rw[hn0];exact hb (W.at d));have hltn:n<gs.size:=(Array.getElem?_eq_some_iff.1 h.gb).1;obtain⟨s,hc⟩:=hd.ch;rw[ofEvents_nil] at hrT;refine run_more (hst.trans hrT) (ih (ka+1+sumTo gs.size q) (by omega) _ (W.at d) sl' _ q ga (gorL FB) ka 1 (hd.park hn (u:=#[]) (by simp) ?_ (by simp[hltn]) (λj hj hjn=>?_) (by simp)) sa .run (by omega) (by simp))
    ·rw[Array.getElem?_setIfInBounds_ne (by omega),Array.getElem?_map,h.ga];simp[woken_sitA sa nA hc]
    ·rw[Array.getElem?_setIfInBounds_ne (by omega),Array.getElem?_map];cases hx:gs[j]? with
     | none=>rfl
     | some x=>simp[woken_quitsD (h.lv.old j x hj hjn hx)]
  ·exact run_more hst (ih (ka+kb+sumTo gs'.size q') (by omega) gs' (W.at d) sl' (t++ops) q' ga gb ka kb h' sa sb hk rfl)
theorem moveA_park (hn:0<n){fa fb FA FB:List Frame}{wa wb W:World}{β0 β1:Ren P.globals.size}{gs:Array Goroutine}{sl:Option (Nat × Nat)}{t:Trace}{q:Nat->Nat}{gb:Goroutine}{kb:Nat}(hneB:FB≠[])
  (h:Ph1 P FN c n βf w0 Wf β0 fa wa FA β1 fb wb FB gs W t q (gorL FA) gb) (sb:SitB P c FB kb gb) (hkb:0<kb) {Z:Value} (hz:∀m W,stepG P m (gorL FA) W=.comm (gorL FA) #[rcase c Z] true (.recv true) W #[])
  (go:∀(gs':Array Goroutine) (W':World) (t':Trace),gs'.size=gs.size->Ph1 P FN c n βf w0 Wf β0 fa wa FA β1 fb wb FB gs' W' t' q (parked (gorL FA) #[rcase c Z] (.recv true)) gb->Ends P Post gs' W' sl t'):Goes1 P Post 0 gs W sl t:=by
 have hlt0:0<gs.size:=(Array.getElem?_eq_some_iff.1 h.ga).1;obtain⟨s,hc⟩:=h.ch;have hrT:=crowd_waits (P:=P) (sl:=sl) h.ga (hz (0 == 0) W) λcc hcc=>by
  simp only[List.mem_toArray,List.mem_cons,List.not_mem_nil,or_false] at hcc;subst hcc;exact ways_recv_none hc (h.noPartner0 hneB sb hkb c true)
 rw[ofEvents_nil] at hrT;refine⟨_,_,_,_,hrT,go _ W _ (by simp) (h.park hn (u:=#[]) (by simp) (by simp[hlt0]) ?_ (λj hj _=>?_) (by simp))⟩
 ·rw[Array.getElem?_setIfInBounds_ne (by omega)];exact h.gb
 ·rw[Array.getElem?_setIfInBounds_ne (by omega)]
theorem quiet4 {g1 g2:Nat}{f1 f2:FuncId}{p1 p2:String}{c s r k:Nat}{a:Nat}:∀op∈(#[{ g:=g1,fn:=f1,pos:=p1,act:=.send c s },{ g:=g2,fn:=f2,pos:=p2,act:=.recv c r k },{ g:=g1,fn:=f1,pos:=p1,act:=.sendDone c s },{ g:=g2,fn:=f2,pos:=p2,act:=.recvDone c r }]:Array MemOp),op.act.touch? = none/\op.act≠.mark .disable/\op.act≠.mark .enable:=by
 intro op hop;simp only[List.mem_toArray,List.mem_cons,List.not_mem_nil,or_false] at hop;rcases hop with rfl | rfl | rfl | rfl<;>simp[MemAct.touch?]
theorem script_val {β0 β1:Ren P.globals.size}{v V:Value}(hv:Sent FN βf v)(h0:βf.le β0)(h1:βf.le β1)(h:VR FN β1 v V):VR FN β0 v V:=by
 obtain⟨⟨n,hc⟩,V0,hV⟩:=hv;have:=(hV.mono h1).fn hc h;rw[←this];exact hV.mono h0
theorem stage1 (hF:Fk FN N0 W0 Ch c βf w0 Wf)(hK:∀fs' w',K fs' w'->CEnds P FN N0 W0 Post Ch fs' (thaw w0 w'))(hn:0<n){L:List Value}{fa:List Frame}{wa:World}(hA:Rcv P FN c K L fa wa) :
  (∀v∈L,Sent FN βf v)->∀{fb:List Frame} {wb:World},Snd P FN c L fb wb->Goal1 P FN Post c n βf w0 Wf fa wa fb wb:=by
 have inner:∀{L:List Value} {fa:List Frame} {wa:World},Rcv P FN c K L fa wa->fa≠[]->(∀v∈L,Sent FN βf v)->
   (∀{fb:List Frame} {wb:World},Snd P FN c L fb wb->fb≠[]->MoveA P FN Post c n βf w0 Wf fa wa fb wb)->
   (∀(v:Value) (L':List Value) (fb fb':List Frame) (wb:World),L=v :: L'->SimSend P FN c fb v fb'->Snd P FN c L' fb' wb->∀(β0:Ren P.globals.size) (FA:List Frame) (β1:Ren P.globals.size) (FB:List Frame) (gs:Array Goroutine) (W:World) (sl:Option (Nat × Nat)) (t:Trace) (q:Nat->Nat) (Z:Value),(∀m W,stepG P m (gorL FA) W=.comm (gorL FA) #[rcase c Z] true (.recv true) W #[])->Ph1 P FN c n βf w0 Wf β0 fa wa FA β1 fb wb FB gs W t q (parked (gorL FA) #[rcase c Z] (.recv true)) (gorL FB)->Goes1 P Post n gs W sl t)->
   ∀{fb:List Frame} {wb:World},Snd P FN c L fb wb->Goal1 P FN Post c n βf w0 Wf fa wa fb wb:=by
  intro L fa wa hA hneA hL HA HM fb wb hB;have hn0:(n == 0)=false:=by simp;omega
  induction hB with
  | vac h=>exact λβ0 FA β1 FB gs W sl t q ga gb ka kb hp _ _ _=>(h β1 FB W hp.B.rel hp.B.wr).elim
  | @step L2 fb2 wb0 F G hne hneF hs hnx ih=>
   refine wrap hn hneA hne (HA (.step F G hne hneF hs hnx) hne) λβ0 FA β1 FB gs W sl t q ga ka hp sa _=>?_
   obtain⟨γ,FB',W',ES,g1,g2,g3,g4⟩:=hs (tapeFor wb0 W) β1 FB W hp.B.rel (hp.B.wr.tpd _) (tp_tapeFor wb0 W);have hrT:=runT_crowd_go (P:=P) (sl:=sl) (i:=n) hp.gb (by rw[hn0];exact g3 false);have hp':Ph1 P FN c n βf w0 Wf β0 fa wa FA β1 _ (tpd wb0 (tapeFor wb0 W)) FB gs W t q ga (gorL FB):=⟨hp.ga,hp.gb,hp.A,⟨hp.B.rel,hp.B.wr.tpd _,hp.B.le,hp.B.fz,hp.B.nw,hp.B.sz⟩,hp.dj,hp.old,hp.ch,hp.lv,hp.tr⟩;have:=hp'.ownB hn sa (frs_ne hp.A.rel hneA) g1 g2 g4;exact⟨_,_,_,_,hrT,ih (tapeFor wb0 W) hA hL HA HM β0 FA γ FB' _ W' sl _ q ga (gorL FB') ka 1 this sa .run (by omega)⟩
  | @send v L' fb fb' wb hne h hnx ih=>
   refine wrap hn hneA hne (HA (.send hne h hnx) hne) λβ0 FA β1 FB gs W sl t q ga ka hp sa park=>?_
   cases sa with
   | park Z hz=>exact HM v L' fb fb' wb rfl h hnx β0 FA β1 FB gs W sl t q Z hz hp
   | run=>
    obtain⟨V,Z,FB',h1,h2,h3,h4,h5⟩:=h β1 FB hp.B.rel;obtain⟨s,hc⟩:=hp.ch;have nA:=frs_ne hp.A.rel hneA;have hltn:n<gs.size:=(Array.getElem?_eq_some_iff.1 hp.gb).1;have hrT:=crowd_waits (P:=P) (sl:=sl) hp.gb (by rw[hn0];exact h2 false W) λcc hcc=>by
     simp only[List.mem_toArray,List.mem_cons,List.not_mem_nil,or_false] at hcc;subst hcc;exact ways_send_none hc (Nat.zero_le _) (hp.noPartnerN hn nA c false)
    rw[ofEvents_nil] at hrT;refine⟨_,_,_,_,hrT,park V Z _ W _ h2 (by omega) (by simp) (hp.park hn (u:=#[]) (by simp) ?_ (by simp[hltn]) (λj hj hjn=>?_) (by simp))⟩
    ·rw[Array.getElem?_setIfInBounds_ne (by omega)];exact hp.ga
    ·rw[Array.getElem?_setIfInBounds_ne (by omega)]
  | @close fb wb hne h=>
   refine wrap hn hneA hne (HA (.close hne h) hne) λβ0 FA β1 FB gs W sl t q ga ka hp sa _=>?_
   obtain⟨hmw,g',k,hg',hq,hst⟩:=h β1 FB hp.B.rel;obtain⟨s,hc⟩:=hp.ch;have nA:=frs_ne hp.A.rel hneA;have hltn:n<gs.size:=(Array.getElem?_eq_some_iff.1 hp.gb).1;have hrT:=runT_crowd_go (P:=P) (sl:=sl) (i:=n) hp.gb (by rw[hn0];exact hst W s s hc);have hc':(W.setChan c 0 #[] true s s false).heap[c]? = some (.chan 0 #[] true s s false):=heap_setChan_self W hc ..;have hne':∀B,B≠c->(W.setChan c 0 #[] true s s false).heap[B]? = W.heap[B]?:=λB hB=>heap_setChan_ne W 0 #[] true s s false (Ne.symm hB)
   have hsW:(W.setChan c 0 #[] true s s false).heap.size=W.heap.size:=by simp[World.setChan]
   have hwk:∃ga',woken P (gorL FB) g' (W.setChan c 0 #[] true s s false) ga=ga'/\(ga'=gorL FA\/∃cs sh,ga' = { parked (gorL FA) cs sh with status:=.running }):=by
    cases sa with
    | run=>exact⟨_,woken_run (gorL_running nA),.inl rfl⟩
    | park Z hz=>
     refine⟨_,rfl,.inr ⟨#[rcase c Z],.recv true,?_⟩⟩;unfold Go.Conc.woken;rw[hmw,hg'];simp only[bne,Bool.true_and];exact again_recv_closed hc'
   obtain⟨ga',hw1,hw2⟩:=hwk;have hS:=hp.A.other (W':=W.setChan c 0 #[] true s s false) (by rw[hsW];exact Nat.le_refl _) λB ⟨b,hb⟩=>hne' B λe=>chan_notin hp.A.wr hc b (by rw[←e];exact hb)
   refine⟨_,_,_,_,hrT,stage2 hF hK hn hA rfl β0 FA (TS Wf.heap.size β1) _ _ sl _ (upd q n k) ga' s s ?_ hw2 hS (λB hB=>⟨hB.1,by rw[hsW];exact hp.B.rngLt B hB.2⟩) (λB h1 h2=>by have:=hp.dj B h1 h2.2;have:=h2.1;omega)
    ⟨λB hB hBc=>(hne' B hBc).trans (hp.old.old B hB hBc),by rw[hsW];exact hp.old.sz,hp.old.os,hp.old.out,hp.old.tp⟩ hc' ⟨λj x hj _ hx=>?_,λj hj=>?_⟩
    (hp.tr.close (λB h=>h.1) (λB h=>h.1) (λB h1 h2=>by have:=hp.dj B h1.2 h2.2;have:=h1.1;omega) hF.cN)⟩
   ·rw[Array.getElem?_setIfInBounds_ne (by omega),Array.getElem?_map,hp.ga];simp[hw1]
   ·by_cases hjn:j=n
    ·subst hjn;rw[Array.getElem?_setIfInBounds_self_of_lt (by simpa using hltn)] at hx;obtain rfl:=Option.some.inj hx;rw[upd_same,Deaf_own,hp.tr.d1,deafBehind_noWord (λe he=>by
      simp only[closeEvents,List.mem_toArray,List.mem_cons,List.not_mem_nil,or_false] at he;rcases he with rfl | rfl<;>simp[NoWord])]
     exact hq
    ·rw[Array.getElem?_setIfInBounds_ne (by omega),Array.getElem?_map] at hx;obtain⟨y,hy,rfl⟩:=Option.map_eq_some_iff.1 hx;have hqj:=hp.lv.old j y hj hjn hy;rw[woken_quitsD hqj,upd_ne q k hjn,Deaf_other t (g':=n) (by omega) _ (λop hop=>by obtain⟨e,_,rfl⟩:=Go.Conc.mem_ofEvents hop;rfl)];exact hqj
   ·rw[Deaf_other t (g':=n) (by simp at hj;omega) _ (λop hop=>by obtain⟨e,_,rfl⟩:=Go.Conc.mem_ofEvents hop;rfl)];exact hp.lv.above j (by simpa using hj)
 have noPark:∀{FA:List Frame} {Z:Value} {g':Goroutine} {W W':World} {es:Array Event},(∀m W,stepG P m (gorL FA) W=.comm (gorL FA) #[rcase c Z] true (.recv true) W #[])->stepG P true (gorL FA) W=.go g' W' es->False:=λh1 h2=>by rw[h1] at h2;cases h2
 induction hA with
 | vac h=>exact λ_ fb wb _ β0 FA β1 FB gs W sl t q ga gb ka kb hp _ _ _=>(h β0 FA W hp.A.rel hp.A.wr).elim
 | @step L2 fa2 wa0 F G hne hneF hs hnx ih=>
  intro hL fb wb hB;refine inner (.step F G hne hneF hs hnx) hne hL (λ{fb wb} hB hneB β0 FA β1 FB gs W sl t q gb kb hp sb _=>?_) (λv L' fb fb' wb e hsend hB' β0 FA β1 FB gs W sl t q Z hz hp=>?_) hB
  ·obtain⟨γ,FA',W',ES,g1,g2,g3,g4⟩:=hs (tapeFor wa0 W) β0 FA W hp.A.rel (hp.A.wr.tpd _) (tp_tapeFor wa0 W);have hrT:=runT_crowd_go (P:=P) (sl:=sl) (i:=0) hp.ga (g3 (0 == 0));have hp':Ph1 P FN c n βf w0 Wf β0 _ (tpd wa0 (tapeFor wa0 W)) FA β1 fb wb FB gs W t q (gorL FA) gb:=⟨hp.ga,hp.gb,⟨hp.A.rel,hp.A.wr.tpd _,hp.A.le,hp.A.fz,hp.A.nw,hp.A.sz⟩,hp.B,hp.dj,hp.old,hp.ch,hp.lv,hp.tr⟩;have:=hp'.ownA hn sb (frs_ne hp.B.rel hneB) g1 g2 g4;exact⟨_,_,_,_,hrT,ih (tapeFor wa0 W) hL hB γ FA' β1 FB _ W' sl _ q (gorL FA') gb 1 kb this .run sb (by omega)⟩
  ·obtain⟨γ,FA',W',ES,g1,g2,g3,g4⟩:=hs (tapeFor wa0 W) β0 FA W hp.A.rel (hp.A.wr.tpd _) (tp_tapeFor wa0 W);exact(noPark hz (g3 true)).elim
 | shut hne h hk=>
  intro hL fb wb hB;refine inner (.shut hne h hk) hne hL (λ{fb wb} hB hneB β0 FA β1 FB gs W sl t q gb kb hp sb park=>?_) (λv L' fb fb' wb e=>by cases e) hB;obtain⟨Z,hZ,hz,_⟩:=h β0 FA hp.A.rel;have nB:=frs_ne hp.B.rel hneB;have hkb:0<kb:=by
   cases sb with
   | unborn _ _=>omega
   | run=>omega
   | park V Z' hz'=>
    exfalso;cases hB with
    | step F G _ _ hs _=>
     obtain⟨γ,FB',W',ES,g1,g2,g3,g4⟩:=hs (tapeFor wb W) β1 FB W hp.B.rel (hp.B.wr.tpd _) (tp_tapeFor wb W);have:=g3 false;rw[hz'] at this;cases this
    | close _ hcl=>
     obtain⟨_,g',k,_,_,hst⟩:=hcl β1 FB hp.B.rel;obtain⟨s,hc⟩:=hp.ch;have:=hst W s s hc;rw[hz'] at this;cases this
    | vac hv=>exact hv β1 FB W hp.B.rel hp.B.wr
  exact moveA_park hn nB hp sb hkb hz λgs' W' t' h1 h2=>park Z gs' W' t' hz hkb h1 h2
 | @recv v L fa wa z nx hne h hnx ih=>
  intro hL fb wb hB;have hL':∀v∈L,Sent FN βf v:=λv hv=>hL v (List.mem_cons_of_mem _ hv)
  refine inner (.recv hne h hnx) hne hL (λ{fb wb} hB hneB β0 FA β1 FB gs W sl t q gb kb hp sb park=>?_) (λv' L' fb fb' wb e hsend hB' β0 FA β1 FB gs W sl t q Z hz hp=>?_) hB
  ·obtain⟨Z,hZ,hz,hnxt⟩:=h β0 FA hp.A.rel;have nB:=frs_ne hp.B.rel hneB;cases sb with
   | unborn hg hb=>exact moveA_park hn nB hp (.unborn hg hb) (by omega) hz λgs' W' t' h1 h2=>park Z gs' W' t' hz (by omega) h1 h2
   | run=>exact moveA_park hn nB hp .run (by omega) hz λgs' W' t' h1 h2=>park Z gs' W' t' hz (by omega) h1 h2
   | park V Z' hz'=>
    cases hB with
    | step F G _ _ hs _=>
     obtain⟨γ,FB',W',ES,g1,g2,g3,g4⟩:=hs (tapeFor wb W) β1 FB W hp.B.rel (hp.B.wr.tpd _) (tp_tapeFor wb W);have:=g3 false;rw[hz'] at this;cases this
    | vac hv=>exact(hv β1 FB W hp.B.rel hp.B.wr).elim
    | @send _ _ _ fb' _ _ hsend hB'=>
     obtain⟨V2,Z2,FB',h1,h2,h3,h4,h5⟩:=hsend β1 FB hp.B.rel;have heq:V=V2:=by
      have:=(hz' false W).symm.trans (h2 false W);simp only[GStep.comm.injEq,scase,Array.mk.injEq,List.cons.injEq,CommCase.mk.injEq,Option.some.injEq] at this;exact this.2.1.1.2.1
     subst heq;obtain⟨FA',e1,e2,e3⟩:=hnxt v V true (script_val (hL v List.mem_cons_self) hp.A.le hp.B.le h1);obtain⟨s,hc⟩:=hp.ch;have hlt0:0<gs.size:=(Array.getElem?_eq_some_iff.1 hp.ga).1;have hltn:n<gs.size:=(Array.getElem?_eq_some_iff.1 hp.gb).1;have hrT:=crowd_recv_meets (P:=P) (sl:=sl) hp.ga (hz (0 == 0) W) hc (show n≠0 by omega) hp.gb (hp.partner0 hn);rw[finishComm_send,finishComm_recv,e3,h5,ofEvents_nil,Array.empty_append] at hrT;refine⟨_,_,_,_,hrT,ih hL' hB' β0 FA' β1 FB' _ _ sl _ q (gorL FA') (gorL FB') 1 1 (hp.comm hn hF.cN e1 h3 (by simp) (by simp[hlt0]) ?_ (λj hj hjn=>?_) (quiet4 (a:=0))) .run .run (by omega)⟩
     ·rw[Array.getElem?_setIfInBounds_ne (by omega)];simp[hltn]
     ·rw[Array.getElem?_setIfInBounds_ne (by omega),Array.getElem?_setIfInBounds_ne (by omega)]
  ·cases e;obtain⟨Z1,hZ,hz1,hnxt⟩:=h β0 FA hp.A.rel;obtain⟨V,Z2,FB',h1,h2,h3,h4,h5⟩:=hsend β1 FB hp.B.rel;obtain⟨FA',e1,e2,e3⟩:=hnxt v V true (script_val (hL v List.mem_cons_self) hp.A.le hp.B.le h1);obtain⟨s,hc⟩:=hp.ch;have hlt0:0<gs.size:=(Array.getElem?_eq_some_iff.1 hp.ga).1;have hltn:n<gs.size:=(Array.getElem?_eq_some_iff.1 hp.gb).1;have hn0:(n == 0)=false:=by simp;omega
   have hrT:=crowd_send_meets (P:=P) (sl:=sl) hp.gb (by rw[hn0];exact h2 false W) hc (show 0≠n by omega) hp.ga (hp.partnerN hn);rw[finishComm_send,finishComm_recv,e3,h5,ofEvents_nil,Array.empty_append] at hrT;refine⟨_,_,_,_,hrT,ih hL' hB' β0 FA' β1 FB' _ _ sl _ q (gorL FA') (gorL FB') 1 1 (hp.comm hn hF.cN e1 h3 (by simp) ?_ (by simp[hltn]) (λj hj hjn=>?_) (quiet4 (a:=0))) .run .run (by omega)⟩
   ·rw[Array.getElem?_setIfInBounds_ne (by omega)];simp[hlt0]
   ·rw[Array.getElem?_setIfInBounds_ne (by omega),Array.getElem?_setIfInBounds_ne (by omega)]
end
end Go.Fw
end
section
/- Rules: a channel is made; a go statement; what a receive, a send and a deferred close are. -/
namespace Go.Fw
open Go Go.Conc
open Go.ConcN (sumTo upd sumTo_upd upd_ne upd_same)
variable {P:Program} {FN:FuncId->Bool}
variable {b:Frame} {a:Act} {k:List Item} {cs:List Frame} {w:World} {ops:Array Oper} {i:Nat} {rest:List Nat} {o:Oper}
theorem seen_nil (f:FuncId):seen P f #[]=#[]:=by simp[seen]
section
variable {N0:Nat} {W0:World} {Ch:List Nat} {Post:Value->World->Prop}
theorem CEnds.makeChan (ho:ops[i]? = some o)(hw:Region.wanted o (yielded ops a.tmps)=true)
  (hr:∀(A:Act) (W:World),(execOp A.eval o).run P W=.ok (.value (.chan (some W.heap.size))) (W.alloc (.chan 0 #[] false 0 0 false))/\(execOp A.eval o).events P W #[]=#[])
  (h:∀c,CEnds P FN N0 W0 Post (c :: Ch) (b.at (a.put o.dst (.chan (some c))) (.inRegion ops rest :: k) :: cs) w):CEnds P FN N0 W0 Post Ch (b.at a (.inRegion ops (i :: rest) :: k) :: cs) w:=by
 intro β gs W sl t q hc;generalize hM:sumTo gs.size q=M;induction M using Nat.strongRecOn generalizing gs W sl t q with
 | _ M ih=>
  obtain⟨FS,hg0,hfs⟩:=hc.g0;have hrun:(gorL FS).status=.running:=gorL_running (frs_ne hfs (by simp));rcases leaver_step (W:=W) (sl:=sl) hg0 hrun hc.lv hc.past with⟨d,sl',hst⟩ | ⟨d,sl',gs',ops',q',hst,hsz,h0',hL',hP',hlt⟩
  ·cases hfs with
   | cons x tl=>
    rename_i CS;obtain⟨A,rfl,h1,h2,h3⟩:=frR_at x;obtain⟨e1,e2⟩:=hr A (W.at d);have hgo:stepG P (0 == 0) (gorL (b.at A (.inRegion ops (i :: rest) :: k) :: CS)) (W.at d)=.go (gorL (b.at (A.put o.dst (.chan (some (W.at d).heap.size))) (.inRegion ops rest :: k) :: CS)) ((W.at d).alloc (.chan 0 #[] false 0 0 false)) #[]:=by
     have:=stepG_value (P:=P) (main:=(0 == 0)) (b:=b) (k:=k) (cs:=CS) (rest:=rest) ho (by rw[←yielded_rel h1 ops];exact hw) h3 e1;unfold listed at this;rw[e2,seen_nil] at this;exact this
    have hrunT:=runT_crowd_go (P:=P) (sl:=sl') (i:=0) hg0 hgo;have hlt0:0<gs.size:=(Array.getElem?_eq_some_iff.1 hg0).1;obtain⟨q1,q2⟩:=put_rel (FN:=FN) h1 h2 (VR.chan (some W.heap.size)) o.dst;have hold:∀B,B<W.heap.size->((W.at d).alloc (.chan 0 #[] false 0 0 false)).heap[B]? = W.heap[B]?:=λB hB=>push_lt (w:=W.at d) hB
    have hsz:((W.at d).alloc (.chan 0 #[] false 0 0 false)).heap.size=W.heap.size+1:=by show (W.heap.push _).size=_;simp
    refine run_more (hst.trans hrunT) (h W.heap.size β _ _ sl' _ q ⟨⟨_,by simp[hlt0];rfl,.cons (at_frR _ h3 q1 q2) tl⟩,⟨λb B hb=>by rw[hold B (hc.wr.lt hb).2];exact hc.wr.blk b B hb,hc.wr.gl,by rw[hsz];have:=hc.wr.gr;omega⟩,leavers_own hg0 hc.lv λop hop=>by obtain⟨e,_,rfl⟩:=Go.Conc.mem_ofEvents hop;rfl,hc.past.own λe he=>by simp at he,by rw[hsz];have:=hc.n0;omega,λB hB=>(hold B (by have:=hc.n0;omega)).trans (hc.old B hB),hc.oldf,hc.os,hc.out,hc.tp,λc hcc=>?_,?_⟩)
    ·rcases List.mem_cons.1 hcc with rfl | hcc
     ·exact⟨hc.n0,push_eq (w:=W.at d)⟩
     ·obtain⟨g1,g2⟩:=hc.ch c hcc;exact⟨g1,(hold c (Array.getElem?_eq_some_iff.1 g2).1).trans g2⟩
    ·refine List.nodup_cons.2 ⟨λhm=>?_,hc.chd⟩;obtain⟨_,g2⟩:=hc.ch _ hm;have:=(Array.getElem?_eq_some_iff.1 g2).1;omega
  ·exact run_more hst (ih (sumTo gs'.size q') (by omega) gs' (W.at d) sl' (t++ops') q' (hc.at_ d (by rw[h0',hg0]) hL' hP') rfl)
def base0 (P:Program):Frame:={ (default:Frame) with fn:=P.funcs.size,mode:=.panicking [goexitEntry] }
theorem PhT.imp {N n:Nat}{T0 T1 T0' T1':Nat->Prop}{t:Trace}(h:PhT N n T0 T1 t)(h0:∀B,T0 B->T0' B)(h1:∀B,T1 B->T1' B):PhT N n T0' T1' t:=
 ⟨h.clean,h.d0,h.d1,λi a ha hm=>(h.k0 i a ha hm).imp id λ⟨x,y⟩=>⟨x,y.imp (h1 _) id⟩,λi a ha hm=>(h.k1 i a ha hm).imp id λ⟨x,y⟩=>⟨x,y.imp (h0 _) id⟩⟩
theorem CEnds.fork {f:FuncId}{args:Array Operand}{ats:Array TypeId}{c:Nat}{K:List Frame->World->Prop}{L:List Value}(ho:ops[i]? = some o)(hw:Region.wanted o (yielded ops a.tmps)=true)(hop:o.op=.go { callee:=.value (.func f),args,argTypes:=ats })
  (hb:bodyOk P f=true) (hx:args.all (okX FN)=true)
  (hR:Rcv P FN c K L (b.at (a.put o.dst undef) (.inRegion ops rest :: k) :: cs) (frzW w)) (hS:Snd P FN c L [Frame.enter P f (args.map a.eval) .deferred,base0 P] (frzW w))
  (hL:∀(β:Ren P.globals.size) A,ArrR FN β a.tmps A->∀v∈L,Sent FN β v) (hK:∀fs' w',K fs' w'->CEnds P FN N0 W0 Post Ch fs' (thaw w w')):CEnds P FN N0 W0 Post (c :: Ch) (b.at a (.inRegion ops (i :: rest) :: k) :: cs) w:=by
 intro β gs W sl t q hc;generalize hM:sumTo gs.size q=M;induction M using Nat.strongRecOn generalizing gs W sl t q with
 | _ M ih=>
  obtain⟨FS,hg0,hfs⟩:=hc.g0;have hrun:(gorL FS).status=.running:=gorL_running (frs_ne hfs (by simp));rcases leaver_step (W:=W) (sl:=sl) hg0 hrun hc.lv hc.past with⟨d,sl',hst⟩ | ⟨d,sl',gs',ops',q',hst,hsz,h0',hL',hP',hlt⟩
  ·cases hfs with
   | cons x tl=>
    rename_i CS;obtain⟨A,rfl,h1,h2,h3⟩:=frR_at x;have hAx:=(opn_at (P:=P) h3 h1 h2).arr hx;have ef:A.eval (.func f)=.func (.func f) #[] #[]:=rfl;have hrn:(execOp A.eval o).run P (W.at d)=.ok (.spawn { target:=.fn (.func f) #[],args:=args.map A.eval }) (W.at d)/\(execOp A.eval o).events P (W.at d) #[]=#[]:=by
     unfold execOp;simp[hop,resolve,Deferred.ofValue,ef]
    have hsp:=Go.Conc.stepG_spawn (P:=P) (main:=(0 == 0)) (b:=b) (k:=k) (cs:=CS) (rest:=rest) ho (by rw[←yielded_rel h1 ops];exact hw) h3 hrn.1 rfl;unfold listed at hsp;rw[hrn.2,seen_nil] at hsp;have hrunT:=runT_crowd_spawn (P:=P) (sl:=sl') (i:=0) hg0 hsp;have hlt0:0<gs.size:=(Array.getElem?_eq_some_iff.1 hg0).1;obtain⟨q1,q2⟩:=put_rel (FN:=FN) h1 h2 VR.undef o.dst;have hF:Fk FN N0 W0 Ch c β w (W.at d):=by
     obtain⟨g1,g2⟩:=hc.ch c List.mem_cons_self;exact⟨hc.wr.heap rfl rfl,g1,(Array.getElem?_eq_some_iff.1 g2).1,hc.old,hc.oldf,hc.os,hc.out,hc.tp,λc' h'=>hc.ch c' (List.mem_cons_of_mem _ h'),hc.chd⟩
    have hfz:=hc.wr.frzW;have mkS:∀{fs FS:List Frame},FrsR P FN β fs FS->Side P FN (W.at d).heap.size w.heap.size β β fs (frzW w) FS (W.at d):=λhfs=>
     ⟨hfs,hfz.1.heap rfl rfl,Ren.le_refl _,λb B hb _=>hfz.2 b B hb,λb B hb=>.inl hb,by rw[frzW_size];exact Nat.le_refl _⟩
    have hpn:PhT (W.at d).heap.size gs.size (TS (W.at d).heap.size β) (TS (W.at d).heap.size β) (t++#[{ g:=0,fn:=(gorL (b.at A (.inRegion ops (i :: rest) :: k) :: CS)).frame.fn,pos:=(gorL (b.at A (.inRegion ops (i :: rest) :: k) :: CS)).frame.place,act:=.go gs.size },{g:=gs.size,fn:=(born P { target:=.fn (.func f) #[],args:=args.map A.eval }).frame.fn,pos:=(gorL (b.at A (.inRegion ops (i :: rest) :: k) :: CS)).frame.place,act:=.start }]):=
     (PhT.fork hc.past (by omega) (hc.lv.above _ (Nat.le_refl _))).imp (λB h=>h.elim) λB h=>h.elim
    have hG:=stage1 hF hK (n:=gs.size) (by omega) hR (hL β A.tmps h1) hS;rw[show (MemOp.ofEvents 0 (gorL (b.at A (.inRegion ops (i :: rest) :: k) :: CS)).frame.fn (gorL (b.at A (.inRegion ops (i :: rest) :: k) :: CS)).frame.place #[])=#[] by simp[MemOp.ofEvents]] at hrunT;refine run_more (hst.trans hrunT) (hG β (b.at (A.put o.dst undef) (.inRegion ops rest :: k) :: CS) β [Frame.enter P f (args.map A.eval) .deferred,base0 P] _ (W.at d) sl' _ q (gorL (b.at (A.put o.dst undef) (.inRegion ops rest :: k) :: CS)) (born P { target:=.fn (.func f) #[],args:=args.map A.eval }) 1 2 ⟨?_,?_,mkS (.cons (at_frR _ h3 q1 q2) tl),mkS (.cons (enter_frR .deferred (by simp) hb hAx) (.cons ⟨rfl,rfl,ArrR.nil,rfl,⟨by simp[base0];decide,rfl⟩,⟨rfl,rfl⟩,rfl⟩ .nil)),λB ⟨b,hb⟩ _=>(hc.wr.lt hb).2,⟨λB _ _=>rfl,Nat.le_refl _,rfl,rfl,rfl⟩,⟨0,(hc.ch c List.mem_cons_self).2⟩,⟨λj g hj hjn hg=>?_,λj hj=>?_⟩,hpn⟩ .run (.unborn rfl λW1=>?_) (by omega))
    ·rw[Array.getElem?_push_lt (by simpa using hlt0)];simp[hlt0];rfl
    ·rw[Array.getElem?_push,if_pos (by simp)]
    ·rw[Array.getElem?_push,if_neg (by simpa using hjn),Array.getElem?_setIfInBounds_ne (by omega)] at hg;rw[Deaf_quiet t j _ (by simp)];exact hc.lv.old j g hj hg
    ·rw[Deaf_quiet t j _ (by simp)];exact hc.lv.above j (by simp at hj;omega)
    ·have hbb:=hb;unfold bodyOk at hbb;cases hfn:P.funcs[f]? with
     | none=>rw[hfn] at hbb;cases hbb
     | some fn=>
      rw[hfn] at hbb;simp only[Bool.and_eq_true,bne_iff_ne,ne_eq] at hbb;obtain⟨cc,hcc⟩:=Option.isSome_iff_exists.1 hbb.2;simp[born,stepG,unwind,callDeferred,invoke,callFunc,hfn,hbb.1,hcc,GStep.after,seen_nil,gorL,gor,base0];rfl
  ·exact run_more hst (ih (sumTo gs'.size q') (by omega) gs' (W.at d) sl' (t++ops') q' (hc.at_ d (by rw[h0',hg0]) hL' hP') rfl)
end
theorem stepG_comm' {A:Act}{CS:List Frame}{W:World}{m:Bool}{cases:Array CommCase}{shape:CommShape}(ho:ops[i]? = some o)(hw:Region.wanted o (yielded ops A.tmps)=true)(hk:b.kind≠.early)
  (hr:(execOp A.eval o).run P W=.ok (.comm cases true shape) W/\(execOp A.eval o).events P W #[]=#[]):stepG P m (gorL (b.at A (.inRegion ops (i :: rest) :: k) :: CS)) W=.comm (gorL (b.at A (.inRegion ops (i :: rest) :: k) :: CS)) cases true shape W #[]:=by
 have:=stepG_comm (P:=P) (main:=m) (b:=b) (k:=k) (cs:=CS) (rest:=rest) ho hw hk hr.1;unfold listed at this;rw[hr.2,seen_nil] at this;exact this
theorem simRecv_at {c:Nat}{ty:TypeId}{x:Operand}{z:Value}(ho:ops[i]? = some o)(hw:Region.wanted o (yielded ops a.tmps)=true)(hop:o.op=.recv ty x true)(hxo:okX FN x=true)(hx:a.eval x=.chan (some c))(hz:plainV 5 z=true)
  (hr:∀(A:Act) (W:World),A.eval x=.chan (some c)->(execOp A.eval o).run P W=.ok (.comm #[rcase c z] true (.recv true)) W/\(execOp A.eval o).events P W #[]=#[]) :
  SimRecv P FN c (b.at a (.inRegion ops (i :: rest) :: k) :: cs) z λv ok=>b.at (a.put o.dst (.tuple #[v,.bool ok])) (.inRegion ops rest :: k) :: cs:=by
 intro β FS hf;cases hf with
 | cons y t=>
  rename_i CS;obtain⟨A,rfl,h1,h2,h3⟩:=frR_at y;have hA:A.eval x=.chan (some c):=by
   have:=(opn_at (P:=P) h3 h1 h2).x x hxo;rw[hx] at this;generalize A.eval x=V at this;cases this;rfl
  refine⟨z,VR.of_plain 5 z hz,λm W=>stepG_comm' ho (by rw[←yielded_rel h1 ops];exact hw) h3 (hr A W hA),λv V ok hv=>?_⟩;have hvv:VR FN β (.tuple #[v,.bool ok]) (.tuple #[V,.bool ok]):=by
   have:=((ArrR.nil (FN:=FN) (β:=β)).push hv).push (.bool ok);exact .tuple' (by simpa using this)
  obtain⟨q1,q2⟩:=put_rel h1 h2 hvv o.dst;refine⟨_,.cons (at_frR _ h3 q1 q2) t,by simp,?_⟩;have hfin:(b.at A (.inRegion ops (i :: rest) :: k)).finish (.tuple #[V,.bool ok])=b.at (A.put o.dst (.tuple #[V,.bool ok])) (.inRegion ops rest :: k):=by rw[Frame.finish_at,ho];rfl
  simp[Go.Conc.served,gorL,gor,recvd,hfin]
theorem simSend_at {c:Nat}{x y:Operand}{v:Value}(ho:ops[i]? = some o)(hw:Region.wanted o (yielded ops a.tmps)=true)(hop:o.op=.send x y)(hxo:okX FN x=true)(hyo:okX FN y=true)(hx:a.eval x=.chan (some c))(hy:a.eval y=v) :
  SimSend P FN c (b.at a (.inRegion ops (i :: rest) :: k) :: cs) v (b.at (a.put o.dst undef) (.inRegion ops rest :: k) :: cs):=by
 intro β FS hf;cases hf with
 | cons z t=>
  rename_i CS;obtain⟨A,rfl,h1,h2,h3⟩:=frR_at z;have hO:=opn_at (P:=P) (FN:=FN) h3 h1 h2;have hA:A.eval x=.chan (some c):=by
   have:=hO.x x hxo;rw[hx] at this;generalize A.eval x=V at this;cases this;rfl
  have hv:=hO.x y hyo;rw[hy] at hv;obtain⟨q1,q2⟩:=put_rel (FN:=FN) h1 h2 VR.undef o.dst;refine⟨A.eval y,.tuple #[],_,hv,λm W=>stepG_comm' ho (by rw[←yielded_rel h1 ops];exact hw) h3 ?_,.cons (at_frR _ h3 q1 q2) t,by simp,?_⟩
  ·unfold execOp;simp[hop,hA,scase]
  ·have hfin:(b.at A (.inRegion ops (i :: rest) :: k)).finish undef=b.at (A.put o.dst undef) (.inRegion ops rest :: k):=by rw[Frame.finish_at,ho];rfl
   simp[Go.Conc.served,gorL,gor,hfin]
def dclose (c:Nat)(ats:Array TypeId)(ty:TypeId)(cn:Array Bool):Deferred:={ target:=.builtin .close ats ty cn,args:=#[.chan (some c)] }
theorem Clo.deferClose {J:List Frame->World->Prop}(hJ:Clo P FN J){c:Nat}{t:Tmp}{ats:Array TypeId}(ho:ops[i]? = some o)(hw:Region.wanted o (yielded ops a.tmps)=true)(hop:o.op=.defer { callee:=.builtin .close,args:=#[.tmp t],argTypes:=ats })(hx:a.eval (.tmp t)=.chan (some c))
  (h:J (b.at (Act.put ⟨a.tmps,dclose c ats o.type #[false] :: a.defers⟩ o.dst undef) (.inRegion ops rest :: k) :: cs) w):J (b.at a (.inRegion ops (i :: rest) :: k) :: cs) w:=by
 refine hJ.one (by simp) (by simp) (λtp β FS W hf hwr ht=>?_) h;cases hf with
 | cons x tl=>
  rename_i CS;obtain⟨A,rfl,h1,h2,h3⟩:=frR_at x;have hA:A.eval (.tmp t)=.chan (some c):=by
   have:=(opn_at (P:=P) (FN:=FN) h3 h1 h2).x (.tmp t) rfl;rw[hx] at this;generalize A.eval (.tmp t)=V at this;cases this;rfl
  have hw':Region.wanted o (yielded ops A.tmps)=true:=by rw[←yielded_rel h1 ops];exact hw
  have hr:(execOp A.eval o).run P W=.ok (.defer (dclose c ats o.type #[false])) W/\(execOp A.eval o).events P W #[]=#[]:=by
   unfold execOp;simp[hop,resolve,dclose,hA]
  have hfin:(b.at ⟨A.tmps,dclose c ats o.type #[false] :: A.defers⟩ (.inRegion ops (i :: rest) :: k)).finish undef=b.at (Act.put ⟨A.tmps,dclose c ats o.type #[false] :: A.defers⟩ o.dst undef) (.inRegion ops rest :: k):=by rw[Frame.finish_at,ho];rfl
  obtain⟨q1,q2⟩:=put_rel (FN:=FN) (a:=⟨a.tmps,dclose c ats o.type #[false] :: a.defers⟩) (A:=⟨A.tmps,dclose c ats o.type #[false] :: A.defers⟩) h1 (by rw[h2]) VR.undef o.dst;refine⟨β,_,W,#[],.cons (at_frR _ h3 q1 q2) tl,.refl hwr ht,λm=>?_,λe he=>by simp at he⟩;have hk':(b.kind == CallKind.early)=false:=by simpa using h3
  rw[gorL_cons,stepG_oper ho hw',gorL_cons,←hfin];simp[stepG.apply,hr.1,hr.2,G,Frame.at,hk',GStep.after,seen_nil]
theorem simClose_at {c:Nat}{ats:Array TypeId}{ty:TypeId}{cn:Array Bool}{fr:Frame}{fn:Func}(hm:fr.mode=.returning)(hk:fr.kind=.deferred)(hd:fr.defers=[dclose c ats ty cn])(hf:P.funcs[fr.fn]? = some fn)(hr:fn.results=#[])(hno:fn.norace=false) :
  SimClose P FN c [fr,base0 P]:=by
 intro β FS h;cases h with
 | cons x t=>
  cases t with
  | cons y t'=>
   cases t';rename_i F FB;have e1:=x.mode.trans hm;have e2:=x.kind.2.trans hk;have e3:=x.defers.trans hd;have e4:P.funcs[F.fn]? = some fn:=by rw[x.fn];exact hf
   have y1:FB.mode=.panicking [goexitEntry]:=y.mode;have y2:FB.defers=[]:=y.defers;have y3:FB.fn=P.funcs.size:=y.fn;have y4:FB.todo=[]:=y.todo;have hq:(P.funcs[F.fn]?).any (·.norace)=false:=by rw[e4];simpa using hno
   cases F;cases FB;simp only at e1 e2 e3 e4 y1 y2 y3 y4 hq;subst e1 e2 e3 y1 y2 y3 y4;rename_i fF tF tdF rF tB kB rB;refine⟨rfl,{ frame:={ fn:=fF,tmps:=tF,todo:=tdF,defers:=[],mode:=.returning,kind:=.deferred,roundOf:=rF },callers:=[{ fn:=P.funcs.size,tmps:=tB,todo:=[],defers:=[],mode:=.panicking [goexitEntry],kind:=kB,roundOf:=rB }],status:=.running,dying:=none },2,rfl,?_,λW s r hc=>?_⟩
   ·have hcat:Frame.catches P { fn:=P.funcs.size,tmps:=tB,todo:=[],defers:=[],mode:=.panicking [goexitEntry],kind:=kB,roundOf:=rB }=false:=by simp[Frame.catches]
    refine QuitsD.ctl rfl (g':={ frame:={ fn:=P.funcs.size,tmps:=tB,todo:=[],defers:=[],mode:=.panicking [goexitEntry],kind:=kB,roundOf:=rB },callers:=[],status:=.running,dying:=none }) (λw=>?_) (QuitsD.ctl rfl (g':={ frame:={ fn:=P.funcs.size,tmps:=tB,todo:=[],defers:=[],mode:=.panicking [goexitEntry],kind:=kB,roundOf:=rB },callers:=[],status:=.finished,dying:=none }) (λw=>?_) ⟨rfl,rfl⟩)
    ·simp[stepG,unwind,e4,results_none hr,Sem.runT_eq,GStep.after,doReturn,seen_nil,goexitEntry,events_results_none hr]
    ·have hge:goexitEntry.goexit=true:=rfl;simp[stepG,unwind,hcat,hge]
   ·have hi:(invoke (.builtin .close ats ty cn) #[.chan (some c)]).run P W=.ok (.value (.tuple #[])) (W.setChan c 0 #[] true s r false)/\(invoke (.builtin .close ats ty cn) #[.chan (some c)]).events P W #[]=closeEvents c:=by
     unfold invoke;constructor
     ·simp[builtin,run_close_open _ _ hc,World.setChan]
     ·simp[builtin,events_close_open _ _ hc,closeEvents]
    have hsn:seen P fF (closeEvents c)=closeEvents c:=seen_eq hq (by intro e he f;simp only[closeEvents,List.mem_toArray,List.mem_cons,List.not_mem_nil,or_false] at he;rcases he with rfl | rfl<;>simp);simp[gorL,gor,stepG,unwind,callDeferred,dclose,Sem.runT_eq,hi.1,hi.2,hsn,GStep.after]
end Go.Fw
end
section
/- Frames whose temporaries are told by a function; regions whose order is drawn, of operations that only yield values. -/
namespace Go.Fw
open Go Go.Conc
variable {P:Program} {FN:FuncId->Bool}
def up (f:Nat->Value)(d:Nat)(v:Value):Nat->Value:=λt=>if t=d then v else f t
theorem up_same (f:Nat->Value)(d:Nat)(v:Value):up f d v d=v:=if_pos rfl
theorem up_ne {f:Nat->Value}{d t:Nat}{v:Value}(h:t≠d):up f d v t=f t:=if_neg h
def fa (n:Nat)(f:Nat->Value)(D:List Deferred):Act:=⟨Array.ofFn (n:=n) λi=>f i.val,D⟩
theorem fa_eval {n:Nat}{f:Nat->Value}{D:List Deferred}{t:Nat}(h:t<n):(fa n f D).eval (.tmp t)=f t:=by
 show (Array.ofFn (n:=n) λi=>f i.val).getD t undef=f t;rw[Array.getD_eq_getD_getElem?,Array.getElem?_eq_getElem (by simpa using h)];simp
theorem fa_put {n:Nat}{f:Nat->Value}{D:List Deferred}{d:Nat}{v:Value}:(fa n f D).put (some d) v=fa n (up f d v) D:=by
 show (⟨(Array.ofFn (n:=n) λi=>f i.val).setIfInBounds d v,D⟩:Act)=⟨_,D⟩;congr 1;apply Array.ext
 ·simp
 ·intro i h1 h2;rw[Array.getElem_setIfInBounds (by simpa using h1)];simp only[Array.getElem_ofFn,up];by_cases e:d=i
  ·subst e;simp
  ·rw[if_neg e,if_neg (Ne.symm e)]
theorem fa_none {n:Nat}{f:Nat->Value}{D:List Deferred}{v:Value}:(fa n f D).put none v=fa n f D:=rfl
theorem fa_of {n:Nat}{a:Act}(h:a.tmps.size=n):a=fa n (λt=>a.tmps.getD t undef) a.defers:=by
 cases a with
 | mk tmps defers=>
  show (⟨tmps,defers⟩:Act)=⟨_,defers⟩;congr 1;apply Array.ext
  ·simpa using h
  ·intro i h1 h2;simp only[Array.getElem_ofFn];rw[Array.getD_eq_getD_getElem?,Array.getElem?_eq_getElem h1];rfl
section
variable {J:List Frame->World->Prop} {b:Frame} {k:List Item} {cs:List Frame} {w w':World} {ops:Array Oper} {i n d:Nat} {rest:List Nat} {o:Oper} {f:Nat->Value} {D:List Deferred} {v:Value}
theorem wanted_plain (hg:o.guard=none)(y:Nat->Option Bool):Region.wanted o y=true:=by unfold Region.wanted;rw[hg]
theorem Clo.opf (hJ:Clo P FN J)(hL:Lst P FN)(ho:ops[i]? = some o)(hg:o.guard=none)(hok:okOp P FN o=true)(hd:o.dst=some d)
  (hr:∀tp,(execOp (fa n f D).eval o).run P (tpd w tp)=.ok (.value v) (tpd w' tp)) (h:J (b.at (fa n (up f d v) D) (.inRegion ops rest :: k) :: cs) w'):J (b.at (fa n f D) (.inRegion ops (i :: rest) :: k) :: cs) w:=by
 refine hJ.op hL ho (wanted_plain hg _) hok hr ?_;rw[hd,fa_put];exact h
theorem Clo.skipf (hJ:Clo P FN J)(hL:Lst P FN)(ho:ops[i]? = some o)(hg:o.guard=none)(hok:okOp P FN o=true)(hd:o.dst=none)
  (hr:∀tp,(execOp (fa n f D).eval o).run P (tpd w tp)=.ok .skip (tpd w' tp)) (h:J (b.at (fa n f D) (.inRegion ops rest :: k) :: cs) w'):J (b.at (fa n f D) (.inRegion ops (i :: rest) :: k) :: cs) w:=by
 refine hJ.opSkip hL ho (wanted_plain hg _) hok hr ?_;rw[hd,fa_none];exact h
structure Ylds (P:Program) (FN:FuncId->Bool) (ops:Array Oper) (m n:Nat) (f:Nat->Value) (D:List Deferred) (w:World) (val:Nat->Value) (d:Nat->Nat) (pr:Nat->List Nat):Prop where
 size:ops.size=m+1
 op:∀i,i<m->∃o,ops[i]? = some o/\o.guard=none/\okOp P FN o=true/\o.dst=some (d i)/\
  ∀g:Nat->Value,(∀j∈pr i,g (d j)=val j)->(∀x,(∀j,j<m->x≠d j)->g x=f x)->∀W:World,W.heap=w.heap->(execOp (fa n g D).eval o).run P W=.ok (.value (val i)) W
 inj:∀i j,i<m->j<m->d i=d j->i=j
 edge:∀i,i<=m->∀j∈pr i,j<m/\∃o,ops[i]? = some o/\o.after.any (λe=>e.on == j && Region.binds .any e)=true
 topo:∀(i:Nat) (o:Oper),ops[i]? = some o->o.after.all (λe=>decide (e.on<i))=true
 last:∀L:Nat->Prop,(∀i,i<m->L i->∀j∈pr i,L j)->(∀j∈pr m,L j)->∀i,i<m->L i
theorem ready_edge {md:Region.Mode}{ops:Array Oper}{listed:Array Bool}{i j:Nat}(hi:i∈Region.ready md ops listed){o:Oper}(ho:ops[i]? = some o)(he:o.after.any (λe=>e.on == j && Region.binds md e)=true):listed.getD j false=true:=by
 unfold Region.ready at hi;simp only[List.mem_filter,ho,Option.map_some,Option.getD_some,Bool.and_eq_true,Array.all_eq_true_iff_forall_mem,Bool.or_eq_true,Bool.not_eq_true'] at hi;obtain⟨x,hx,he2⟩:=Array.any_eq_true.1 he;have hm:=Array.getElem_mem hx;generalize o.after[x]=e at hm he2;simp only[Bool.and_eq_true,beq_iff_eq] at he2;rcases hi.2.2 e hm with h|h
 ·rw[he2.2] at h;cases h
 ·rw[←he2.1];exact h
theorem ready_lt {md:Region.Mode}{ops:Array Oper}{listed:Array Bool}{i:Nat}(hi:i∈Region.ready md ops listed):i<ops.size/\listed.getD i true=false:=by
 unfold Region.ready at hi;simp only[List.mem_filter,List.mem_range,Bool.and_eq_true,Bool.not_eq_true'] at hi;exact⟨hi.1,hi.2.1⟩
structure Sofar (m:Nat) (f:Nat->Value) (val:Nat->Value) (d:Nat->Nat) (pr:Nat->List Nat) (listed:Array Bool) (g:Nat->Value):Prop where
 size:listed.size=m+1
 done:∀i,i<m->listed.getD i false=true->g (d i)=val i
 rest:∀x,(∀j,j<m->listed.getD j false=true->x≠d j)->g x=f x
 down:∀i,i<m->listed.getD i false=true->∀j∈pr i,listed.getD j false=true
 lst:listed.getD m false=false
def finf (m:Nat)(f:Nat->Value)(val:Nat->Value)(d:Nat->Nat):Nat->Value:=(List.range m).foldl (λg i=>up g (d i) (val i)) f
theorem finf_spec {m:Nat}{f:Nat->Value}{val:Nat->Value}{d:Nat->Nat}(hinj:∀i j,i<m->j<m->d i=d j->i=j) :
  (∀i,i<m->finf m f val d (d i)=val i)/\∀x,(∀j,j<m->x≠d j)->finf m f val d x=f x:=by
 induction m with
 | zero=>exact⟨λi h=>by omega,λx _=>rfl⟩
 | succ m ih=>
  obtain⟨h1,h2⟩:=ih λi j hi hj=>hinj i j (by omega) (by omega)
  have e:finf (m+1) f val d=up (finf m f val d) (d m) (val m):=by unfold finf;rw[List.range_succ,List.foldl_append];rfl
  rw[e];refine⟨λi hi=>?_,λx hx=>?_⟩
  ·by_cases c:i=m
   ·subst c;exact up_same _ _ _
   ·rw[up_ne λe=>c (hinj i m hi (by omega) e)];exact h1 i (by omega)
  ·rw[up_ne (hx m (by omega))];exact h2 x λj hj=>hx j (by omega)
theorem getD_true_false {l:Array Bool}{i:Nat}(h:l.getD i true=false):l.getD i false=false/\i<l.size:=by
 rw[Array.getD_eq_getD_getElem?] at h ⊢;cases hl:l[i]? with
 | none=>rw[hl] at h;cases h
 | some x=>rw[hl] at h;exact⟨h,(Array.getElem?_eq_some_iff.1 hl).1⟩
theorem getD_set {l:Array Bool}{i j:Nat}(hi:i<l.size):(l.setIfInBounds i true).getD j false=if i=j then true else l.getD j false:=by
 rw[Array.getD_eq_getD_getElem?,Array.getElem?_setIfInBounds];by_cases e:i=j
 ·subst e;rw[if_pos rfl,if_pos rfl,if_pos (by simpa using hi)];rfl
 ·rw[if_neg e,if_neg e,←Array.getD_eq_getD_getElem?]
def cnt (l:Array Bool):Nat->Nat
 | 0=>0
 | k+1=>cnt l k+if l.getD k false then 0 else 1
theorem cnt_set {l:Array Bool}{i:Nat}(hi:i<l.size)(hf:l.getD i false=false):∀k,cnt (l.setIfInBounds i true) k+(if i<k then 1 else 0)=cnt l k:=by
 intro k;induction k with
 | zero=>simp[cnt]
 | succ k ih=>
  unfold cnt;rw[getD_set hi];by_cases e:i=k
  ·subst e;have h0:¬i<i:=Nat.lt_irrefl i;have h1:i<i+1:=Nat.lt_succ_self i;simp only[h0,if_false] at ih;simp only[hf,h1,if_true,if_pos];simp;omega
  ·have e2:(if i=k then true else l.getD k false)=l.getD k false:=if_neg e;rw[e2];by_cases h:i<k
   ·have h1:i<k+1:=by omega
    simp only[h,if_true] at ih;simp only[h1,if_true];omega
   ·have h1:¬i<k+1:=by omega
    simp only[h,if_false] at ih;simp only[h1,if_false];omega
theorem cnt_pos {l:Array Bool}{i:Nat}(hf:l.getD i false=false):∀k,i<k->0<cnt l k:=by
 intro k;induction k with
 | zero=>intro h;omega
 | succ k ih=>
  intro h;unfold cnt;by_cases e:i=k
  ·subst e;rw[hf];simp
  ·have:=ih (by omega);omega
theorem ready_ne {ops:Array Oper}{listed:Array Bool}{m:Nat}(hs:ops.size=m+1)(hl:listed.size=m+1)(ht:∀(i:Nat) (o:Oper),ops[i]? = some o->o.after.all (λe=>decide (e.on<i))=true)(hm:listed.getD m false=false):Region.ready .any ops listed≠[]:=by
 have key:∀N,N<=m->listed.getD N false=false->∃i,i<=N/\listed.getD i false=false/\∀j,j<i->listed.getD j false=true:=by
  intro N;induction N using Nat.strongRecOn with
  | _ N ih=>
   intro hN hf;by_cases c:∃j,j<N/\listed.getD j false=false
   ·obtain⟨j,hj,hjf⟩:=c;obtain⟨i,h1,h2,h3⟩:=ih j hj (by omega) hjf;exact⟨i,by omega,h2,h3⟩
   ·exact⟨N,Nat.le_refl _,hf,λj hj=>by
     cases h:listed.getD j false with
     | true=>rfl
     | false=>exact absurd ⟨j,hj,h⟩ c⟩
 obtain⟨i,h1,h2,h3⟩:=key m (Nat.le_refl _) hm;intro he;have hmem:i∈Region.ready .any ops listed:=by
  unfold Region.ready;have hio:i<ops.size:=by omega
  have ho:ops[i]? = some ops[i]:=Array.getElem?_eq_getElem hio;simp only[List.mem_filter,List.mem_range,ho,Option.map_some,Option.getD_some,Bool.and_eq_true,Bool.not_eq_true',Array.all_eq_true_iff_forall_mem,Bool.or_eq_true];refine⟨hio,?_,λe he=>.inr ?_⟩
  ·rw[Array.getD_eq_getD_getElem?] at h2 ⊢;rw[Array.getElem?_eq_getElem (by omega)] at h2 ⊢;exact h2
  ·have:=ht i _ ho;rw[Array.all_eq_true_iff_forall_mem] at this;exact h3 _ (of_decide_eq_true (this e he))
 rw[he] at hmem;cases hmem
theorem go_none {ops:Array Oper}{listed:Array Bool}(hr:Region.ready .any ops listed=[]):∀fuel t,Region.linearise.go .any ops fuel t listed []=[]:=by
 intro fuel t;cases fuel with
 | zero=>rfl
 | succ fuel=>
  unfold Region.linearise.go;change (match (Region.ready .any ops listed)[t%(Region.ready .any ops listed).length]? with
   | some i=>Region.linearise.go .any ops fuel (t/(Region.ready .any ops listed).length) (listed.setIfInBounds i true) [i]
   | none=>[].reverse)=_
  rw[hr];rfl
theorem Clo.lin (hJ:Clo P FN J)(hL:Lst P FN){m:Nat}{val:Nat->Value}{d:Nat->Nat}{pr:Nat->List Nat}(hY:Ylds P FN ops m n f D w val d pr)
  (h:∀g:Nat->Value,(∀t,g t=finf m f val d t)->J (b.at (fa n g D) (.inRegion ops [m] :: k) :: cs) w) :
  ∀(fuel t:Nat) (listed:Array Bool) (g:Nat->Value),Sofar m f val d pr listed g->cnt listed (m+1)<=fuel->
   J (b.at (fa n g D) (.inRegion ops (Region.linearise.go .any ops fuel t listed []) :: k) :: cs) w:=by
 intro fuel;induction fuel with
 | zero=>
  intro t listed g hS hc;have:=cnt_pos hS.lst (m+1) (by omega);omega
 | succ fuel ih=>
  intro t listed g hS hc;obtain⟨hf1,hf2⟩:=finf_spec (f:=f) (val:=val) hY.inj;unfold Region.linearise.go;change J (b.at (fa n g D) (.inRegion ops (match (Region.ready .any ops listed)[t%(Region.ready .any ops listed).length]? with
   | some i=>Region.linearise.go .any ops fuel (t/(Region.ready .any ops listed).length) (listed.setIfInBounds i true) [i]
   | none=>[].reverse) :: k) :: cs) w
  have hne:=ready_ne hY.size hS.size hY.topo hS.lst;cases hi:(Region.ready .any ops listed)[t%(Region.ready .any ops listed).length]? with
  | none=>
   exfalso;have hlen:0<(Region.ready .any ops listed).length:=List.length_pos_iff.2 hne;have:=List.getElem?_eq_none_iff.1 hi;have:=Nat.mod_lt t hlen;omega
  | some i=>
   simp only[];rw[linearise_go_acc,List.reverse_singleton,List.singleton_append];have hmem:=List.mem_of_getElem? hi;obtain⟨hlt,hnl⟩:=ready_lt hmem;obtain⟨hnl',hsz⟩:=getD_true_false hnl;rw[hY.size] at hlt;have hpre:∀j∈pr i,listed.getD j false=true:=λj hj=>by
    obtain⟨_,o,ho,he⟩:=hY.edge i (by omega) j hj;exact ready_edge hmem ho he
   by_cases him:i=m
   ·subst him;have hall:∀j,j<i->listed.getD j false=true:=hY.last (λj=>listed.getD j false=true) hS.down hpre;have hnone:Region.ready .any ops (listed.setIfInBounds i true)=[]:=by
     apply List.eq_nil_iff_forall_not_mem.2;intro j hj;obtain⟨q1,q2⟩:=ready_lt hj;obtain⟨q3,_⟩:=getD_true_false q2;rw[getD_set hsz] at q3;rw[hY.size] at q1;by_cases e:i=j
     ·rw[if_pos e] at q3;cases q3
     ·rw[if_neg e,hall j (by omega)] at q3;cases q3
    rw[go_none hnone];refine h g λx=>?_
    by_cases c:∃j,j<i/\x=d j
    ·obtain⟨j,hj,rfl⟩:=c;rw[hS.done j hj (hall j hj),hf1 j hj]
    ·rw[hS.rest x λj hj _ e=>c ⟨j,hj,e⟩,hf2 x λj hj e=>c ⟨j,hj,e⟩]
   ·have him':i<m:=by omega
    obtain⟨o,ho,hg,hok,hd,hrun⟩:=hY.op i him';refine hJ.opf hL ho hg hok hd (w':=w) (v:=val i) (λtp=>hrun g (λj hj=>?_) (λx hx=>hS.rest x λj hj _=>hx j hj) (tpd w tp) rfl) ?_
    ·exact hS.done j (hY.edge i (by omega) j hj).1 (hpre j hj)
    ·refine ih _ _ _ ⟨by simpa using hS.size,λj hj hl=>?_,λx hx=>?_,λj hj hl q hq=>?_,?_⟩ ?_
     ·rw[getD_set hsz] at hl;by_cases e:i=j
      ·subst e;exact up_same _ _ _
      ·rw[if_neg e] at hl;rw[up_ne λe2=>e (hY.inj j i hj him' e2).symm];exact hS.done j hj hl
     ·rw[up_ne (hx i him' (by rw[getD_set hsz,if_pos rfl]))];refine hS.rest x λj hj hl=>hx j hj ?_
      rw[getD_set hsz];by_cases e:i=j
      ·rw[if_pos e]
      ·rw[if_neg e];exact hl
     ·rw[getD_set hsz] at hl ⊢;by_cases e2:i=q
      ·rw[if_pos e2]
      ·rw[if_neg e2];by_cases e:i=j
       ·subst e;exact hpre q hq
       ·rw[if_neg e] at hl;exact hS.down j hj hl q hq
     ·rw[getD_set hsz,if_neg him];exact hS.lst
     ·have:=cnt_set hsz hnl' (m+1);rw[if_pos (by omega)] at this;omega
theorem Clo.drawn (hJ:Clo P FN J)(hL:Lst P FN)(hm:P.follows .mixedOrders=true){id m:Nat}{val:Nat->Value}{d:Nat->Nat}{pr:Nat->List Nat}(hY:Ylds P FN ops m n f D w val d pr)
  (h:∀(g:Nat->Value) w',w'.heap=w.heap->(∀t,g t=finf m f val d t)->J (b.at (fa n g D) (.inRegion ops [m] :: k) :: cs) w'):J (b.at (fa n f D) (.code (.region id ops true) :: k) :: cs) w:=by
 refine hJ.draw λt w' hw=>?_
 have e:Region.schedule (P.follows .mixedOrders) ops t=Region.linearise.go .any ops ops.size t (Array.replicate ops.size false) []:=by
  unfold Region.schedule;rw[hm,Bool.true_or,if_pos rfl];rfl
 rw[e];have hg:∀i,(Array.replicate ops.size false).getD i false=false:=λi=>by
  rw[Array.getD_eq_getD_getElem?,Array.getElem?_replicate];split<;>rfl
 refine Clo.lin hJ hL (w:=w') (f:=f) (val:=val) (d:=d) (pr:=pr) ⟨hY.size,λi hi=>?_,hY.inj,hY.edge,hY.topo,hY.last⟩ (λg hgg=>h g w' hw hgg) ops.size t _ f ⟨by simp[hY.size],(λi hi hl=>by rw[hg] at hl;cases hl),λx _=>rfl,(λi hi hl=>by rw[hg] at hl;cases hl),hg m⟩ ?_
 ·obtain⟨o,h1,h2,h3,h4,h5⟩:=hY.op i hi;exact⟨o,h1,h2,h3,h4,λg hj hx W hW=>h5 g hj hx W (hW.trans hw)⟩
 ·rw[hY.size];have:∀l k,cnt l k<=k:=by
   intro l k;induction k with
   | zero=>exact Nat.le_refl _
   | succ k ih=>unfold cnt;split<;>omega
  exact this _ _
end
end Go.Fw
end
section
/- Closures of functions that no goroutine calls alone. -/
namespace Go.Fw
open Go Go.Conc
variable {P:Program} {FN:FuncId->Bool} {J:List Frame->World->Prop}
variable {b:Frame} {a:Act} {k:List Item} {cs:List Frame} {w w':World} {ops:Array Oper} {i:Nat} {rest:List Nat} {o:Oper}
def bas (f:FuncId)(kd:CallKind):Frame:={ fn:=f,tmps:=#[],todo:=[],defers:=[],mode:=.run,kind:=kd,roundOf:=none }
def argf (xs:Array Value):Nat->Value:=λt=>xs.getD t undef
theorem enter_fa {f:FuncId}{fn:Func}{c:Code}(xs:Array Value)(kd:CallKind)(n:Nat)(hfn:P.funcs[f]? = some fn)(hc:fn.body=some c)(hn:fn.ntmps=n)(hs:xs.size<=n) :
  Frame.enter P f xs kd=(bas f kd).at (fa n (argf xs) []) [.code c]:=by
 have e:Frame.enter P f xs kd = { fn:=f,tmps:=xs++Array.replicate (fn.ntmps-xs.size) undef,todo:=[.code c],defers:=[],mode:=.run,kind:=kd }:=by simp[Frame.enter,hfn,hc]
 rw[e,hn];show ({ fn:=f,tmps:=_,todo:=_,defers:=_,mode:=_,kind:=_,roundOf:=none }:Frame) = { fn:=f,tmps:=_,todo:=_,defers:=_,mode:=_,kind:=_,roundOf:=none };congr 1;apply Array.ext
 ·simp[fa];omega
 ·intro i h1 h2;have hi:i<n:=by simpa[fa] using h2
  simp only[fa,Array.getElem_ofFn,argf];rw[Array.getElem_append,Array.getD_eq_getD_getElem?];by_cases h:i<xs.size
  ·rw[dif_pos h,Array.getElem?_eq_getElem h];rfl
  ·rw[dif_neg h,Array.getElem_replicate,Array.getElem?_eq_none (by omega)];rfl
def chk (ops:Array Oper)(m:Nat)(pr:Nat->List Nat):Bool:=
 ops.size == m+1 && (List.range (m+1)).all (λi=>(pr i).all λj=>decide (j<m) && (match ops[i]? with | some o=>o.after.any (λe=>e.on == j && Region.binds .any e) | none=>false)) &&
  (List.range ops.size).all λi=>match ops[i]? with | some o=>o.after.all (λe=>decide (e.on<i)) | none=>true
theorem ylds_of {m n:Nat}{f:Nat->Value}{D:List Deferred}{val:Nat->Value}{d:Nat->Nat}{pr:Nat->List Nat}(hc:chk ops m pr=true)(hop:∀i,i<m->∃o,ops[i]? = some o/\o.guard=none/\okOp P FN o=true/\o.dst=some (d i)/\
  ∀g:Nat->Value,(∀j∈pr i,g (d j)=val j)->(∀x,(∀j,j<m->x≠d j)->g x=f x)->∀W:World,W.heap=w.heap->(execOp (fa n g D).eval o).run P W=.ok (.value (val i)) W)
  (hinj:∀i,i<m->∀j,j<m->d i=d j->i=j) (hlast:∀L:Nat->Prop,(∀i,i<m->L i->∀j∈pr i,L j)->(∀j∈pr m,L j)->∀i,i<m->L i):Ylds P FN ops m n f D w val d pr:=by
 unfold chk at hc;simp only[Bool.and_eq_true,beq_iff_eq] at hc;obtain⟨⟨h1,h2⟩,h3⟩:=hc;rw[List.all_eq_true] at h2 h3;refine⟨h1,hop,λi j hi hj=>hinj i hi j hj,λi hi j hj=>?_,λi o ho=>?_,hlast⟩
 ·have:=h2 i (List.mem_range.2 (by omega));rw[List.all_eq_true] at this;have:=this j hj;simp only[Bool.and_eq_true,decide_eq_true_eq] at this;refine⟨this.1,?_⟩;cases ho:ops[i]? with
  | none=>rw[ho] at this;cases this.2
  | some o=>rw[ho] at this;exact⟨o,rfl,this.2⟩
 ·have:=h3 i (List.mem_range.2 (Array.getElem?_eq_some_iff.1 ho).1);rw[ho] at this;exact this
def bnd (f:FuncId)(ys:Array Value):Value:=.func (.method "") #[.nilIface,.int .i64 (f:Int)] ys
theorem Clo.makeBound (hJ:Clo P FN J){f:FuncId}{xs:Array Operand}(ho:ops[i]? = some o)(hw:Region.wanted o (yielded ops a.tmps)=true)(hop:o.op=.makeFunc (.func f) #[] xs)(hx:xs.all (okX FN)=true)
  (h:J (b.at (a.put o.dst (bnd f (xs.map a.eval))) (.inRegion ops rest :: k) :: cs) w):J (b.at a (.inRegion ops (i :: rest) :: k) :: cs) w:=by
 refine hJ.one (by simp) (by simp) (λtp β FS W hf hwr ht=>?_) h;cases hf with
 | cons x t=>
  obtain⟨A,rfl,h1,h2,h3⟩:=frR_at x;have hA:=(opn_at (P:=P) h3 h1 h2).arr hx;have hw':Region.wanted o (yielded ops A.tmps)=true:=by rw[←yielded_rel h1 ops];exact hw
  have hr:(execOp A.eval o).run P W=.ok (.value (.func (.func f) #[] (xs.map A.eval))) W/\(execOp A.eval o).events P W #[]=#[]:=by
   unfold execOp;simp[hop,Instr.makeFunc]
  rename_i CS;obtain⟨q1,q2⟩:=put_rel h1 h2 (v:=bnd f (xs.map a.eval)) (V:=.func (.func f) #[] (xs.map A.eval)) (.bound hA.1 hA.2) o.dst;refine⟨β,_,W,#[],.cons (at_frR _ h3 q1 q2) t,.refl hwr ht,λm=>?_,λe he=>by simp at he⟩;have:=stepG_value (P:=P) (main:=m) (b:=b) (k:=k) (cs:=CS) (rest:=rest) ho hw' h3 hr.1;unfold listed at this;rw[hr.2,seen_nil] at this;exact this
theorem Clo.callBound (hJ:Clo P FN J){f:FuncId}{t:Tmp}{ys:Array Value}{args:Array Operand}{ats:Array TypeId}(ho:ops[i]? = some o)(hw:Region.wanted o (yielded ops a.tmps)=true)(hop:o.op=.call { callee:=.value (.tmp t),args,argTypes:=ats })
  (hv:a.eval (.tmp t)=bnd f ys) (hb:bodyOk P f=true) (hx:args.all (okX FN)=true) (h:J (Frame.enter P f (args.map a.eval++ys) .normal :: b.at a (.inRegion ops (i :: rest) :: k) :: cs) w):J (b.at a (.inRegion ops (i :: rest) :: k) :: cs) w:=by
 refine hJ.one (by simp) (by simp) (λtp β FS W hf hwr ht=>?_) h;cases hf with
 | cons x tl=>
  obtain⟨A,rfl,h1,h2,h3⟩:=frR_at x;have hA:=(opn_at (P:=P) h3 h1 h2).arr hx;have hw':Region.wanted o (yielded ops A.tmps)=true:=by rw[←yielded_rel h1 ops];exact hw
  have hV:=(opn_at (P:=P) (FN:=FN) h3 h1 h2).x (.tmp t) rfl;rw[hv] at hV;obtain⟨YS,hY1,hY2,hAV⟩:∃YS:Array Value,ys.size=YS.size/\(∀(i:Nat) (x X:Value),ys[i]? = some x->YS[i]? = some X->VR FN β x X)/\A.eval (.tmp t)=.func (.func f) #[] YS:=by
   generalize A.eval (.tmp t)=V at hV;unfold bnd at hV;generalize hF:(f:Int)=fi at hV;cases hV with
   | @bound g _ YS g1 g2=>
    have:f=g:=Int.ofNat.inj hF;subst this;exact⟨YS,g1,g2,rfl⟩
  rename_i CS;have hb':=hb;unfold bodyOk at hb';cases hfn:P.funcs[f]? with
  | none=>rw[hfn] at hb';cases hb'
  | some fn=>
   rw[hfn] at hb';simp only[Bool.and_eq_true,bne_iff_ne,ne_eq] at hb';obtain⟨c,hc⟩:=Option.isSome_iff_exists.1 hb'.2;have hr:(execOp A.eval o).run P W=.ok (.enter f (args.map A.eval++YS)) W/\(execOp A.eval o).events P W #[]=#[]:=by
    unfold execOp;simp[hop,resolve,Deferred.ofValue,hAV,invoke,callFunc,hfn,hb'.1,hc]
   refine⟨β,_,W,#[],.cons (enter_frR .normal (by simp) hb (hA.app ⟨hY1,hY2⟩)) (.cons (at_frR _ h3 h1 h2) tl),.refl hwr ht,λm=>?_,λe he=>by simp at he⟩;have hst:=stepG_oper (P:=P) (main:=m) (b:=b) (a:=A) (k:=k) (cs:=CS) (w:=W) (rest:=rest) ho hw';rw[gorL_cons,hst];rw[apply_enter (P:=P) (fr:=b.at A (.inRegion ops (i :: rest) :: k)) (C:=CS) (w:=W) (s:=execOp A.eval o) (ops:=ops) (l:=i :: rest) (k:=k) (f:=f) (xs:=args.map A.eval++YS) (w1:=W) (es:=#[]) rfl h3 (by rw[Sem.runT_eq,hr.1,hr.2])];rw[show seen P (b.at A (.inRegion ops (i :: rest) :: k)).fn #[]=#[] by simp[seen]];rfl
end Go.Fw
end
section
/- Calls and closures in frames whose temporaries are told by a function. -/
namespace Go.Fw
open Go Go.Conc
variable {P:Program} {FN:FuncId->Bool} {J:List Frame->World->Prop}
variable {b:Frame} {k:List Item} {cs:List Frame} {w w':World} {ops:Array Oper} {i n d:Nat} {rest:List Nat} {o:Oper} {fx:Nat->Value} {D:List Deferred}
theorem m1 {ρ:Operand->Value}{x:Operand}{v:Value}(h:ρ x=v):(#[x]:Array Operand).map ρ=#[v]:=by simp[h]
theorem m2 {ρ:Operand->Value}{x y:Operand}{v u:Value}(h:ρ x=v)(h2:ρ y=u):(#[x,y]:Array Operand).map ρ=#[v,u]:=by simp[h,h2]
theorem m3 {ρ:Operand->Value}{x y z:Operand}{v u t:Value}(h:ρ x=v)(h2:ρ y=u)(h3:ρ z=t):(#[x,y,z]:Array Operand).map ρ=#[v,u,t]:=by simp[h,h2,h3]
theorem atOp_at (a:Act):AtOp (b.at a (.inRegion ops (i :: rest) :: k)):=⟨rfl,ops,i,rest,k,rfl⟩
theorem finish_fa (ho:ops[i]? = some o)(hd:o.dst=some d)(v:Value):(b.at (fa n fx D) (.inRegion ops (i :: rest) :: k)).finish v=b.at (fa n (up fx d v) D) (.inRegion ops rest :: k):=by
 rw[Frame.finish_at,ho];show b.at ((fa n fx D).put o.dst v) _=_;rw[hd,fa_put]
theorem Clo.callf (hJ:Clo P FN J)(hL:Lst P FN){f:FuncId}{args:Array Operand}{ats:Array TypeId}(ho:ops[i]? = some o)(hg:o.guard=none)(hop:o.op=.call { callee:=.value (.func f),args,argTypes:=ats })
  (hb:bodyOk P f=true) (hx:args.all (okX FN)=true) (hf:FN f=true) (hd:o.dst=some d) {R:Value->World->Prop} (xs:Array Value) (hxs:args.map (fa n fx D).eval=xs)
  (h:∀tp,Calls P f xs (tpd w tp) λe w'=>∃v,e=.returned v/\R v w') (hk:∀v w',R v w'->J (b.at (fa n (up fx d v) D) (.inRegion ops rest :: k) :: cs) w'):J (b.at (fa n fx D) (.inRegion ops (i :: rest) :: k) :: cs) w:=by
 refine hJ.callop ho (wanted_plain hg _) hop hb hx (hJ.call hL hf hb (atOp_at _) (R:=R) (λtp=>?_) λv w' hR=>?_)
 ·rw[hxs];exact h tp
 ·rw[finish_fa ho hd];exact hk v w' hR
theorem Clo.boundf (hJ:Clo P FN J){f:FuncId}{t:Tmp}{ys:Array Value}{args:Array Operand}{ats:Array TypeId}(ho:ops[i]? = some o)(hg:o.guard=none)(hop:o.op=.call { callee:=.value (.tmp t),args,argTypes:=ats })
  (hv:(fa n fx D).eval (.tmp t)=bnd f ys) (hb:bodyOk P f=true) (hx:args.all (okX FN)=true) (xs:Array Value) (hxs:args.map (fa n fx D).eval++ys=xs)
  (h:J (Frame.enter P f xs .normal :: b.at (fa n fx D) (.inRegion ops (i :: rest) :: k) :: cs) w):J (b.at (fa n fx D) (.inRegion ops (i :: rest) :: k) :: cs) w:=by
 refine hJ.callBound ho (wanted_plain hg _) hop hv hb hx ?_;rw[hxs];exact h
theorem Clo.makef (hJ:Clo P FN J){f:FuncId}{xs:Array Operand}(ho:ops[i]? = some o)(hg:o.guard=none)(hop:o.op=.makeFunc (.func f) #[] xs)(hx:xs.all (okX FN)=true)(hd:o.dst=some d)(ys:Array Value)(hys:xs.map (fa n fx D).eval=ys)
  (h:J (b.at (fa n (up fx d (bnd f ys)) D) (.inRegion ops rest :: k) :: cs) w):J (b.at (fa n fx D) (.inRegion ops (i :: rest) :: k) :: cs) w:=by
 refine hJ.makeBound ho (wanted_plain hg _) hop hx ?_;rw[hd,fa_put,hys];exact h
theorem Clo.deferf (hJ:Clo P FN J){c:Nat}{t:Tmp}{ats:Array TypeId}(ho:ops[i]? = some o)(hg:o.guard=none)(hop:o.op=.defer { callee:=.builtin .close,args:=#[.tmp t],argTypes:=ats })(hx:(fa n fx D).eval (.tmp t)=.chan (some c))(hd:o.dst=none)
  (h:J (b.at (fa n fx (dclose c ats o.type #[false] :: D)) (.inRegion ops rest :: k) :: cs) w):J (b.at (fa n fx D) (.inRegion ops (i :: rest) :: k) :: cs) w:=by
 refine hJ.deferClose ho (wanted_plain hg _) hop hx ?_;rw[hd];exact h
end Go.Fw
end
