/-
  The law Piped of package firmwarelaw returns true for every input: a patch that is made in a goroutine, whose pieces come through a channel.
  No condition: any images, any length of the pieces.
-/
import Derived.Test.YtkmgcggoemlaaaaGreatDoorJ31
import Derived.Test.YtkmgcggoemlaaaaGreatDoorJ23
import Derived.Test.YtkmgcggoemlaaaaGreatDoorJ22
import Derived.Test.YtkmgcggoemlaaaaGreatDoorJ30
import Derived.Test.YtkmgcggoemlaaaaGreatDoorCards
import Derived.Test.YtkmgcggoemlaaaaGreatDoorTie
set_option linter.unusedSimpArgs false
set_option linter.unusedVariables false
set_option linter.constructorNameAsVariable false
section
/- The law Piped, in a private world. No condition. -/
set_option maxHeartbeats 8000000
set_option maxRecDepth 100000
namespace Go.Proofs.YtkmgcggoemlaaaaGreatDoor
open Go Go.Fw Go.Conc Go.RowKit Go.Fwm
theorem fa_lit50 (f:Nat->Value)(D:List Deferred):fa 50 f D=⟨#[f 0,f 1,f 2,f 3,f 4,f 5,f 6,f 7,f 8,f 9,f 10,f 11,f 12,f 13,f 14,f 15,f 16,f 17,f 18,f 19,f 20,f 21,f 22,f 23,f 24,f 25,f 26,f 27,f 28,f 29,f 30,f 31,f 32,f 33,f 34,f 35,f 36,f 37,f 38,f 39,f 40,f 41,f 42,f 43,f 44,f 45,f 46,f 47,f 48,f 49],D⟩:=by kernel_rfl
theorem m4' {ρ:Operand->Value}{x y z u:Operand}{a b c d:Value}(h1:ρ x=a)(h2:ρ y=b)(h3:ρ z=c)(h4:ρ u=d):(#[x,y,z,u]:Array Operand).map ρ=#[a,b,c,d]:=by simp[h1,h2,h3,h4]
theorem piped_priv {W w:World}{Post:Value->World->Prop}(hpost:∀W',Below W.heap.size W W'->Post (.bool true) W')(hg:GV w){S:Nat->Prop}(hB:Base FN Tryz.prog.globals.size S w)(hSlt:∀b,S b->b<w.heap.size)
  {a0 a1:Option Addr} {l0 c0 l1 c1:Nat} {z2:Int} {old new:List UInt8} (hz2:-9223372036854775808<=z2/\z2<=9223372036854775807)
  (h0:Bytes w a0 old) (e0:old.length=l0) (hc0:l0<=c0) (hm0:c0<=maxLen) (h1:Bytes w a1 new) (e1:new.length=l1) (hc1:l1<=c1) (n0:a0=none->c0=0) (hS0:∀a,a0=some a->S a.block) (hS1:∀a,a1=some a->S a.block) :
  CEnds Tryz.prog FN W.heap.size W Post [] [Frame.enter Tryz.prog 5 #[.slice a0 l0 c0,.slice a1 l1 c1,.int .i64 z2] .normal] w:=by
 have hJ:=cEnds_clo (P:=Tryz.prog) (FN:=FN) (N0:=W.heap.size) (W0:=W) (Post:=Post) (Ch:=[]);rw[enter_fa _ _ 50 Tryz.func5 rfl rfl (by simp)];refine hJ.seq (hJ.region ?_);refine hJ.opf lst rfl rfl (by kernel_rfl) rfl (w':=w) (λtp=>ex_assign (x:=.const (.bool false)) rfl rfl) ?_;refine hJ.region_end (hJ.seq (hJ.region ?_));refine hJ.opf lst rfl rfl (by kernel_rfl) rfl (w':=w) (v:=.slice a0 l0 c0) (λtp=>ex_move rfl ((fa_eval (by decide)).trans rfl)) ?_;refine hJ.callf lst rfl rfl rfl (by kernel_rfl) (by kernel_rfl) (by kernel_rfl) rfl _ (m1 ((fa_eval (by decide)).trans rfl)) (R:=λv w'=>v=.bool (decide (l0<=4096))/\∃tp,w'=Go.Fw.tpd w tp) (λtp=>(image14 _ a0 l0 c0).mono λe w' ⟨q1,q2⟩=>⟨_,q1,rfl,tp,q2⟩) ?_;rintro v w' ⟨rfl,tp,rfl⟩;refine hJ.tp _ _ tp ?_;refine hJ.opf lst rfl rfl (by kernel_rfl) rfl (w':=w) (v:=.bool (decide (l0<=4096))) (λtp=>ex_assign rfl ((fa_eval (by decide)).trans rfl)) ?_;refine hJ.region_end (hJ.seq (hJ.region ?_));refine hJ.opf lst rfl rfl (by kernel_rfl) rfl (w':=w) (v:=.slice a1 l1 c1) (λtp=>ex_move rfl ((fa_eval (by decide)).trans rfl)) ?_;refine hJ.callf lst rfl rfl rfl (by kernel_rfl) (by kernel_rfl) (by kernel_rfl) rfl _ (m1 ((fa_eval (by decide)).trans rfl)) (R:=λv w'=>v=.bool (decide (l1<=4096))/\∃tp,w'=Go.Fw.tpd w tp) (λtp=>(image14 _ a1 l1 c1).mono λe w' ⟨q1,q2⟩=>⟨_,q1,rfl,tp,q2⟩) ?_;rintro v w' ⟨rfl,tp,rfl⟩;refine hJ.tp _ _ tp ?_;refine hJ.opf lst rfl rfl (by kernel_rfl) rfl (w':=w) (v:=.bool (decide (l1<=4096))) (λtp=>ex_assign rfl ((fa_eval (by decide)).trans rfl)) ?_;refine hJ.region_end (hJ.seq (hJ.region ?_));refine hJ.callop rfl (wanted_plain rfl _) rfl (by kernel_rfl) (by kernel_rfl) ?_;rw[Array.map_empty];refine works_ends hg (atOp_at _) λw1 z1 o1=>?_
 rw[finish_fa rfl rfl];refine hJ.opf lst rfl rfl (by kernel_rfl) rfl (w':=w1) (v:=.bool true) (λtp=>ex_assign rfl ((fa_eval (by decide)).trans rfl)) ?_;refine hJ.region_end (hJ.seq ?_);refine fa_gen (Jf:=λa=>CEnds _ _ _ _ _ _ [(bas 5 .normal).at a _] _) λF hF=>?_
 have f0:F 0=.slice a0 l0 c0:=(hF 0).trans rfl;have f1:F 1=.slice a1 l1 c1:=(hF 1).trans rfl;have f2:F 2=.int .i64 z2:=(hF 2).trans rfl;have f7:F 7=.bool (decide (l0<=4096)):=(hF 7).trans rfl;have f8:F 8=.bool (decide (l1<=4096)):=(hF 8).trans rfl;have f9:F 9=.bool true:=(hF 9).trans rfl;clear hF;refine hJ.code lst (by kernel_rfl) rfl rfl (by kernel_rfl) (N:=λa' w'=>a'.tmps.size=50/\a'.defers=[]/\a'.eval (.tmp 0)=.slice a0 l0 c0/\a'.eval (.tmp 1)=.slice a1 l1 c1/\a'.eval (.tmp 2)=.int .i64 z2/\(l0<=4096/\l1<=4096)/\∃tp,w'=Go.Fw.tpd w1 tp) (R:=λa' w'=>a'.defers=[]/\a'.eval (.tmp 6)=.bool true) (λtp=>?_) (λa' w' h=>?_) (λa' w' td h=>law_done Tryz.func5 rfl (by kernel_rfl) h.1 h.2 hpost)
 ·rw[fa_lit50,f0,f1,f2,f7,f8,f9];dsimp only;clear f0 f1 f2 f7 f8 f9;by_cases q0:l0<=4096
  ·rw[decide_eq_true q0];by_cases q1:l1<=4096
   ·rw[decide_eq_true q1];go_wp2
    refine⟨rfl,rfl,rfl,rfl,rfl,?_⟩;first | exact⟨⟨q0,q1⟩,_,rfl⟩ | exact⟨_,rfl⟩
   ·rw[decide_eq_false q1];go_wp2
    exact⟨rfl,rfl⟩
  ·rw[decide_eq_false q0];go_wp2
   exact⟨rfl,rfl⟩
 obtain⟨k1,k2,f0,f1,f2,⟨q0,q1⟩,tp,rfl⟩:=h;refine hJ.tp _ _ tp ?_;obtain⟨F,rfl,hF⟩:=act_fa k1 k2;rw[hF _ (by decide)] at f0 f1 f2;clear k1 k2 hF;have hk1:Kp w w1:=⟨by omega,o1⟩;subst e0 e1;have hkV:=(hk1.tpd tp).tpd tp;generalize Go.Fw.tpd (Go.Fw.tpd w1 tp) tp=V1 at hkV ⊢;clear hk1 o1 z1 w1;obtain⟨k,hk,hkn⟩:∃k:Nat,(IntKind.u64.wrap z2).tmod (100:Int)=(k:Int)/\k<100:=by
  have h0:0<=IntKind.u64.wrap z2:=by unfold IntKind.wrap;simp[IntKind.signed,IntKind.bits];omega
  have h1:0<=(IntKind.u64.wrap z2).tmod (100:Int):=Int.tmod_nonneg _ h0;have h2:(IntKind.u64.wrap z2).tmod (100:Int)<100:=Int.tmod_lt_of_pos _ (by omega);exact⟨((IntKind.u64.wrap z2).tmod (100:Int)).toNat,by omega,by omega⟩
 refine hJ.seq (hJ.code lst (by kernel_rfl) rfl rfl (by kernel_rfl) (N:=λa' w'=>a'.tmps.size=50/\a'.defers=[]/\a'.eval (.tmp 0)=.slice a0 old.length c0/\a'.eval (.tmp 1)=.slice a1 new.length c1/\a'.eval (.tmp 2)=.int .i64 ((k+1:Nat):Int)/\∃tp,w'=Go.Fw.tpd V1 tp) (R:=λa' w'=>False) (λtp=>?_) (λa' w' h=>?_) (λa' w' td h=>h.elim))
 ·rw[fa_lit50,f0,f1,f2];dsimp only;clear f0 f1 f2;have hwk:IntKind.i64.wrap (k:Int)=(k:Int):=wrap_i64 k (by omega);have hwk1:IntKind.i64.wrap (1+(k:Int))=((k+1:Nat):Int):=by rw[←wrap_i64 (k+1) (by omega)];congr 1;omega
  clear hJ hpost h0 h1 n0 hkV hB hSlt hS0 hS1 hz2 hg q0 q1 hc0 hm0 hc1;go_wp2
  exact⟨rfl,rfl,rfl,rfl,rfl,_,rfl⟩
 obtain⟨k1,k2,f0,f1,f2,tp2,rfl⟩:=h;have hk1:=hkV.tpd tp2;generalize Go.Fw.tpd V1 tp2=w1 at hk1 ⊢;clear hkV;obtain⟨G,rfl,hF⟩:=act_fa k1 k2;rw[hF _ (by decide)] at f0 f1 f2;clear k1 k2 hF;have hz1:=hk1.size;obtain⟨be,hbe⟩:∃be,be=w.heap.size:=⟨_,rfl⟩;obtain⟨n1,hn1⟩:∃n1,n1=w1.heap.size:=⟨_,rfl⟩;have hben:be<n1:=by omega
 refine hJ.seq (hJ.code lst (by kernel_rfl) rfl rfl (by kernel_rfl) (N:=λa' w'=>a'.tmps.size=50/\a'.defers=[]/\a'.eval (.tmp 0)=.slice a0 old.length c0/\a'.eval (.tmp 1)=.slice a1 new.length c1/\a'.eval (.tmp 2)=.int .i64 ((k+1:Nat):Int)/\∃pf bf,a'.eval (.tmp 10)=.pointer (some ⟨pf,0,none⟩)/\FRep w' (λb=>b<n1/\b≠be) pf bf be (Fl.init old 64)/\Kp w w'/\n1<=w'.heap.size/\n1<=pf/\n1<=bf) (R:=λa' w'=>False) (λtp=>?_) (λa' w' h=>?_) (λa' w' td h=>h.elim))
 ·rw[fa_lit50,f0,f1,f2];dsimp only;clear f0 f1 f2;have hnf:=newflash_ok (Go.Fw.tpd w1 tp) (λb=>b<n1/\b≠be) a0 old.length c0 old rfl q0 ((hk1.tpd tp).bytes h0) n0 64 (by decide) be (by show be<w1.heap.size;omega) (λb hb=>by show b<w1.heap.size;omega) (λx=>x.2 rfl);have hsz:n1=(Go.Fw.tpd w1 tp).heap.size:=hn1;have hnf2:Calls Tryz.prog 18 #[.slice a0 old.length c0,.int .i64 64] (Go.Fw.tpd w1 tp) λe w'=>∃pf bf,e=.returned (.pointer (some ⟨pf,0,none⟩))/\(FRep w' (λb=>b<n1/\b≠be) pf bf be (Fl.init old 64)/\Kp w w'/\n1<=w'.heap.size/\n1<=pf/\n1<=bf):=(hnf.mono λe w' ⟨pf,bf,q1,q2,q3,q4,q5⟩=>⟨pf,bf,q1,q2,(hk1.tpd tp).below q3,by have:=q3.size;omega,by omega,by omega⟩)
  have HNF:=Lib.hid hnf2;clear hJ hpost h0 h1 n0 hk1 hB hSlt hS0 hS1 hz2 hg q0 q1 hc0 hm0 hc1 hk hkn hz1 hben hnf hnf2 hsz hn1 hbe;obtain⟨U,hU⟩:∃U,U=Go.Fw.tpd w1 tp:=⟨_,rfl⟩;rw[←hU] at HNF ⊢;clear hU;go_wp2_with (go_at_call 18;go_must (refine HNF.out.mono ?_;rintro e w' ⟨pf,bf,rfl,hx⟩;have HX:=Lib.hid hx;clear hx))
  exact⟨rfl,rfl,rfl,rfl,rfl,pf,bf,rfl,HX.out⟩
 obtain⟨k1,k2,f0,f1,f2,pf,bf,f10,hfr,hk2,hsz,hpf,hbf⟩:=h;obtain⟨F,rfl,hF⟩:=act_fa k1 k2;rw[hF _ (by decide)] at f0 f1 f2 f10;clear k1 k2 hF;refine hJ.seq (hJ.region ?_);obtain⟨va,hva⟩:∃va:Value,va=.slice a0 old.length c0:=⟨_,rfl⟩;obtain⟨vb,hvb⟩:∃vb:Value,vb=.slice a1 new.length c1:=⟨_,rfl⟩;rw[←hva] at f0;rw[←hvb] at f1;refine hJ.opf lst rfl rfl (by kernel_rfl) rfl (w':=w') (v:=.pointer (some ⟨pf,0,none⟩)) (λtp=>ex_move rfl ((fa_eval (by decide)).trans f10)) ?_;refine hJ.opf lst rfl rfl (by kernel_rfl) rfl (w':=w') (v:=va) (λtp=>ex_move rfl ((fa_eval (by decide)).trans f0)) ?_;refine hJ.opf lst rfl rfl (by kernel_rfl) rfl (w':=w') (v:=vb) (λtp=>ex_move rfl ((fa_eval (by decide)).trans f1)) ?_;refine hJ.opf lst rfl rfl (by kernel_rfl) rfl (w':=w') (v:=.int .i64 ((k+1:Nat):Int)) (λtp=>ex_move rfl ((fa_eval (by decide)).trans f2)) ?_;refine hJ.callop rfl (wanted_plain rfl _) rfl (by kernel_rfl) (by kernel_rfl) ?_;rw[m4' (a:=.pointer (some ⟨pf,0,none⟩)) (b:=va) (c:=vb) (d:=.int .i64 ((k+1:Nat):Int)) ((fa_eval (by decide)).trans rfl) ((fa_eval (by decide)).trans rfl) ((fa_eval (by decide)).trans rfl) ((fa_eval (by decide)).trans rfl)];subst hva hvb;have hg2:=hk2.gv hg;refine pipe_ends (n0:=n1) (be:=be) hB hSlt hk2.old (by omega) (by omega) hfr hpf hbf hsz (by omega) (by omega) (hk2.bytes h0) (hk2.bytes h1) q0 hc0 q1 hc1 hm0 hS0 hS1 (atOp_at _) hg2 hben λU be' hfr' hkp hus=>?_
 rw[finish_fa rfl rfl];refine hJ.opf lst rfl rfl (by kernel_rfl) rfl (w':=U) (v:=.int .i64 0) (λtp=>ex_assign rfl ((fa_eval (by decide)).trans rfl)) ?_;refine hJ.region_end ?_;refine fa_gen (Jf:=λa=>CEnds _ _ _ _ _ _ [(bas 5 .normal).at a _] _) λH hH=>?_
 have g0:H 0=.slice a0 old.length c0:=(hH 0).trans f0;have g1:H 1=.slice a1 new.length c1:=(hH 1).trans f1;have g10:H 10=.pointer (some ⟨pf,0,none⟩):=(hH 10).trans f10;have g11:H 11=.int .i64 0:=(hH 11).trans rfl;clear hH f0 f1 f2 f10;have hU0:∀a v,w.cell? a=some v->U.cell? a=some v:=λa v h=>by
  have hb:=block_lt_of_cell h;exact hkp a v (by omega) (by omega) (cell_keep hk2.old h)
 have b0:Bytes U a0 old:=λi hi=>by obtain⟨b,o,e,hc⟩:=h0 i hi;exact⟨b,o,e,hU0 _ _ hc⟩
 have b1:Bytes U a1 new:=λi hi=>by obtain⟨b,o,e,hc⟩:=h1 i hi;exact⟨b,o,e,hU0 _ _ hc⟩
 obtain⟨y1,y2,y3,y4,y5⟩:=whole_ap q0 q1;refine hJ.code lst (by kernel_rfl) rfl rfl (by kernel_rfl) (N:=λ_ _=>False) (R:=λa' w'=>a'.defers=[]/\a'.eval (.tmp 6)=.bool true) (λtp=>?_) (λ_ _ h=>h.elim) (λa' w' td h=>law_done Tryz.func5 rfl (by kernel_rfl) h.1 h.2 hpost);rw[fa_lit50,g0,g1,g10,g11];dsimp only;clear g0 g1 g10 g11;have hho:=holds_ok (Go.Fw.tpd U tp) (λ_=>False) pf bf be' _ (hfr'.tpd tp) a0 a1 c0 c1 old new y2 y3 y4 y5 b0 b1;have HO:=Lib.hid hho;clear hJ hpost h0 h1 n0 hk1 hB hSlt hS0 hS1 hz2 hg q0 q1 hc0 hm0 hc1 hk hkn hz1 hben hn1 hbe hho b0 b1 hU0 y1 y2 y3 y4 y5 hfr' hkp hus hfr hk2 hsz hpf hbf hg2;generalize Go.Fw.tpd U tp=U1 at HO ⊢;go_wp2_with (go_at_call 20;go_must (refine HO.out.mono ?_;rintro e w3 ⟨rfl,hx⟩;clear hx))
 exact⟨rfl,rfl⟩
end Go.Proofs.YtkmgcggoemlaaaaGreatDoor
end
section
/- The law Piped of package firmwarelaw returns true for every input: a patch that is made in a goroutine, whose pieces come through a channel. No condition: any images, any length of the pieces. -/
set_option maxRecDepth 100000
namespace Go.Proofs.YtkmgcggoemlaaaaGreatDoor
open Go Go.Fw Go.Conc Go.RowKit Go.Fwm Go.ChangeShapes Go.WideShapes Go.ChangeAt
theorem piped_lifted (os:Os)(started:os.Started)(H:Type)(enc:TypeId × Value->H) :
  ReturnsInLeavingWide {} Tryz.checked os 5 .any (λw args=>(Rows.pipedSpec.pre enc Tryz.prog Tryz.f5 [] false w args/\laidMetH Tryz.prog laidL w)/\sizedMet enc Tryz.prog Tryz.f5 (OpenSpec.ofChange Rows.pipedSpec) false w args)
   (Rows.pipedSpec.post enc Tryz.prog Tryz.f5 false true false false):=by
 refine rl_and (C:=Tryz.checked) (X:=λw _=>laidMetH Tryz.prog laidL w) (λ_ _ _ hh h=>h.of_heap hh) own started Tryz.func5
  (ChangeSpec.witness_at (enc:=enc) (C:=Tryz.checked) (os:=os) (X:=λw _=>laidMetH Tryz.prog laidL w) false (laidWorld os) #[.slice none 0 0,.slice none 0 0,.int .i64 0] 8 rfl (by kernel_rfl) (by kernel_rfl) (by kernel_rfl) (by kernel_rfl) (by kernel_rfl) (laidWorld_met os _)) ?_
 intro W base args ds gs before hval0 hW hL hsh;have hval:∀(j:Nat) t v,Tryz.f5.params[j]? = some t->args[j]? = some v->Value.okWide Tryz.prog W .any base t v:=hval0;have hW':=hW;obtain⟨p,q,hA0,hV,rfl,hfz,hnd⟩:=hW;have hA:DataW.TrodAll enc Tryz.prog W 0 (λ_=>true) true Tryz.f5.params.toList args.toList ds p:=hA0;rw[Tryz.params5] at hA hval;obtain⟨v0,vs0,d0,ds0,p0,q0,hargs,rfl,rfl,h0,r0⟩:=trodAll_cons hA;obtain⟨v1,vs1,d1,ds1,p1,q1,rfl,rfl,rfl,h1,r1⟩:=trodAll_cons r0;obtain⟨v2,vs2,d2,ds2,p2,q2,rfl,rfl,rfl,h2,r2⟩:=trodAll_cons r1;obtain⟨rfl,rfl,rfl⟩:=trodAll_nil r2;obtain rfl:args=#[v0,v1,v2]:=by cases args;simp_all
 obtain⟨rfl,rfl⟩:=trodVars_none hV;obtain⟨a0,l0,c0,b0,rfl,s0⟩:=arg22 (hval 0 22 v0 rfl rfl) h0;obtain⟨a1,l1,c1,b1,rfl,s1⟩:=arg22 (hval 1 22 v1 rfl rfl) h1;obtain⟨n2,rfl,rfl,rfl,w2⟩:=open_int Tryz.underlying3 (hval 2 3 v2 rfl rfl) h2;have hlt:∀{t:TypeId} {v:Value} {d:DataW H} {ps:List MemPlace},DataW.Trod enc Tryz.prog W 0 (λ_=>true) true t v d ps->∀x∈ps,x.block<W.heap.size:=λh=>by obtain⟨m,hm⟩:=h;exact DataW.trod_lt m _ _ _ hm
 have hbl:∀x,(∃c t fr,W.heap[x]? = some (Obj.cells c t fr))->x<W.heap.size:=λx ⟨c,t,fr,e⟩=>(Array.getElem?_eq_some_iff.1 e).1
 clear hA0 hval0;refine start_net (handle_of_laid hL) (shaped2 hsh) (by kernel_rfl) (λi x hx=>?_) λw S hs hg hb hB hSl hSa=>?_
 ·rcases i with _ | _ | _ | i
  ·simp at hx;subst hx;exact .inr ⟨_,_,_,rfl,s0.cells⟩
  ·simp at hx;subst hx;exact .inr ⟨_,_,_,rfl,s1.cells⟩
  ·simp at hx;subst hx;exact .inl ⟨_,_,rfl⟩
  ·simp at hx
 ·refine piped_priv (W:=W) (λW' bel=>?_) hg hB (λb h=>by rw[hs];exact hSl b h) (bounds_i64 w2) (hb _ _ s0.bytes) s0.len_ s0.le s0.cap_le (hb _ _ s1.bytes) s1.len_ s1.le s0.nil_ (λa e=>hSa 0 _ a.block rfl (by rw[e];rfl)) (λa e=>hSa 1 _ a.block rfl (by rw[e];rfl));exact⟨_,_,_,[],_,[],hW',trodAll_mk1 (shut_bool Tryz.underlying4 _),(trodAll_cons_mk (Below.trod laidOut (by kernel_rfl) (of_decide_eq_true (by kernel_rfl)) h0 bel (hlt h0)) (trodAll_cons_mk (Below.trod laidOut (by kernel_rfl) (of_decide_eq_true (by kernel_rfl)) h1 bel (hlt h1)) (trodAll_cons_mk (shut_int Tryz.underlying3 w2) trodAll_mk0))),rfl,bel.frame _,λh=>by cases h⟩
theorem piped_row:Rows.PipedSaid:=
 OpenClaim.holds_of_wide_leaving 5 Tryz.f5 rfl rfl rfl rfl rfl rfl rfl ⟨rfl,rfl,rfl,rfl,rfl⟩ rfl rfl rfl rfl rfl (by kernel_rfl) Tryz.func5 (by kernel_rfl)
  (of_decide_eq_true (by kernel_rfl)) (by unfold Func.isWrapper;first | (rw[if_pos (by decide +kernel)];kernel_rfl) | (rw[if_neg (by decide +kernel)];exact⟨rfl,rfl⟩))
  (λos started H enc _=>piped_lifted os started H enc)
theorem piped_card:Rows.PipedCardSaid:=
 card_goes .later [.handle] true (true, "a92912a9f4f08fbf195758ad90ff77dd450bbb634acd63370d8d1a8325452fc3") true true
  piped_row (by kernel_rfl) piped_row_tie rfl ⟨rfl,rfl⟩ (by kernel_rfl) rfl
  (λf fn hf hfn=>by
   obtain rfl:f=5:=Option.some.inj ((show Tryz.prog.funcNamed Rows.pipedRow.func=some 5 by kernel_rfl).symm.trans hf) |>.symm;obtain rfl:fn=Tryz.f5:=(Option.some.inj (Tryz.func5.symm.trans hfn)).symm;exact⟨by kernel_rfl,λj t ht=>by
    have h3:t∈[3,22]:=by
     rw[Tryz.params5] at ht;rcases j with _ | _ | _ | j<;>simp at ht<;>subst ht<;>decide
    have h4:[3,22].all (λt=>Tryz.prog.wantsStandIn t == false)=true:=by kernel_rfl
    exact beq_iff_eq.1 (List.all_eq_true.1 h4 t h3)⟩)
  (by kernel_rfl)
#print axioms piped_card
end Go.Proofs.YtkmgcggoemlaaaaGreatDoor
end
