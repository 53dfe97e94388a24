/-
  Part 31 of the common ground of this seat: what single parts show stands ahead of each.
  No condition.
-/
import Derived.Test.YtkmgcggoemlaaaaGreatDoorJ30
import Derived.Test.YtkmgcggoemlaaaaGreatDoorJ16
import Derived.Test.YtkmgcggoemlaaaaGreatDoorJ27
import Derived.Test.YtkmgcggoemlaaaaGreatDoorJ23
set_option linter.unusedSimpArgs false
set_option linter.unusedVariables false
set_option linter.constructorNameAsVariable false
section
/- Pipe in a network: its beginning, to the go statement and the first receive. -/
set_option maxHeartbeats 4000000
set_option maxRecDepth 100000
namespace Go.Proofs.YtkmgcggoemlaaaaGreatDoor
open Go Go.Fw Go.Conc Go.RowKit Go.Fwm
theorem frzX_only {X:Nat->Prop}(w:World):Only X w (frzX X w):=⟨by rw[frzX_size];exact Nat.le_refl _,λb _ hn=>frzX_out hn⟩
theorem fa_lit36 (f:Nat->Value)(D:List Deferred):fa 36 f D=⟨#[f 0,f 1,f 2,f 3,f 4,f 5,f 6,f 7,f 8,f 9,f 10,f 11,f 12,f 13,f 14,f 15,f 16,f 17,f 18,f 19,f 20,f 21,f 22,f 23,f 24,f 25,f 26,f 27,f 28,f 29,f 30,f 31,f 32,f 33,f 34,f 35],D⟩:=by kernel_rfl
structure Pin (V W:World) (n0 be pf bf pa:Nat) (x:AF):Prop where
 rep:∃be',ARep W (λ_=>False) pa pf bf be' x.a x.f/\(be'=be\/n0<=be')
 keep:∀a v,a.block<n0->a.block≠be->V.cell? a=some v->W.cell? a=some v
 size:V.heap.size<=W.heap.size
theorem Pin.tpd {V W:World}{n0 be pf bf pa:Nat}{x:AF}(h:Pin V W n0 be pf bf pa x)(tp:Tape):Pin V (Go.Fw.tpd W tp) n0 be pf bf pa x:=by
 obtain⟨⟨be',h1,h2⟩,h3,h4⟩:=h;exact⟨⟨be',h1.only (F:=λ_=>False) ⟨Nat.le_refl _,λ_ _ _=>rfl⟩ λb x=>x.elim,h2⟩,h3,h4⟩
theorem Pin.feed {V W U:World}{n0 be pf bf pa:Nat}{x:AF}(h:Pin V W n0 be pf bf pa x)(hU1:W.heap.size<=U.heap.size)(hU2:∀b,b<W.heap.size->U.heap[b]? = W.heap[b]?)(hn0:n0<=V.heap.size)(hpa:n0<=pa)(hpf:n0<=pf)(hbf:n0<=bf)(hg:GV V)(h0be:0≠be)(hbe:be<n0){f0:Fl}{R0:Nat}(hS:Stt f0 R0 x)(hE:f0.events.length<=1000000)(hR:R0<=100000000000)
  {n c:Nat} {zs:List UInt8} (hl:zs.length=n) (hn:n<=1000000) (hx:Bytes U (some ⟨W.heap.size,0,none⟩) zs) (hat:x.a.at_+n<=1000000000000) (hok:(x.feed zs).a.fault=.none) :
  Calls Tryz.prog 33 #[.pointer (some ⟨pa,0,none⟩),.slice (some ⟨W.heap.size,0,none⟩) n c] U λe W'=>e=.returned .nilIface/\Pin V W' n0 be pf bf pa (x.feed zs):=by
 obtain⟨⟨be',h1,h2⟩,h3,h4⟩:=h;have l1:=h1.aolt pa (.inl rfl);have l2:=h1.aolt pf (.inr (.inl rfl));have l3:=h1.aolt bf (.inr (.inr (.inl rfl)));have l4:=h1.aolt be' (.inr (.inr (.inr rfl)));have hgU:GV U:=cell_keep hU2 (h3 ⟨0,0,none⟩ _ (show 0<n0 by omega) h0be hg);have h1U:ARep U (λ_=>False) pa pf bf be' x.a x.f:=h1.only (F:=λb=>W.heap.size<=b) ⟨hU1,λb hb _=>hU2 b hb⟩ λb hb hlt=>by omega
 refine(feed_ok U _ pa pf bf be' x h1U hgU (by rintro(q | q | q | q)<;>omega) hS hE hR _ n c zs hl hn hx (λa e=>by
  cases e;rintro(q|q|q|q)
  ·exact absurd (show W.heap.size=pa from q) (by omega)
  ·exact absurd (show W.heap.size=pf from q) (by omega)
  ·exact absurd (show W.heap.size=bf from q) (by omega)
  ·exact absurd (show W.heap.size=be' from q) (by omega)) hat).mono ?_
 rintro e W' ⟨be2,v,rfl,hA,hv⟩;rw[hok] at hv;obtain rfl:v=_:=hv;have hle:=hA.on.le;refine⟨rfl,⟨be2,hA.rep,?_⟩,λa v hab hbe' hc=>?_,by omega⟩
 ·rcases hA.bq with e | e
  ·rw[e];exact h2
  ·right;omega
 ·have hWc:=h3 a v hab hbe' hc;have hUc:=cell_keep hU2 hWc;refine(World.cell?_of_block (hA.on.keep _ (block_lt_of_cell hUc) ?_)).trans hUc;rintro(q | q | q | q)<;>omega
structure PEnd (V W:World) (n0 be pf bf:Nat) (f:Fl):Prop where
 rep:∃be',FRep W (λ_=>False) pf bf be' f
 keep:∀a v,a.block<n0->a.block≠be->V.cell? a=some v->W.cell? a=some v
 size:V.heap.size<=W.heap.size
theorem PEnd.below {V W W':World}{n0 be pf bf:Nat}{f:Fl}(h:PEnd V W n0 be pf bf f)(hb:Below W.heap.size W W'):PEnd V W' n0 be pf bf f:=by
 obtain⟨⟨be',h1⟩,h2,h3⟩:=h;have hs:=hb.size;exact⟨⟨be',h1.only (F:=λ_=>False) ⟨hs,λb hlt _=>hb.block b hlt⟩ λb x=>x.elim⟩,λa v q1 q2 q3=>cell_keep (λb hlt=>hb.block b hlt) (h2 a v q1 q2 q3),by omega⟩
theorem Pin.finish {V W:World}{n0 be pf bf pa:Nat}{x:AF}(h:Pin V W n0 be pf bf pa x)(hpa:n0<=pa)(hpf:n0<=pf)(hbf:n0<=bf)(he:x.f.events.length<1000000000)(hok:x.finish.fault=.none) :
  Calls Tryz.prog 32 #[.pointer (some ⟨pa,0,none⟩)] W λe W'=>e=.returned .nilIface/\PEnd V W' n0 be pf bf x.finish.x.f:=by
 obtain⟨⟨be',h1,h2⟩,h3,h4⟩:=h;refine(finish_ok W _ pa pf bf be' x h1 he).mono ?_;rintro e W' ⟨be2,v,rfl,hA,hv⟩;rw[hok] at hv;obtain rfl:v=_:=hv;have hle:=hA.on.le;refine⟨rfl,⟨be2,hA.rep.fl.wider λb _ x=>x.elim⟩,λa v hab hbe' hc=>?_,by omega⟩;have hWc:=h3 a v hab hbe' hc;refine(World.cell?_of_block (hA.on.keep _ (block_lt_of_cell hWc) ?_)).trans hWc;rintro(q | q | q | q)<;>omega
theorem pipe_jc {K:Cfg}{L0:List (Msg->Prop)}(hN:NetC K (valQ .nilIface) L0){V:World}{n0 be pf bf:Nat}{X:Nat->Prop}{Ao An:Option Addr}{co cn n:Nat}{old next:List UInt8}{f:Fl}{cfr:Frame}{cs:List Frame}
  (hfr:FRep V X pf bf be f) (hX:∀b,b<n0->b≠be->X b) (hX0:∀b,K.X0 b->b<n0/\b≠be) (hpf:n0<=pf) (hbf:n0<=bf) (hnV:n0<=V.heap.size)
  (hn1:1<=n) (hn2:n<=100) (ho:Bytes V Ao old) (hn:Bytes V An next) (hol:old.length<=4096) (hoc:old.length<=co) (hnl:next.length<=4096) (hnc:next.length<=cn) (hco:co<=maxLen)
  (hlo:∀a,Ao=some a->a.block<V.heap.size) (hln:∀a,An=some a->a.block<V.heap.size) (hP:Part FN Tryz.prog.globals.size K.X0 K.X0 V) (hXo:InS K.X0 Ao old.length co) (hXn:InS K.X0 An next.length cn)
  (hL0:L0=(pcs n (patchG (lgOf old) old next).length (patchG (lgOf old) old next)).map rowQ) (hG:Tryz.prog.globals.size<=V.heap.size)
  {N0:Nat} {W0:World} {Post:Value->World->Prop} (hKD:K.D=CEnds Tryz.prog FN N0 W0 Post []) (hat:AtOp cfr) (hf:f=Fl.init old 64) {νn:Nat->Option Nat} (hνn:νn=λ_=>none) (hg:GV V) (h0be:0≠be) (hbe:be<n0)
  (hk:∀(W:World) (be':Nat),FRep W (λ_=>False) pf bf be' ((Fl.init old 64).apply (patchG (lgOf old) old next)).x.f->(∀a v,a.block<n0->a.block≠be->V.cell? a=some v->W.cell? a=some v)->V.heap.size<=W.heap.size->CEnds Tryz.prog FN N0 W0 Post [] (cfr.finish (.int .i64 0) :: cs) W) :
  JC Tryz.prog FN K (Net.MainS (valQ .nilIface) L0) νn 0 (λ_=>none) (Frame.enter Tryz.prog 28 #[.pointer (some ⟨pf,0,none⟩),.slice Ao old.length co,.slice An next.length cn,.int .i64 (n:Int)] .normal :: cfr :: cs) V:=by
 obtain⟨lp,hlp⟩:∃lp:Nat->Option Obj,lp=λ_=>none:=⟨_,rfl⟩
 rw[←hlp];have hJ0:Clo Tryz.prog FN (JC Tryz.prog FN K (Net.MainS (valQ .nilIface) L0) νn 0 lp):=jc_clo hN.hD (λF h=>.step F h) (mainS_inh hN.q1 hN.l0) _ 0 _;have hJ1:∀ν,Clo Tryz.prog FN (JC Tryz.prog FN K (Mk1S (valQ .nilIface) L0) ν 0 lp):=λν=>jc_clo hN.hD (λF h=>.step F h) (mk1S_inh hN.q1 hN.l0) _ 0 _
 have hJ2:∀ν,Clo Tryz.prog FN (JC Tryz.prog FN K (GoS (valQ .nilIface) L0) ν 0 lp):=λν=>jc_clo hN.hD (λF h=>.step F h) (goS_inh hN.q1 hN.l0) _ 0 _
 have hJ3:∀ν,Clo Tryz.prog FN (JC Tryz.prog FN K (Net.EndS (valQ .nilIface) L0) ν 0 lp):=λν=>jc_clo hN.hD (λF h=>.step F h) (endS_inh _ _) _ 0 _
 have hJ4:∀ν,Clo Tryz.prog FN (JC Tryz.prog FN K (Net.RcvS 0 (Net.Steps λs=>s=.done) L0) ν 0 lp):=λν=>rcvS_clo hN.hD ⟨.done,.base rfl⟩ L0
 rw[enter_fa _ _ 36 Tryz.func28 rfl rfl (by simp)];obtain⟨W1,hW1⟩:∃W,W=V.alloc (.cells #[.slice Ao old.length co] 22):=⟨_,rfl⟩;obtain⟨s1,b1,k1⟩:=box1 hW1;obtain⟨W2,hW2⟩:∃W,W=W1.alloc (.cells #[.slice An next.length cn] 22):=⟨_,rfl⟩;obtain⟨s2,b2,k2⟩:=box1 hW2;obtain⟨W3,hW3⟩:∃W,W=W2.alloc (.cells #[.int .i64 (n:Int)] 3):=⟨_,rfl⟩;obtain⟨s3,b3,k3⟩:=box1 hW3;refine hJ0.seq (hJ0.region ?_);refine hJ0.opf lst rfl rfl (by kernel_rfl) rfl (w':=W1) (v:=.pointer (some ⟨V.heap.size,0,none⟩)) (λtp=>by rw[hW1];exact ex_box22 rfl (fa_eval (by decide))) ?_;refine hJ0.opf lst rfl rfl (by kernel_rfl) rfl (w':=W2) (v:=.pointer (some ⟨V.heap.size+1,0,none⟩)) (λtp=>by rw[hW2,←s1];exact ex_box22 rfl ((fa_eval (by decide)).trans rfl)) ?_;refine hJ0.opf lst rfl rfl (by kernel_rfl) rfl (w':=W3) (v:=.pointer (some ⟨V.heap.size+2,0,none⟩)) (λtp=>by rw[hW3,show V.heap.size+2=W2.heap.size by omega];exact ex_box3 rfl ((fa_eval (by decide)).trans rfl)) ?_;refine hJ0.opf lst rfl rfl (by kernel_rfl) rfl (w':=W3) (v:=.int .i64 0) (λtp=>ex_assign (x:=.const (.int .i64 0)) rfl rfl) ?_;refine hJ0.region_end (hJ0.seq (hJ0.region ?_));refine fa_gen (Jf:=λa=>JC _ _ _ _ _ _ _ ((bas 28 .normal).at a _ :: _) _) λF hF=>?_
 have f0:F 0=.pointer (some ⟨pf,0,none⟩):=(hF 0).trans rfl;have f5:F 5=.pointer (some ⟨V.heap.size,0,none⟩):=(hF 5).trans rfl;have f6:F 6=.pointer (some ⟨V.heap.size+1,0,none⟩):=(hF 6).trans rfl;have f7:F 7=.pointer (some ⟨V.heap.size+2,0,none⟩):=(hF 7).trans rfl;clear hF;refine jc_mk_at (C1:=Mk1S (valQ .nilIface) L0) (ch:=0) (cap:=0) (d:=14) rfl rfl rfl (λA W=>ex_chan81 rfl rfl) (by rw[hN.cap];rfl) (by rw[hN.R];rfl) (λk h=>.base ⟨k,rfl,h⟩) λc0=>?_
 have hJ:=hJ1 (Net.upd νn 0 (some c0));obtain⟨W4,hW4⟩:∃W,W=W3.alloc (.cells #[.chan none] 81):=⟨_,rfl⟩;obtain⟨s4,b4,k4⟩:=box1 hW4;obtain⟨W5,hW5⟩:∃W,W=W4.setCell ⟨W3.heap.size,0,none⟩ (.chan (some c0)):=⟨_,rfl⟩;obtain⟨s5,b5,k5⟩:=setbox b4 hW5;refine hJ.opf lst rfl rfl (by kernel_rfl) rfl (w':=W4) (v:=.pointer (some ⟨W3.heap.size,0,none⟩)) (λtp=>by rw[hW4];exact ex_alloc81 rfl) ?_;refine hJ.skipf lst rfl rfl (by kernel_rfl) rfl (w':=W5) (λtp=>by rw[hW5];exact ex_store81 rfl ((fa_eval (by decide)).trans rfl) ((fa_eval (by decide)).trans rfl) (box_cell b4) (box_free b4)) ?_;refine hJ.region_end (hJ.seq (hJ.region ?_));refine jc_mk_at (C1:=GoS (valQ .nilIface) L0) (ch:=1) (cap:=1) (d:=15) rfl rfl rfl (λA W=>ex_chan82 rfl rfl) (by rw[hN.cap];rfl) (by rw[hN.R];rfl) (λk h=>.base ⟨k,rfl,h⟩) λc1=>?_
 have hJ:=hJ2 (Net.upd (Net.upd νn 0 (some c0)) 1 (some c1));have hν0:Net.upd (Net.upd νn 0 (some c0)) 1 (some c1) 0=some c0:=(Net.upd_ne _ _ (by decide)).trans (Net.upd_same _ _ _);have hν1:Net.upd (Net.upd νn 0 (some c0)) 1 (some c1) 1=some c1:=Net.upd_same _ _ _;generalize Net.upd (Net.upd νn 0 (some c0)) 1 (some c1)=ν at hJ hν0 hν1 ⊢;obtain⟨W6,hW6⟩:∃W,W=W5.alloc (.cells #[.chan none] 82):=⟨_,rfl⟩;obtain⟨s6,b6,k6⟩:=box1 hW6;obtain⟨W7,hW7⟩:∃W,W=W6.setCell ⟨W5.heap.size,0,none⟩ (.chan (some c1)):=⟨_,rfl⟩;obtain⟨s7,b7,k7⟩:=setbox b6 hW7;refine hJ.opf lst rfl rfl (by kernel_rfl) rfl (w':=W6) (v:=.pointer (some ⟨W5.heap.size,0,none⟩)) (λtp=>by rw[hW6];exact ex_alloc82 rfl) ?_;refine hJ.skipf lst rfl rfl (by kernel_rfl) rfl (w':=W7) (λtp=>by rw[hW7];exact ex_store82 rfl ((fa_eval (by decide)).trans rfl) ((fa_eval (by decide)).trans rfl) (box_cell b6) (box_free b6)) ?_;obtain⟨z,hz⟩:∃z,z=V.heap.size:=⟨_,rfl⟩;have e3:W3.heap.size=z+3:=by omega
 have e5:W5.heap.size=z+4:=by omega
 have e7:W7.heap.size=z+5:=by omega
 have kV:∀b,b<z->W7.heap[b]? = V.heap[b]?:=λb hb=>by
  rw[k7 b (by omega),k6 b (by omega),k5 b (by omega),k4 b (by omega),k3 b (by omega),k2 b (by omega),k1 b (by omega)]
 have x0:W7.heap[z]? = some (.cells #[.slice Ao old.length co] 22 (0,0)):=by
  rw[k7 _ (by omega),k6 _ (by omega),k5 _ (by omega),k4 _ (by omega),k3 _ (by omega),k2 _ (by omega),hz];exact b1
 have x1:W7.heap[z+1]? = some (.cells #[.slice An next.length cn] 22 (0,0)):=by
  rw[k7 _ (by omega),k6 _ (by omega),k5 _ (by omega),k4 _ (by omega),k3 _ (by omega),hz,←s1];exact b2
 have x2:W7.heap[z+2]? = some (.cells #[.int .i64 (n:Int)] 3 (0,0)):=by
  rw[k7 _ (by omega),k6 _ (by omega),k5 _ (by omega),k4 _ (by omega),show z+2=W2.heap.size by omega];exact b3
 have x3:W7.heap[z+3]? = some (.cells #[.chan (some c0)] 81 (0,0)):=by
  rw[k7 _ (by omega),k6 _ (by omega),←e3];exact b5
 have x4:W7.heap[z+4]? = some (.cells #[.chan (some c1)] 82 (0,0)):=by rw[←e5];exact b7
 rw[e3,e5];rw[←hz] at f5 f6 f7;clear hW1 hW2 hW3 hW4 hW5 hW6 hW7 s1 s2 s3 s4 s5 s6 s7 b1 b2 b3 b4 b5 b6 b7 k1 k2 k3 k4 k5 k6 k7 e3 e5;refine hJ.region_end (hJ.seq (hJ.region ?_));refine fa_gen (Jf:=λa=>JC _ _ _ _ _ _ _ ((bas 28 .normal).at a _ :: _) _) λF1 hF1=>?_
 have g0:F1 0=.pointer (some ⟨pf,0,none⟩):=(hF1 0).trans f0;have g5:F1 5=.pointer (some ⟨z,0,none⟩):=(hF1 5).trans f5;have g6:F1 6=.pointer (some ⟨z+1,0,none⟩):=(hF1 6).trans f6;have g7:F1 7=.pointer (some ⟨z+2,0,none⟩):=(hF1 7).trans f7;have g9:F1 9=.pointer (some ⟨z+3,0,none⟩):=(hF1 9).trans rfl;have g10:F1 10=.pointer (some ⟨z+4,0,none⟩):=(hF1 10).trans rfl;clear hF1 f0 f5 f6 f7;refine hJ.makef rfl rfl rfl (by kernel_rfl) rfl _ (m5 ((fa_eval (by decide)).trans g9) ((fa_eval (by decide)).trans g5) ((fa_eval (by decide)).trans g6) ((fa_eval (by decide)).trans g10) ((fa_eval (by decide)).trans g7)) ?_;obtain⟨X2,hX2⟩:∃X2:Nat->Prop,X2=λb=>((((K.X0 b\/b=z)\/b=z+1)\/b=z+2)\/b=z+3)\/b=z+4:=⟨_,rfl⟩
 have hP7:Part FN Tryz.prog.globals.size K.X0 K.X0 W7:=hP.keep λb hb=>kV b (by have:=(hX0 b hb).1;omega)
 have hPX:Part FN Tryz.prog.globals.size K.X0 X2 W7:=by
  rw[hX2];refine((((hP7.more x0 λv hv=>?_).more x1 λv hv=>?_).more x2 λv hv=>?_).more x3 λv hv=>?_).more x4 λv hv=>?_
  ·simp only[List.mem_cons,List.not_mem_nil,or_false] at hv;subst hv;exact InX.slice' hXo
  ·simp only[List.mem_cons,List.not_mem_nil,or_false] at hv;subst hv;exact InX.slice' λa e=>(hXn a e).imp .inl id
  ·simp only[List.mem_cons,List.not_mem_nil,or_false] at hv;subst hv;exact InX.int _ _
  ·simp only[List.mem_cons,List.not_mem_nil,or_false] at hv;subst hv;exact InX.chan _
  ·simp only[List.mem_cons,List.not_mem_nil,or_false] at hv;subst hv;exact InX.chan _
 refine jc_forkb_at (Cc:=Net.MidS (valQ .nilIface) L0) (C1:=Net.EndS (valQ .nilIface) L0) (q:=1) (X:=X2) rfl rfl rfl rfl (by kernel_rfl) ((fa_eval (by decide)).trans (up_same _ _ _)) hPX ?_ (by rw[hN.R];rfl) (by decide) (λs k hc hk=>.base ⟨s,k,rfl,hc,hk⟩) ?_ ?_
 ·intro v hv;have key:∀b,X2 b->InX FN Tryz.prog.globals.size X2 (.pointer (some ⟨b,0,none⟩)):=λb hb=>InX.ptr hb
  simp only[List.mem_cons,List.not_mem_nil,or_false] at hv;rcases hv with rfl | rfl | rfl | rfl | rfl<;>refine key _ ?_<;>rw[hX2]
  ·exact .inl (.inr rfl)
  ·exact .inl (.inl (.inl (.inl (.inr rfl))))
  ·exact .inl (.inl (.inl (.inr rfl)))
  ·exact .inr rfl
  ·exact .inl (.inl (.inr rfl))
 ·have cV:∀a v,V.cell? a=some v->(frzX X2 W7).cell? a=some v:=λa v h=>frzX_cell (cell_keep (λb hb=>kV b (by omega)) h)
  have bV:∀A zs,Bytes V A zs->Bytes (frzX X2 W7) A zs:=λA zs h=>λk hk'=>by obtain⟨b,o,e,hc⟩:=h k hk';exact⟨b,o,e,cV _ _ hc⟩
  exact mid41_jc hN hν0 hν1 (frzX_cell (box_cell x3)) (frzX_cell (box_cell x0)) (frzX_cell (box_cell x1)) (frzX_cell (box_cell x4)) (frzX_cell (box_cell x2)) hn1 hn2 (bV _ _ ho) (bV _ _ hn) hol hoc hnl hnc hco (λa e=>by rw[frzX_size];have:=hlo a e;omega) (λa e=>by rw[frzX_size];have:=hln a e;omega) hP7.frz hXo hXn hL0 (by rw[frzX_size];omega)
 ·have hpz:pf<z:=by obtain⟨_,_,_,_,q,_⟩:=hfr.blk;have:=q.lt;omega
  have hbz:bf<z:=by have:=hfr.fresh.lt;omega
  have hez:be<z:=by have:=hfr.belt;omega
  have hr1:FRep V (λb=>(b<n0/\b≠be)\/z<=b) pf bf be f:=hfr.wider λb hb hx=>hx.elim (λq=>hX b q.1 q.2) λq=>by omega
  have hr2:FRep W7 (λb=>(b<n0/\b≠be)\/z<=b) pf bf be f:=hr1.only (F:=λb=>z<=b) ⟨by omega,λb hb hn=>kV b (by omega)⟩ λb hb hlt=>by omega
  have hr3:FRep (frzX X2 W7) (λb=>(b<n0/\b≠be)\/z<=b) pf bf be f:=hr2.only (frzX_only W7) λb hb hlt=>by
   rw[hX2] at hb;rcases hb with((((hb|hb)|hb)|hb)|hb)|hb
   ·obtain⟨q1,q2⟩:=hX0 b hb;exact⟨.inl ⟨q1,q2⟩,by omega,by omega,q2⟩
   all_goals exact⟨.inr (by omega),by omega,by omega,by omega⟩
  have cV:∀a v,V.cell? a=some v->(frzX X2 W7).cell? a=some v:=λa v h=>frzX_cell (cell_keep (λb hb=>kV b (by omega)) h)
  have c3:(frzX X2 W7).cell? ⟨z+3,0,none⟩=some (.chan (some c0)):=frzX_cell (box_cell x3);have c4:(frzX X2 W7).cell? ⟨z+4,0,none⟩=some (.chan (some c1)):=frzX_cell (box_cell x4);have sz:V.heap.size<=(frzX X2 W7).heap.size:=by rw[frzX_size];omega
  have hU:=hr3.wider (X':=λ_=>False) λb _ x=>x.elim
  generalize frzX X2 W7=U at cV c3 c4 sz hU ⊢;clear hr1 hr2 hr3 kV x0 x1 x2 x3 x4 hPX hP7 hP hX2 hfr hX hJ hJ0 hJ1 hJ2 ho hn hlo hln hXo hXn hX0;have hJe:=hJ3 ν;refine hJe.region_end (hJe.seq (hJe.region ?_));refine hJe.opf lst rfl rfl (by kernel_rfl) rfl (w':=U) (v:=.chan (some c1)) (λtp=>ex_load82 rfl ((fa_eval (by decide)).trans ((up_ne (by decide)).trans g10)) c4) ?_;refine jc_get_at (u:=.nilIface) (C1:=Net.RcvS 0 (Net.Steps λs=>s=.done) L0) (ch:=1) (c:=c1) rfl rfl rfl rfl (by kernel_rfl) ((fa_eval (by decide)).trans rfl) (by kernel_rfl) (λA W h=>ex_recv82 rfl h) hν1 (by rw[hN.R];rfl) (by rw[hN.cap];rfl) (λk h=>.base ⟨k,rfl,h⟩) ?_;have hJr:=hJ4 ν;refine hJr.opf lst rfl rfl (by kernel_rfl) rfl (w':=U) (v:=.nilIface) (λtp=>ex_assign rfl ((fa_eval (by decide)).trans rfl)) ?_;refine hJr.region_end (hJr.seq (hJr.region ?_));refine hJr.opf lst rfl rfl (by kernel_rfl) rfl (w':=U) (v:=.pointer (some ⟨pf,0,none⟩)) (λtp=>ex_move rfl ((fa_eval (by decide)).trans g0)) ?_;refine fa_gen (Jf:=λa=>JC _ _ _ _ _ _ _ ((bas 28 .normal).at a _ :: _) _) λF2 hF2=>?_
  have k9:F2 9=.pointer (some ⟨z+3,0,none⟩):=(hF2 9).trans g9;have k11:F2 11=.nilIface:=(hF2 11).trans rfl;have k19:F2 19=.pointer (some ⟨pf,0,none⟩):=(hF2 19).trans rfl;clear hF2 g0 g5 g6 g7 g9 g10;refine hJr.callf lst rfl rfl rfl (by kernel_rfl) (by kernel_rfl) (by kernel_rfl) rfl _ (m1 ((fa_eval (by decide)).trans k19)) (R:=λv W=>v=.pointer (some ⟨U.heap.size,0,none⟩)/\ARep W (λ_=>False) U.heap.size pf bf be Ap.init f/\(∀b,b<U.heap.size->W.heap[b]? = U.heap[b]?)/\U.heap.size<=W.heap.size) (λtp=>?_) (λv W hR=>?_)
  ·refine(new_ok (Go.Fw.tpd U tp) (λ_=>False) pf bf be f (hU.tpd tp) (λb x=>x.elim) ⟨id,id,id⟩).mono ?_;rintro e w' ⟨h1,h2,h3⟩;exact⟨_,h1,rfl,h2,λb hb=>h3.block b hb,h3.size⟩
  obtain⟨rfl,hA,kU,sU⟩:=hR;refine hJr.opf lst rfl rfl (by kernel_rfl) rfl (w':=W) (v:=.pointer (some ⟨U.heap.size,0,none⟩)) (λtp=>ex_assign rfl ((fa_eval (by decide)).trans rfl)) ?_;refine hJr.region_end (hJr.seq (hJr.seq (hJr.region ?_)));refine hJr.opf lst rfl rfl (by kernel_rfl) rfl (w':=W) (v:=.chan (some c0)) (λtp=>ex_load81 rfl ((fa_eval (by decide)).trans ((up_ne (by decide)).trans ((up_ne (by decide)).trans k9))) (cell_keep kU c3)) ?_;refine hJr.region_end (hJr.block (hJr.loop ?_));refine fa_gen (Jf:=λa=>JC _ _ _ _ _ _ _ ((bas 28 .normal).at a _ :: _) _) λF3 hF3=>?_
  have q11:F3 11=.nilIface:=(hF3 11).trans k11;have q12:F3 12=.pointer (some ⟨U.heap.size,0,none⟩):=(hF3 12).trans rfl;have q21:F3 21=.chan (some c0):=(hF3 21).trans rfl;clear hF3 k9 k11 k19;obtain⟨pa,hpa⟩:∃pa,pa=U.heap.size:=⟨_,rfl⟩;rw[←hpa] at q12 hA;obtain⟨patch,hpt⟩:∃patch,patch=patchG (lgOf old) old next:=⟨_,rfl⟩
  rw[←hpt] at hL0;obtain⟨i,hi⟩:∃i:Nat,i=0:=⟨_,rfl⟩;obtain⟨fu,hfu⟩:∃fu:Nat,fu=patch.length:=⟨_,rfl⟩;have hPin:Pin V W n0 be pf bf pa (AF.feed ⟨Ap.init,f⟩ (patch.take i)):=by
   rw[hi,List.take_zero];refine⟨⟨be,hA,.inl rfl⟩,λa v h1 h2 h3=>cell_keep kU (cV a v h3),by omega⟩
  have eL:L0=(pcs n fu (patch.drop i)).map rowQ:=by rw[hL0,hi,hfu,List.drop_zero]
  have hff:patch.length-i<=fu:=by omega
  have hib:i<=patch.length+100:=by omega
  have hplen:=patchG_len old next
  rw[←hpt] at hplen;rw[eL];have hpan:n0<=pa:=by omega
  clear hL0 hi hfu eL hJr hJe hA kU sU hU cV c3 c4 sz hJ3 hJ4;have hJL:∀(fu i:Nat),Clo Tryz.prog FN (JC Tryz.prog FN K (Net.RcvS 0 (Net.Steps λs=>s=.done) ((pcs n fu (patch.drop i)).map rowQ)) ν 0 lp):=λfu i=>rcvS_clo hN.hD ⟨.done,.base rfl⟩ _
  have hnp:∀k,(AF.feed ⟨Ap.init,f⟩ (patch.take k)).a.fault=.none:=λk=>by rw[hf,hpt];exact part_feed hol hnl k
  have hSt:∀k,Stt f f.reads (AF.feed ⟨Ap.init,f⟩ (patch.take k)):=λk=>(init_stt f (by rw[hf];exact hol) (by rw[hf];exact init_le old hol 64)).feed _
  have hev0:f.events.length=0:=by rw[hf];rfl
  have hrd0:f.reads=0:=by rw[hf];rfl
  generalize hmz:patch.length-i=m;induction m using Nat.strongRecOn generalizing i fu F3 W with
  | _ m ih=>
   have hJ:=hJL fu i;by_cases hlt:i<patch.length
   ·obtain⟨fu',rfl⟩:∃f',fu=f'+1:=⟨fu-1,by omega⟩;have eP:(pcs n (fu'+1) (patch.drop i)).map rowQ=rowQ ((patch.drop i).take n) :: (pcs n fu' (patch.drop (i+n))).map rowQ:=by
     have hne:patch.drop i≠[]:=λh=>by have:=congrArg List.length h;rw[List.length_drop] at this;simp at this;omega
     conv=>lhs;unfold pcs
     rw[if_neg hne,List.drop_drop,List.map_cons]
    refine hJ.seq (hJ.region ?_);rw[eP];refine jc_recv_at (C1:=Net.RcvS 0 (Net.Steps λs=>s=.done) ((pcs n fu' (patch.drop (i+n))).map rowQ)) (ch:=0) (c:=c0) (z:=.slice none 0 0) rfl rfl rfl rfl (by kernel_rfl) ((fa_eval (by decide)).trans q21) (by kernel_rfl) (λA W h=>ex_recv81 rfl h) hν0 (by rw[hN.R];rfl) (by rw[hN.cap];rfl) (λk h=>.recv h) ?_;rintro mm ⟨CC,rfl,hint,htake,hle,hlm,h0⟩;have hJ:=hJL fu' (i+n);obtain⟨zs,hzs⟩:∃zs,zs=(patch.drop i).take n:=⟨_,rfl⟩;rw[←hzs] at htake hle h0 ⊢;obtain⟨W1,hW1⟩:∃W1,W1=W.alloc (.cells CC 5 (0,CC.size)):=⟨_,rfl⟩;have hrm:RecvM (.row CC zs.length CC.size) W=(.slice (some ⟨W.heap.size,0,none⟩) zs.length CC.size,W1):=by rw[hW1];rfl
    rw[hrm];dsimp only;have s1:W1.heap.size=W.heap.size+1:=by rw[hW1];simp
    have k1:∀b,b<W.heap.size->W1.heap[b]? = W.heap[b]?:=λb hb=>by rw[hW1];exact heap_alloc_old _ _ hb
    have hx1:Bytes W1 (some ⟨W.heap.size,0,none⟩) zs:=λk hk'=>by
     refine⟨W.heap.size,0,rfl,?_⟩;rw[hW1];unfold World.cell?;rw[heap_alloc_new,Nat.zero_add];show CC[k]? = _;have e:=congrArg (λl=>l[k]?) htake;simp only[List.getElem?_take,if_pos hk',List.getElem?_map] at e;rw[←Array.getElem?_toList];simpa[hk',enc] using e
    refine hJ.opf lst rfl rfl (by kernel_rfl) rfl (w':=W1) (v:=.bool true) (λtp=>ex_extract rfl ((fa_eval (by decide)).trans rfl) rfl) ?_;refine hJ.region_end (hJ.seq (hJ.cond (v:=true) ((fa_eval (by decide)).trans rfl) (hJ.skip (hJ.block ?_))));refine fa_gen (Jf:=λa=>JC _ _ _ _ _ _ _ ((bas 28 .normal).at a _ :: _) _) λF4 hF4=>?_
    have r11:F4 11=.nilIface:=(hF4 11).trans q11;have r12:F4 12=.pointer (some ⟨pa,0,none⟩):=(hF4 12).trans q12;have r21:F4 21=.chan (some c0):=(hF4 21).trans q21;have r22:F4 22=.tuple #[.slice (some ⟨W.heap.size,0,none⟩) zs.length CC.size,.bool true]:=(hF4 22).trans rfl;clear hF4 hW1 hrm;have hzl:zs.length<=n:=by rw[hzs,List.length_take];omega
    have efd:(AF.feed ⟨Ap.init,f⟩ (patch.take i)).feed zs=AF.feed ⟨Ap.init,f⟩ (patch.take (i+n)):=by rw[hzs,feed_more]
    have hat0:=feed_at (patch.take i) ⟨Ap.init,f⟩;have hat1:(AF.feed ⟨Ap.init,f⟩ (patch.take i)).a.at_+zs.length<=1000000000000:=by
     have e:(AF.mk Ap.init f).a.at_=0:=rfl;rw[e,List.length_take] at hat0;omega
    have hfd:∀tp,Calls Tryz.prog 33 #[.pointer (some ⟨pa,0,none⟩),.slice (some ⟨W.heap.size,0,none⟩) zs.length CC.size] (Go.Fw.tpd W1 tp) λe W'=>e=.returned .nilIface/\Pin V W' n0 be pf bf pa (AF.feed ⟨Ap.init,f⟩ (patch.take (i+n))):=λtp=>by
     rw[←efd];exact hPin.feed (U:=Go.Fw.tpd W1 tp) (by show _<=W1.heap.size;omega) (λb hb=>k1 b hb) hnV hpan hpf hbf hg h0be hbe (hSt i) (by omega) (by omega) rfl (by omega) hx1 hat1 (by rw[efd];exact hnp _)
    clear hx1 k1 s1 hint htake hPin hat0 hat1 efd;refine hJ.code lst (by kernel_rfl) rfl rfl (by kernel_rfl) (N:=λa' w'=>a'.tmps.size=36/\a'.defers=[]/\a'.eval (.tmp 11)=.nilIface/\a'.eval (.tmp 12)=.pointer (some ⟨pa,0,none⟩)/\a'.eval (.tmp 21)=.chan (some c0)/\Pin V w' n0 be pf bf pa (AF.feed ⟨Ap.init,f⟩ (patch.take (i+n)))) (R:=λ_ _=>False) (λtp=>?_) (λa' w' h=>?_) (λ_ _ _ h=>h.elim)
    ·rw[fa_lit36,r11,r12,r21,r22];have HFD:=Lib.hid (hfd tp);clear hfd;generalize Go.Fw.tpd W1 tp=U at HFD ⊢;clear hpa hk hSt hnp ih hJL hJ eP hzs hmz hev0 hrd0 hpt hf hlp hνn hKD hν0 hν1 hff hib hplen hG hat hg r11 r12 r21 r22 q11 q12 q21 h0be hbe hpan hN hpf hbf hnV hn1 hn2 hol hoc hnl hnc hco hzl h0 hle hlm hlt;go_wp2_with (go_at_call 33;go_must (refine HFD.out.mono ?_;rintro e W' ⟨rfl,hp⟩;have HP:=Lib.hid hp;clear hp))
     exact⟨rfl,rfl,rfl,rfl,rfl,HP.out⟩
    ·obtain⟨n1,n2,n3,n4,n5,hp⟩:=h;obtain⟨F5,e5,hF5⟩:=act_fa n1 n2;rw[e5] at n3 n4 n5 ⊢;refine(hJL fu' (i+n)).inBlock ((hJL fu' (i+n)).inLoop ?_);exact ih (patch.length-(i+n)) (by omega) w' F5 ((hF5 11 (by decide)).symm.trans n3) ((hF5 21 (by decide)).symm.trans n5) ((hF5 12 (by decide)).symm.trans n4) (i+n) fu' hp (by omega) (by omega) rfl
   ·have eL:(pcs n fu (patch.drop i)).map rowQ=[]:=by rw[List.drop_of_length_le (by omega),pcs_nil];rfl
    have hti:patch.take i=patch:=List.take_of_length_le (by omega);refine hJ.seq (hJ.region ?_);rw[eL];refine jc_shut_at (C1:=Net.Steps λs=>s=.done) (ch:=0) (c:=c0) (z:=.slice none 0 0) rfl rfl rfl rfl (by kernel_rfl) ((fa_eval (by decide)).trans q21) (by kernel_rfl) (λA W h=>ex_recv81 rfl h) hν0 (by rw[hN.R];rfl) (by rw[hN.cap];rfl) (λk h=>.shut h) ?_;rw[hlp];refine jc_done (.base rfl) (by simp) ?_;rw[hKD];have hE:Clo Tryz.prog FN (CEnds Tryz.prog FN N0 W0 Post []):=cEnds_clo;refine hE.opf lst rfl rfl (by kernel_rfl) rfl (w':=W) (v:=.bool false) (λtp=>ex_extract rfl ((fa_eval (by decide)).trans rfl) rfl) ?_;refine hE.region_end (hE.seq (hE.cond (v:=false) ((fa_eval (by decide)).trans rfl) (hE.exit rfl ?_)));refine fa_gen (Jf:=λa=>CEnds _ _ _ _ _ _ ((bas 28 .normal).at a _ :: _) _) λF4 hF4=>?_
    have r11:F4 11=.nilIface:=(hF4 11).trans q11;have r12:F4 12=.pointer (some ⟨pa,0,none⟩):=(hF4 12).trans q12;clear hF4;have hSi:=hSt i;have hni:=hnp i;rw[hti] at hPin hSi hni;have hev:(AF.feed ⟨Ap.init,f⟩ patch).f.events.length<1000000000:=by
     cases hSi with
     | ok out h=>have:=h.evs_le;omega
     | bad e q _=>rw[hni] at q;split at q<;>cases q
    have hwa:=whole_ap hol hnl;rw[←hf,←hpt] at hwa;have hfin:∀tp,Calls Tryz.prog 32 #[.pointer (some ⟨pa,0,none⟩)] (Go.Fw.tpd W tp) λe W'=>e=.returned .nilIface/\PEnd V W' n0 be pf bf (f.apply patch).x.f:=λtp=>
     (hPin.tpd tp).finish hpan hpf hbf hev hwa.1
    refine hE.code lst (by kernel_rfl) rfl rfl (by kernel_rfl) (N:=λ_ _=>False) (R:=λa' w'=>a'.defers=[]/\a'.eval (.tmp 8)=.int .i64 0/\PEnd V w' n0 be pf bf (f.apply patch).x.f) (λtp=>?_) (λ_ _ h=>h.elim) (λa' w' td h=>?_)
    ·rw[fa_lit36,r11,r12];have HFIN:=Lib.hid (hfin tp);clear hfin;generalize Go.Fw.tpd W tp=U at HFIN ⊢;clear hpa hk hSt hnp ih hJL hJ eL hti hmz hev0 hrd0 hpt hf hlp hνn hKD hν0 hν1 hff hib hplen hG hat hg r11 r12 q11 q12 q21 h0be hbe hpan hN hpf hbf hnV hn1 hn2 hol hoc hnl hnc hco hlt hwa hev hSi hni hPin hE;go_wp2_with (first
      | (go_at_call 32;go_must (refine HFIN.out.mono ?_;rintro e W' ⟨rfl,hp⟩;have HP:=Lib.hid hp;clear hp))
      | (go_at_call 16;go_must (refine(tell_nil _).mono ?_;rintro e W'' ⟨rfl,hb⟩;have HB:=Lib.hid hb;clear hb)))
     exact⟨rfl,rfl,HP.out.below HB.out⟩
    ·obtain⟨q2,q0,⟨be2,hrep⟩,hkp,hsz⟩:=h;refine hE.leave rfl q2 rfl Tryz.func28 (by kernel_rfl) hat ?_;rw[res_one (t:=8) rfl];have e0:({ (bas 28 .normal).at a' td with mode:=.returning }:Frame).tmps.getD 8 undef=_:=q0;rw[e0];rw[hf] at hrep;rw[←hpt] at hk;exact hk w' be2 hrep hkp hsz
end Go.Proofs.YtkmgcggoemlaaaaGreatDoor
end
section
/- Pipe out of goroutine 0; a row's start with blocks that speak of each other alone. -/
namespace Go.Proofs.YtkmgcggoemlaaaaGreatDoor
open Go Go.Fw Go.Conc Go.RowKit Go.Fwm
theorem pw_base {S:Nat->Prop}{W:World}(hS:∀b,(b=0\/b=Tryz.prog.globals.size\/S b)->∃c t fr,W.heap[b]? = some (.cells c t fr)):Base FN Tryz.prog.globals.size (λb=>(rn0 S).f b≠none) (pw (rn0 S) W):=by
 refine⟨⟨by rw[rn0_f (.inl rfl)];simp,by rw[rn0_f (.inr (.inl rfl))];simp⟩,λb hb=>?_⟩;obtain⟨B,hB⟩:=Option.ne_none_iff_exists'.1 hb;obtain⟨rfl,h⟩:=rn0_inv hB;obtain⟨c,t,fr,e⟩:=hS b h;refine⟨c.map (pvl (rn0 S)),t,(0,max c.size fr.2),by rw[pw_get,e];rfl,λv hv=>?_⟩;simp only[Array.toList_map,List.mem_map] at hv;obtain⟨u,_,rfl⟩:=hv;exact VR.inX (β:=rn0 S) (λb hb=>hb) (pvl_rel _ _)
theorem start_net {W:World}{f:FuncId}{args:Array Value}{Post:Value->World->Prop}(hg:GV W)(h2:∃c t fr,W.heap[2]? = some (.cells c t fr))(hb:bodyOk Tryz.prog f=true)(ha:∀(i:Nat) x,args[i]? = some x->ArgOk W x)
  (h:∀(w:World) (S:Nat->Prop),w.heap.size=W.heap.size->GV w->(∀A zs,Bytes W A zs->Bytes w A zs)->Base FN Tryz.prog.globals.size S w->(∀b,S b->b<W.heap.size)->(∀(i:Nat) x b,args[i]? = some x->x.ownBlock=some b->S b)->CEnds Tryz.prog FN W.heap.size W Post [] [Frame.enter Tryz.prog f args .normal] w) :
  ∃M last o w' t',runNT Tryz.prog (M+1) (solo (G (Frame.enter Tryz.prog f args .normal) []) W) #[]=(.ended o w',t')/\runN Tryz.prog M (solo (G (Frame.enter Tryz.prog f args .normal) []) W)=.next last/\
   step Tryz.prog last=.ended o w'/\Conc.Good Tryz.prog Post last o w' t':=by
 let S:Nat->Prop:=λb=>∃(i:Nat) (x:Value),args[i]? = some x/\x.ownBlock=some b
 have hS:∀b,(b=0\/b=Tryz.prog.globals.size\/S b)->∃c t fr,W.heap[b]? = some (.cells c t fr):=by
  rintro b (rfl|rfl|⟨i,x,h1,h3⟩)
  ·exact cells_of_cell hg
  ·rw[glob2];exact h2
  ·rcases ha i x h1 with⟨k,n,rfl⟩ | ⟨a,l,c,rfl,hc⟩
   ·cases h3
   ·cases a with
    | none=>cases h3
    | some x=>cases h3;exact hc x rfl
 have h2s:2<W.heap.size:=by obtain⟨c,t,fr,e⟩:=h2;exact(Array.getElem?_eq_some_iff.1 e).1
 refine start hS (by rw[glob2];omega) hb (λi x hx=>?_) (h _ (λb=>(rn0 S).f b≠none) (pw_size _ _) (pw_cell hg ?_ rfl) (λA zs hx=>pw_bytes hx) (pw_base hS) (λb hb=>?_) λi x b hx hxb=>?_)
 ·rcases ha i x hx with⟨k,n,rfl⟩ | ⟨a,l,c,rfl,hc⟩
  ·exact .int _ _
  ·cases a with
   | none=>exact .slice0 _ _
   | some y=>exact .slice _ _ ⟨rn0_f (.inr (.inr ⟨i,_,hx,rfl⟩)),rfl,rfl⟩
 ·refine .iface _ (.agg rfl λi x X hx hX=>?_);rw[hx] at hX;cases hX;rcases i with _|i
  ·simp at hx;subst hx;exact .ptr ⟨rn0_f (.inr (.inl glob2.symm)),rfl,rfl⟩
  ·simp at hx
 ·obtain⟨B,hB⟩:=Option.ne_none_iff_exists'.1 hb;obtain⟨rfl,q⟩:=rn0_inv hB;obtain⟨c,t,fr,e⟩:=hS b q;exact(Array.getElem?_eq_some_iff.1 e).1
 ·rw[rn0_f (.inr (.inr ⟨i,x,hx,hxb⟩))];simp
theorem inS_of {S:Nat->Prop}{β:Ren Tryz.prog.globals.size}{A:Option Addr}{l c:Nat}{V:Value}(hS:∀a,A=some a->S a.block)(h:VR FN β (.slice A l c) V):InS (inS S β) A l c:=λa e=>by
 subst e;cases h with
 | slice _ _ hA=>exact .inl ⟨hS a rfl,by rw[hA.1];simp⟩
 | sliceE _ _=>exact .inr ⟨rfl,rfl⟩
theorem pipe_ends {N0:Nat}{W0:World}{Post:Value->World->Prop}{S:Nat->Prop}{w V:World}{n0 be pf bf:Nat}{Ao An:Option Addr}{co cn n:Nat}{old next:List UInt8}{cfr:Frame}{cs:List Frame}
  (hB:Base FN Tryz.prog.globals.size S w) (hSlt:∀b,S b->b<w.heap.size) (hkp:∀b,b<w.heap.size->V.heap[b]? = w.heap[b]?) (hwn:w.heap.size<=n0) (hwb:w.heap.size<=be)
  (hfr:FRep V (λb=>b<n0/\b≠be) pf bf be (Fl.init old 64)) (hpf:n0<=pf) (hbf:n0<=bf) (hnV:n0<=V.heap.size) (hn1:1<=n) (hn2:n<=100) (ho:Bytes V Ao old) (hn:Bytes V An next) (hol:old.length<=4096) (hoc:old.length<=co) (hnl:next.length<=4096) (hnc:next.length<=cn) (hco:co<=maxLen)
  (hSo:∀a,Ao=some a->S a.block) (hSn:∀a,An=some a->S a.block) (hat:AtOp cfr) (hg:GV V) (hbe:be<n0)
  (hk:∀(W:World) (be':Nat),FRep W (λ_=>False) pf bf be' ((Fl.init old 64).apply (patchG (lgOf old) old next)).x.f->(∀a v,a.block<n0->a.block≠be->V.cell? a=some v->W.cell? a=some v)->V.heap.size<=W.heap.size->CEnds Tryz.prog FN N0 W0 Post [] (cfr.finish (.int .i64 0) :: cs) W) :
  CEnds Tryz.prog FN N0 W0 Post [] (Frame.enter Tryz.prog 28 #[.pointer (some ⟨pf,0,none⟩),.slice Ao old.length co,.slice An next.length cn,.int .i64 (n:Int)] .normal :: cfr :: cs) V:=by
 refine CEnds.net λβ FS W hfs hw=>?_
 have hBV:Base FN Tryz.prog.globals.size S V:=hB.keep λb hb=>hkp b (hSlt b hb)
 have hplen:=patchG_len old next
 obtain⟨K,hK⟩:∃K:Cfg,K = { R:=Net.pipeR,cap:=λa=>if a=1 then 1 else 0,X0:=inS S β,D:=CEnds Tryz.prog FN N0 W0 Post [] }:=⟨_,rfl⟩;have kR:K.R=Net.pipeR:=by rw[hK]
 have kC:K.cap=λa=>if a=1 then 1 else 0:=by rw[hK]
 have kX:K.X0=inS S β:=by rw[hK]
 have kD:K.D=CEnds Tryz.prog FN N0 W0 Post []:=by rw[hK]
 have hE:Clo Tryz.prog FN (CEnds Tryz.prog FN N0 W0 Post []):=cEnds_clo;obtain⟨L0,hL0⟩:∃L0,L0=(pcs n (patchG (lgOf old) old next).length (patchG (lgOf old) old next)).map rowQ:=⟨_,rfl⟩;have hN:NetC K (valQ .nilIface) L0:=⟨λfs w t h=>by rw[kD] at h ⊢;exact hE.tp _ _ t h,kR,kC,⟨_,rfl⟩,by rw[hL0];exact pcs_inh hn1 _ _ (by unfold maxLen;omega)⟩;have hin:InS (inS S β) Ao old.length co/\InS (inS S β) An next.length cn:=by
  rw[enter_fa _ _ 36 Tryz.func28 rfl rfl (by simp)] at hfs;cases hfs with
  | cons x t=>
   obtain⟨A,rfl,h1,h2,h3⟩:=frR_at x;have o1:=(opn_at (P:=Tryz.prog) (FN:=FN) h3 h1 h2).x (.tmp 1) rfl;have o2:=(opn_at (P:=Tryz.prog) (FN:=FN) h3 h1 h2).x (.tmp 2) rfl;rw[fa_eval (by decide)] at o1 o2;exact⟨inS_of hSo o1,inS_of hSn o2⟩
 have hSV:∀b,S b->b<V.heap.size:=λb hb=>by have:=hSlt b hb;omega
 obtain⟨s,h1,h2⟩:=pipe_jc (K:=K) hN hfr (X:=λb=>b<n0/\b≠be) (λb q1 q2=>⟨q1,q2⟩) (λb hb=>by rw[kX] at hb;have:=hSlt b hb.1;exact⟨by omega,by omega⟩) hpf hbf hnV hn1 hn2 ho hn hol hoc hnl hnc hco (λa e=>hSV _ (hSo a e)) (λa e=>hSV _ (hSn a e)) (by rw[kX];exact hBV.part hw) (by rw[kX];exact hin.1) (by rw[kX];exact hin.2) hL0 hw.gl kD hat rfl (νn:=λ_=>none) rfl hg (by have:=hg.lt;have:=hB.cl 0 hB.sp.1;obtain⟨c,t,fr,e,_⟩:=this;have:=(Array.getElem?_eq_some_iff.1 e).1;omega) hbe hk;exact⟨K,s,valQ .nilIface,L0,kR,by rw[kX];exact inS_sp hB.sp β,λb hb=>by rw[kX] at hb;exact hb.2,λfs w h=>by rw[kD] at h;exact h,h1,h2⟩
/- Bytes laid anew: a row of zeros that is filled; a flash of an image that lies beside the arguments. -/
def zeros (n:Nat):List Value:=List.replicate n (Value.int .u8 0)
end Go.Proofs.YtkmgcggoemlaaaaGreatDoor
end
