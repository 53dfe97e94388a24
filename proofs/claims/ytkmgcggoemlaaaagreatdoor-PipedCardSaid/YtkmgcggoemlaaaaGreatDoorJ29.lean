/-
  Part 29 of the common ground of this seat: what single parts show stands ahead of each.
  No condition.
-/
import Derived.Test.YtkmgcggoemlaaaaGreatDoorJ22
import Derived.Test.YtkmgcggoemlaaaaGreatDoorJ28
import Derived.Test.YtkmgcggoemlaaaaGreatDoorJ11
set_option linter.unusedSimpArgs false
set_option linter.unusedVariables false
set_option linter.constructorNameAsVariable false
section
/- patch.Generate in a network: it makes a channel, starts alike.Find, and receives from it. -/
set_option maxHeartbeats 4000000
set_option maxRecDepth 100000
namespace Go.Fw
open Go
variable {FN:FuncId->Bool}
theorem frzX_cell {X:Nat->Prop}{w:World}{a:Addr}{v:Value}(h:w.cell? a=some v):(frzX X w).cell? a=some v:=by
 have e:=frzX_get X w a.block;unfold World.cell? at h ⊢;rw[e];cases ho:w.heap[a.block]? with
 | none=>rw[ho] at h;cases h
 | some o=>
  rw[ho] at h;cases o with
  | cells c t fr=>
   simp only[Option.map_some];by_cases hX:X a.block
   ·rw[if_pos hX];exact h
   ·rw[if_neg hX];exact h
  | _=>cases h
theorem InX.slice' {G:Nat}{X:Nat->Prop}{A:Option Addr}{l c:Nat}(h:∀a,A=some a->X a.block\/(l=0/\c=0)):InX FN G X (.slice A l c):=λβ hX V hv=>by
 cases hv with
 | slice0=>exact .slice0 _ _
 | slice l c hA=>
  rcases h _ rfl with x|⟨rfl,rfl⟩
  ·exact .slice l c ⟨(res_f (hX:=hX) x).trans hA.1,hA.2⟩
  ·exact .sliceE _ _
 | sliceE a A=>exact .sliceE _ _
end Go.Fw
namespace Go.Proofs.YtkmgcggoemlaaaaGreatDoor
open Go Go.Fw Go.Conc Go.RowKit Go.Fwm
theorem frzX_bytes {X:Nat->Prop}{w:World}{A:Option Addr}{zs:List UInt8}(h:Bytes w A zs):Bytes (frzX X w) A zs:=λi hi=>by
 obtain⟨b,o,e,hc⟩:=h i hi;exact⟨b,o,e,frzX_cell hc⟩
structure NetC (K:Cfg) (Q1:Msg->Prop) (L0:List (Msg->Prop)):Prop where
 hD:∀fs w t,K.D fs (Go.Fw.tpd w t)->K.D fs w
 R:K.R=Net.pipeR
 cap:K.cap=λa=>if a=1 then 1 else 0
 q1:∃m,Q1 m
 l0:∀Q∈L0,∃m,Q m
def InS (X:Nat->Prop)(A:Option Addr)(l c:Nat):Prop:=∀a,A=some a->X a.block\/(l=0/\c=0)
theorem gen_jc {K:Cfg}{Q1:Msg->Prop}{L0:List (Msg->Prop)}(hN:NetC K Q1 L0){ν:Nat->Option Nat}{lp:Nat->Option Obj}{Ao An:Option Addr}{c0 cn:Nat}{old next:List UInt8}{w:World}{cfr:Frame}{cs:List Frame}(ho:Bytes w Ao old)(hn:Bytes w An next)(hol:old.length<=4096)(hoc:old.length<=c0)(hnl:next.length<=4096)(hnc:next.length<=cn)(hco:c0<=maxLen)
  (hlo:∀a,Ao=some a->a.block<w.heap.size) (hln:∀a,An=some a->a.block<w.heap.size) (hat:AtOp cfr) (hP:Part FN Tryz.prog.globals.size K.X0 K.X0 w) (hXo:InS K.X0 Ao old.length c0) (hXn:InS K.X0 An next.length cn)
  (hk:∀c pv w',Rin (frzX K.X0 w) w' pv (patchG (lgOf old) old next)->JC Tryz.prog FN K (Net.PutS Q1 L0) (Net.upd ν 2 (some c)) 1 lp (cfr.finish (.tuple #[pv,.nilIface]) :: cs) w') :
  JC Tryz.prog FN K (Net.MidS Q1 L0) ν 1 lp (Frame.enter Tryz.prog 34 #[.slice Ao old.length c0,.slice An next.length cn] .normal :: cfr :: cs) w:=by
 have hJm:Clo Tryz.prog FN (JC Tryz.prog FN K (Net.MidS Q1 L0) ν 1 lp):=jc_clo hN.hD (λF h=>.step F h) (midS_inh hN.q1 hN.l0) ν 1 lp;have hJf:∀c,Clo Tryz.prog FN (JC Tryz.prog FN K (ForkS Q1 L0) (Net.upd ν 2 (some c)) 1 lp):=λc=>jc_clo hN.hD (λF h=>.step F h) (forkS_inh hN.q1 hN.l0) _ 1 lp
 have hJpc:∀c,Clo Tryz.prog FN (JC Tryz.prog FN K (Net.PutS Q1 L0) (Net.upd ν 2 (some c)) 1 lp):=λc=>jc_clo hN.hD (λF h=>.step F h) (putS_inh hN.q1 hN.l0) _ 1 lp
 rw[enter_fa _ _ 53 Tryz.func34 rfl rfl (by simp)];refine hJm.seq (hJm.code lst (by kernel_rfl) rfl rfl (by kernel_rfl) (N:=λa' w'=>a'.tmps.size=53/\a'.defers=[]/\a'.eval (.tmp 0)=.slice Ao old.length c0/\a'.eval (.tmp 1)=.slice An next.length cn/\∃tp,w'=Go.Fw.tpd w tp) (R:=λ_ _=>False) (λtp=>?_) (λa' w' h=>?_) (λ_ _ _ h=>h.elim))
 ·rw[fa_lit53];change Code.wp Tryz.prog _ _ ⟨#[.slice Ao old.length c0,.slice An next.length cn,undef,undef,undef,undef,undef,undef,undef,undef,undef,undef,undef,undef,undef,undef,undef,undef,undef,undef,undef,undef,undef,undef,undef,undef,undef,undef,undef,undef,undef,undef,undef,undef,undef,undef,undef,undef,undef,undef,undef,undef,undef,undef,undef,undef,undef,undef,undef,undef,undef,undef,undef],[]⟩ _;dsimp only;go_wp2
  exact⟨rfl,rfl,rfl,rfl,tp,rfl⟩
 obtain⟨h1,h2,h3,h4,tp,rfl⟩:=h;refine hJm.tp _ _ tp ?_;obtain⟨F,rfl,hF⟩:=act_fa h1 h2;rw[hF _ (by decide)] at h3 h4;clear h1 h2 hF;refine hJm.seq (hJm.code lst (by kernel_rfl) rfl rfl (by kernel_rfl) (N:=λa' w'=>a'.tmps.size=53/\a'.defers=[]/\a'.eval (.tmp 0)=.slice Ao old.length c0/\a'.eval (.tmp 1)=.slice An next.length cn/\∃tp,w'=Go.Fw.tpd w tp) (R:=λa' w'=>False) (λtp=>?_) (λa' w' h=>?_) (λa' w' td h=>h.elim))
 ·rw[fa_lit53,h3,h4];dsimp only;have b1:¬((4096:Int)<(old.length:Int)):=by omega
  have b2:¬((4096:Int)<(next.length:Int)):=by omega
  go_wp2
  exact⟨rfl,rfl,rfl,rfl,_,rfl⟩
 obtain⟨h1,h2,h3,h4,tp,rfl⟩:=h;refine hJm.tp _ _ tp ?_;obtain⟨F,rfl,hF⟩:=act_fa h1 h2;rw[hF _ (by decide)] at h3 h4;clear h1 h2 hF;refine hJm.seq (hJm.region ?_);refine jc_mk_at (C1:=ForkS Q1 L0) (ch:=2) (cap:=0) (d:=17) rfl rfl rfl (λA W=>ex_chan rfl rfl) (by rw[hN.cap];rfl) (by rw[hN.R];rfl) (λk h=>.base ⟨k,rfl,h⟩) λc=>?_
 refine(hJf c).opf lst rfl rfl (by kernel_rfl) rfl (w':=w) (v:=.chan (some c)) (λtp=>ex_assign rfl ((fa_eval (by decide)).trans rfl)) ?_;refine(hJf c).region_end ((hJf c).seq ((hJf c).region ?_));refine(hJf c).opf lst rfl rfl (by kernel_rfl) rfl (w':=w) (v:=.slice Ao old.length c0) (λtp=>ex_move rfl ((fa_eval (by decide)).trans h3)) ?_;refine(hJf c).opf lst rfl rfl (by kernel_rfl) rfl (w':=w) (v:=.slice An next.length cn) (λtp=>ex_move rfl ((fa_eval (by decide)).trans h4)) ?_;refine(hJf c).opf lst rfl rfl (by kernel_rfl) rfl (w':=w) (v:=.chan (some c)) (λtp=>ex_move rfl ((fa_eval (by decide)).trans rfl)) ?_;obtain⟨G,hG⟩:∃G:Nat->Value,G=up (up (up (up (up F 17 (.chan (some c))) 6 (.chan (some c))) 18 (.slice Ao old.length c0)) 19 (.slice An next.length cn)) 20 (.chan (some c)):=⟨_,rfl⟩;have g0:G 0=.slice Ao old.length c0:=by rw[hG];exact h3
 have g1:G 1=.slice An next.length cn:=by rw[hG];exact h4
 have g6:G 6=.chan (some c):=by rw[hG];rfl
 have g18:G 18=.slice Ao old.length c0:=by rw[hG];rfl
 have g19:G 19=.slice An next.length cn:=by rw[hG];rfl
 have g20:G 20=.chan (some c):=by rw[hG];rfl
 change JC _ _ _ _ _ _ _ ((bas 34 .normal).at (fa 53 (up (up (up (up (up F 17 (.chan (some c))) 6 (.chan (some c))) 18 (.slice Ao old.length c0)) 19 (.slice An next.length cn)) 20 (.chan (some c))) []) _ :: _) _;rw[←hG];clear hG h3 h4;obtain⟨L2,hL2⟩:∃L2,L2=((runL (lgOf old) next).map (runV An cn)).map valQ:=⟨_,rfl⟩;refine jc_fork_at (Cc:=Net.SndS 2 L2) (C1:=Net.RcvS 2 (Net.PutS Q1 L0) L2) (q:=2) rfl rfl rfl rfl (by kernel_rfl) (by kernel_rfl) #[.slice Ao old.length c0,.slice An next.length cn,.chan (some c)] (m3 ((fa_eval (by decide)).trans g18) ((fa_eval (by decide)).trans g19) ((fa_eval (by decide)).trans g20)) hP ?_ (by rw[hN.R];rfl) (by decide) (λs k hc hk=>.base ⟨s,k,L2,rfl,hc,hk⟩) ?_ ?_
 ·intro x hx;simp only[List.mem_cons,List.not_mem_nil,or_false] at hx;rcases hx with rfl|rfl|rfl
  ·exact InX.slice' hXo
  ·exact InX.slice' hXn
  ·exact InX.chan _
 ·have hs:=find_snd (frzX K.X0 w) c Ao An c0 cn old next (frzX_bytes ho) (frzX_bytes hn) hol hoc hnl hnc hco (by rw[frzX_size];exact hlo) (by rw[frzX_size];exact hln)
  obtain⟨s,h1,h2⟩:=snd_does (K:=K) (ν:=Net.upd ν 2 (some c)) (i:=2) (a:=2) (c:=c) (by rw[hN.R];rfl) (by decide) (by rw[hN.cap];rfl) (Net.upd_same _ _ _) (λ_=>none) hs (λv hv=>by
   obtain⟨r,hr,rfl⟩:=List.mem_map.1 hv;have hok:=fnd_ok (lgOf_ok old) hol _ _ _ (Nat.le_refl _) (Nat.zero_le _) r hr;refine InX.agg λx hx=>?_
   simp only[List.mem_cons,List.not_mem_nil,or_false] at hx;rcases hx with rfl|rfl
   ·exact InX.int _ _
   ·refine InX.slice λa ha=>?_
    have key:∀a',An=some a'->K.X0 a'.block:=λa' e=>(hXn a' e).resolve_right λh=>by have h1:=hok.1;have h2:=hok.2.1;omega
    split at ha
    ·exact key a ha
    ·obtain⟨a',e',rfl⟩:=Option.map_eq_some_iff.1 ha;have e:(a'.add r.i).block=a'.block:=by unfold Addr.add;split<;>rfl
     rw[e];exact key a' e')
  exact⟨s,h1,by rw[hL2];exact h2⟩
 ·have ho1:=frzX_bytes (X:=K.X0) ho;have hn1:=frzX_bytes (X:=K.X0) hn;have hlo1:∀a,Ao=some a->a.block<(frzX K.X0 w).heap.size:=by rw[frzX_size];exact hlo
  have hln1:∀a,An=some a->a.block<(frzX K.X0 w).heap.size:=by rw[frzX_size];exact hln
  have hJp:=hJpc c;generalize frzX K.X0 w=w at ho1 hn1 hlo1 hln1 hk ⊢;clear ho hn hlo hln hP hJm;have ho:=ho1;have hn:=hn1;have hlo:=hlo1;have hln:=hln1;clear ho1 hn1 hlo1 hln1;rw[hL2];refine rcv_does (L:=(runL (lgOf old) next).map (runV An cn)) (c:=c) hN.hD (by rw[hN.R];rfl) (by rw[hN.cap];rfl) (Net.upd_same _ _ _) lp (putS_inh hN.q1 hN.l0) (K':=λfs W=>JC Tryz.prog FN K (Net.PutS Q1 L0) (Net.upd ν 2 (some c)) 1 lp fs W) (λ_ _ h=>h) ?_;have hR:=rcv_clo (P:=Tryz.prog) (FN:=FN) c (λfs W=>JC Tryz.prog FN K (Net.PutS Q1 L0) (Net.upd ν 2 (some c)) 1 lp fs W) ((runL (lgOf old) next).map (runV An cn));change Rcv _ _ _ _ _ ((bas 34 .normal).at (fa 53 G []) _ :: _) _;refine hR.region_end (hR.seq (hR.region ?_));refine hR.opf lst rfl rfl (by kernel_rfl) rfl (w':=w) (v:=.chan (some c)) (λtp=>ex_move rfl ((fa_eval (by decide)).trans g6)) ?_;refine hR.callop rfl (wanted_plain rfl _) rfl (by kernel_rfl) (by kernel_rfl) ?_;rw[m1 (v:=.chan (some c)) ((fa_eval (by decide)).trans rfl)];refine runs_rcv (w:=w) hn hnl hnc (runL (lgOf old) next) (fnd_ok (lgOf_ok old) hol _ _ _ (Nat.le_refl _) (Nat.zero_le _)) (atOp_at _) ?_ (Rin.nil _) _ hJp (λW=>W) (λv W hW=>?_)
  ·have:=stepsR_len (lgOf_ok old) next
   unfold stepsR at this;omega
  rw[finish_fa rfl rfl];have hW2:=hW;generalize W=V at hW2 ⊢;clear hW;have hS:(encs (stepsR (lgOf old) next)).length<=10000:=by have:=stepsR_len (lgOf_ok old) next;omega
  change Rin w V v (encs (stepsR (lgOf old) next)) at hW2;refine hJp.opf lst rfl rfl (by kernel_rfl) rfl (w':=V) (v:=v) (λtp=>ex_assign rfl ((fa_eval (by decide)).trans rfl)) ?_;obtain⟨H,hH⟩:∃H:Nat->Value,H=up (up (up G 21 (.chan (some c))) 22 v) 7 v:=⟨_,rfl⟩;have h0:H 0=.slice Ao old.length c0:=by rw[hH];exact g0
  have h1:H 1=.slice An next.length cn:=by rw[hH];exact g1
  have h7:H 7=v:=by rw[hH];rfl
  change JC _ _ _ _ _ _ _ ((bas 34 .normal).at (fa 53 (up (up (up G 21 (.chan (some c))) 22 v) 7 v) []) _ :: _) _;rw[←hH];clear hH g0 g1 g6 g18 g19 g20 hR h3 h4;refine hJp.region_end (hJp.seq (hJp.code lst (by kernel_rfl) rfl rfl (by kernel_rfl) (N:=λa' w'=>a'.tmps.size=53/\a'.defers=[]/\a'.eval (.tmp 0)=.slice Ao old.length c0/\a'.eval (.tmp 1)=.slice An next.length cn/\Rin w w' (a'.eval (.tmp 7)) (encs (steps (lgOf old) old next))) (R:=λ_ _=>False) (λtp=>?_) (λa' w' h=>?_) (λ_ _ _ h=>h.elim)))
  ·rw[fa_lit53,h0,h1,h7];dsimp only;have hW3:=hW2.tpd tp;generalize Go.Fw.tpd V tp=U at hW3 ⊢;obtain⟨B,cv,rfl,hcv⟩:=hW3.own.slice;have HW:=Lib.hid hW3;clear hW3 hW2 h0 h1 h7 hk hJp;have HO:=Lib.hid ho;have HN:=Lib.hid hn;clear ho hn;by_cases heq:old.length=next.length
   ·have heq':((old.length:Int) == (next.length:Int))=true:=by simp[heq]
    have HE:=Lib.hid heq;clear heq;have hbs:=pbeside_ok U Ao An c0 cn old.length old next rfl HE.out.symm hol (HO.out.keep λa _ hlt=>HW.out.old _ hlt) (HN.out.keep λa _ hlt=>HW.out.old _ hlt)
    rw[show Value.slice An old.length cn=Value.slice An next.length cn by rw[HE.out]] at hbs;have HBS:=Lib.hid hbs;clear hbs;by_cases hlt:(encs (stepsB old next)).length<(encs (stepsR (lgOf old) next)).length
    ·have est:steps (lgOf old) old next=stepsB old next:=by unfold steps;rw[if_pos ⟨HE.out,hlt⟩]
     rw[est];clear est;have hd:((encs (stepsB old next)).length:Int)<((encs (stepsR (lgOf old) next)).length:Int):=by omega
     generalize (encs (stepsR (lgOf old) next)).length=LR at hd ⊢;clear hlt hcv hS;go_wp2_with (go_at_call 47;refine HBS.out.mono ?_;rintro e w1 ⟨bv,rfl,hb⟩;obtain⟨B2,cb,rfl,hcb⟩:=hb.own.slice;have HB:=Lib.hid hb;clear hb)
     exact⟨rfl,rfl,rfl,rfl,HW.out.other HB.out⟩
    ·have est:steps (lgOf old) old next=stepsR (lgOf old) next:=by unfold steps;rw[if_neg (λh=>hlt h.2)]
     rw[est];clear est;have hd:¬((encs (stepsB old next)).length:Int)<((encs (stepsR (lgOf old) next)).length:Int):=by omega
     clear hlt hcv hS;go_wp2_with (go_at_call 47;refine HBS.out.mono ?_;rintro e w1 ⟨bv,rfl,hb⟩;obtain⟨B2,cb,rfl,hcb⟩:=hb.own.slice;have HB:=Lib.hid hb;clear hb)
     exact⟨rfl,rfl,rfl,rfl,HW.out.keep HB.out.grown.size λb hb=>HB.out.grown.block b hb λe=>by cases e⟩
   ·have heq':((old.length:Int) == (next.length:Int))=false:=by simp;omega
    have est:steps (lgOf old) old next=stepsR (lgOf old) next:=by unfold steps;rw[if_neg (λh=>heq h.1)]
    rw[est];clear est;have HE:=Lib.hid heq;clear heq;go_wp2
    exact⟨rfl,rfl,rfl,rfl,HW.out⟩
  ·obtain⟨q1,q2,q3,q4,hW3⟩:=h;obtain⟨F,rfl,hF⟩:=act_fa q1 q2;rw[hF _ (by decide)] at q3 q4 hW3;clear q1 q2 hF;have hS:(encs (steps (lgOf old) old next)).length<=10000:=by have:=steps_len (lgOf_ok old) (old:=old) next;omega
   refine hJp.code lst (by kernel_rfl) rfl rfl (by kernel_rfl) (N:=λ_ _=>False) (R:=λa' w'=>a'.defers=[]/\a'.eval (.tmp 5)=.nilIface/\Rin w w' (a'.eval (.tmp 4)) (patchG (lgOf old) old next)) (λtp=>?_) (λ_ _ h=>h.elim) (λa' w' td h=>?_)
   ·rw[fa_lit53,q3,q4];dsimp only;have hW4:=hW3.tpd tp;generalize Go.Fw.tpd w' tp=U at hW4 ⊢;have hpe:patchG (lgOf old) old next=patchOf old next.length (steps (lgOf old) old next):=rfl
    rw[hpe];unfold patchOf bodyOf headOf;generalize encs (steps (lgOf old) old next)=S at hS hW4 hW3 ⊢;generalize F 7=sv at hW4 hW3 ⊢;obtain⟨B,cv,rfl,hcv⟩:=hW4.own.slice;have hob:=ho.keep (w':=U) λa _ hlt=>hW4.old _ hlt
    have hsb:=hW4.own.bytes rfl;clear q3 q4 hk hJp hW3;have HW:=Lib.hid hW4;clear hW4;have HO:=Lib.hid ho;have HN:=Lib.hid hn;clear ho hn;have hnl0:(num old.length).length<=2:=(num_len _).1;have hnl1:(num next.length).length<=2:=(num_len _).1;have hadd1:∀W,Bytes W Ao old->Calls Tryz.prog 50 #[.int .u32 0,.slice Ao old.length c0] W λe w'=>e=.returned (.int .u32 (sumAdd 0 old:Nat))/\W=w':=λW h=>add_ok W 0 (by omega) Ao old.length c0 old rfl (by simp only[maxLen];omega) h
    have hadd2:∀W B n c (zs:List UInt8),zs.length=n->zs.length<=100000->Bytes W B zs->Calls Tryz.prog 50 #[.int .u32 0,.slice B n c] W λe w'=>e=.returned (.int .u32 (sumAdd 0 zs:Nat))/\W=w':=λW B n c zs hn hz h=>add_ok W 0 (by omega) B n c zs hn (by simp only[maxLen];omega) h
    have hA1:=Lib.hid hadd1;have hA2:=Lib.hid hadd2;clear hadd1 hadd2;have HOB:=Lib.hid hob;have HSB:=Lib.hid hsb;clear hob hsb;have l1:([]++num old.length).length<=10000000:=by simp;omega
    have l2:([]++num old.length++be32 (sumAdd 0 old)).length<=10000000:=by simp[be32];omega
    have l3:([]++num old.length++be32 (sumAdd 0 old)++num next.length).length+S.length<=100000000:=by simp[be32];omega
    have l4:([]++num old.length++be32 (sumAdd 0 old)++num next.length++S).length<=100000:=by simp[be32];omega
    have l5:([]++num old.length++be32 (sumAdd 0 old)++num next.length++S).length<=10000000:=Nat.le_trans l4 (by decide);have L1:=Lib.hid l1;have L2:=Lib.hid l2;have L3:=Lib.hid l3;have L4:=Lib.hid l4;have L5:=Lib.hid l5;clear l1 l2 l3 l4 l5 hnl0 hnl1;go_wp2_with (first
     | (go_at_call_of 49 (Value.slice none 0 0);refine(pnumber_ok U (.slice none 0 0) [] (Row.nil U) (by decide) old.length hol).mono ?_;rintro e w1 ⟨v1,rfl,ha1⟩;have HA1:=Lib.hid ha1;clear ha1)
     | (go_at_call 48;refine(pfixed_ok _ v1 _ HA1.out.own L1.out _ (sumAdd_lt _ _)).mono ?_;rintro e w2 ⟨v2,rfl,ha2⟩;have HA2:=Lib.hid ha2;clear ha2)
     | (go_at_call 50;refine(hA1.out _ (HA1.out.keepB HOB.out)).mono ?_;rintro e w1' ⟨rfl,rfl⟩))
    go_wp2_with (first
     | (go_at_call_of 49 v2;refine(pnumber_ok w2 v2 _ HA2.out.own L2.out next.length hnl).mono ?_;rintro e w3 ⟨v3,rfl,ha3⟩;have HA3:=Lib.hid ha3;clear ha3)
     | (at_builtin;refine wpList_append_all rfl (.tmp 46) (.tmp 47) rfl v3 _ S B S.length cv rfl HA3.out.own rfl rfl (((HA1.out.trans HA2.out).trans HA3.out).keepB HSB.out) L3.out ?_;intro v4 w4 ha4;obtain⟨B4,n4,c4,rfl,hn4,hc4⟩:=ha4.own.slice2;have HA4:=Lib.hid ha4;have HN4:=Lib.hid hn4;clear ha4 hn4)
     | (go_at_call 50;refine(hA2.out _ B4 n4 c4 _ HN4.out L4.out (HA4.out.own.bytes rfl)).mono ?_;rintro e w4' ⟨rfl,rfl⟩)
     | (go_at_call 48;refine(pfixed_ok _ _ _ HA4.out.own L5.out _ (sumAdd_lt _ _)).mono ?_;rintro e w5 ⟨v5,rfl,ha5⟩;have HA5:=Lib.hid ha5;clear ha5))
    have hfin:=((((HA1.out.trans HA2.out).trans HA3.out).trans HA4.out).trans HA5.out);have hfin2:App U w5 (.slice none 0 0) v5 (num old.length++be32 (sumAdd 0 old)++num next.length++S++be32 (sumAdd 0 (num old.length++be32 (sumAdd 0 old)++num next.length++S))):=by simpa only[List.nil_append,List.append_assoc] using hfin
    exact⟨rfl,rfl,HW.out.other hfin2⟩
   ·obtain⟨q2,q5,hW4⟩:=h;refine hJp.leave rfl q2 rfl Tryz.func34 (by kernel_rfl) hat ?_;rw[res_two (t:=4) (u:=5) rfl];have e4:({ (bas 34 .normal).at a' td with mode:=.returning }:Frame).tmps.getD 5 undef=_:=q5;rw[e4];exact hk _ _ _ hW4
end Go.Proofs.YtkmgcggoemlaaaaGreatDoor
end
section
/- A loop over a function, in a network: the rules with the records told by what they hold. -/
namespace Go.Fw
open Go Go.Conc Go.Net
variable {P:Program} {FN:FuncId->Bool}
variable {K:Cfg} {C:Scr Tpe Msg->Prop} {ν:Nat->Option Nat} {i:Nat} {lp:Nat->Option Obj} {w:World} {b:Frame} {a:Act} {k:List Item} {cs:List Frame}
def SameX (lp lp':Nat->Option Obj)(l:Nat):Prop:=∀x,x≠l->lp' x=lp x
theorem JC.enter' (hD:∀fs w t,K.D fs (tpd w t)->K.D fs w)(hs:∀F,(∀t,C (F t))->C (.step F))(hi:∃s,C s){f:FuncId}{ys:Array Value}{t:Tmp}{ps:Array Tmp}{asg body:Code}(hv:a.eval (.tmp t)=bnd f ys)(hb:bodyOk P f=true)
  (h:∀l r (R:Loop) lp',l≠r->lp l=none->lp r=none->R.state=.ready->R.pending=none->R.fn=b.fn->R.tmps=a.tmps->R.params=ps->R.assign=asg->R.body=body->lp' r=some (.loop R)->lp' l=some (.deferred (some []))->(∀x,x≠l->x≠r->lp' x=lp x)->
   JC P FN K C ν i lp' (Frame.enter P f (#[yldV r]++ys) .normal :: b.at ⟨a.tmps,{ target:=.collected l,args:=#[] } :: a.defers⟩ (.inRangeFunc r :: k) :: cs) w) :
  JC P FN K C ν i lp (b.at a (.code (.rangeFunc (.tmp t) ps asg body) :: k) :: cs) w:=
 JC.enter hD hs hi hv hb λl r ⟨h1,h2,h3⟩=>h l r _ _ h1 h2 h3 rfl rfl rfl rfl rfl rfl rfl (Net.upd_same _ _ _) ((Net.upd_ne _ _ h1).trans (Net.upd_same _ _ _)) λx hl hr=>(Net.upd_ne _ _ hr).trans (Net.upd_ne _ _ hl)
theorem JC.yield' (hD:∀fs w t,K.D fs (tpd w t)->K.D fs w)(hs:∀F,(∀t,C (F t))->C (.step F)){fr:Frame}{ops:Array Oper}{n l nt:Nat}{rest:List Nat}{o:Oper}{t pt:Tmp}{x:Operand}{ats:Array TypeId}{r:Loop}{fx:Nat->Value}{g:FuncId}{asg body:Code}{v:Value}
  (hfr:fr.todo=.inRegion ops (n :: rest) :: k) (hm:fr.mode=.run) (ho:ops[n]? = some o) (hg:o.guard=none) (hop:o.op=.call { callee:=.value (.tmp t),args:=#[x],argTypes:=ats }) (hv:fr.eval (.tmp t)=yldV l) (hx:okX FN x=true) (hxv:fr.eval x=v) (hl:lp l=some (.loop r))
  (hfn:r.fn=g) (htm:r.tmps=(fa nt fx []).tmps) (hps:r.params=#[pt]) (hasg:r.assign=asg) (hbody:r.body=body)
  (h:JC P FN K C ν i lp (rfr l g (fa nt (up fx pt v) []) [.code asg,.beginRound,.code body] :: fr :: cs) w) :
  JC P FN K C ν i lp (fr :: cs) w:=by
 refine JC.yield (fs:=[]) hD hs hfr hm ho hg hop hv (by simpa using hx) hl (by rw[hps];rfl) ?_;have e:(Array.foldl (λtmps (x:Tmp × Value)=>tmps.setIfInBounds x.1 x.2) r.tmps (r.params.zip (Array.map fr.eval #[x])))=(fa nt (up fx pt v) []).tmps:=by
  rw[hps,htm];have:=congrArg Act.tmps (fa_put (n:=nt) (f:=fx) (D:=[]) (d:=pt) (v:=v));simp only[List.map_toArray,List.map_cons,List.map_nil,hxv];rw[←this];simp[List.zip_toArray,Act.put]
 have e':(⟨(r.params.zip (Array.map fr.eval #[x])).foldl (λtmps (t,a)=>tmps.setIfInBounds t a) r.tmps,[]⟩:Act)=fa nt (up fx pt v) []:=by
  rw[show ((r.params.zip (Array.map fr.eval #[x])).foldl (λtmps (t,a)=>tmps.setIfInBounds t a) r.tmps)=(fa nt (up fx pt v) []).tmps from e];rfl
 rw[e',hfn,hasg,hbody];exact h
theorem JC.begin' (hD:∀fs w t,K.D fs (tpd w t)->K.D fs w)(hs:∀F,(∀t,C (F t))->C (.step F)){l:Nat}{f:FuncId}{r:Loop}(hl:lp l=some (.loop r))(hr:r.state=.ready)
  (h:∀lp',lp' l=some (.loop { r with state:=.busy })->SameX lp lp' l->JC P FN K C ν i lp' (rfr l f a k :: cs) w):JC P FN K C ν i lp (rfr l f a (.beginRound :: k) :: cs) w:=
 JC.begin_ hD hs hl hr (h _ (Net.upd_same _ _ _) λx hx=>Net.upd_ne _ _ hx)
theorem JC.end' (hD:∀fs w t,K.D fs (tpd w t)->K.D fs w)(hs:∀F,(∀t,C (F t))->C (.step F)){l:Nat}{f:FuncId}{r:Loop}{c:Frame}(hl:lp l=some (.loop { r with state:=.busy }))(hr:r.state=.ready)(hp:r.pending=none)(hc:AtOp c)
  (h:∀lp',lp' l=some (.loop r)->SameX lp lp' l->JC P FN K C ν i lp' (c.finish (.bool true) :: cs) w):JC P FN K C ν i lp (rfr l f a [] :: c :: cs) w:=by
 refine JC.end_ hD hs hl hc (h _ ?_ λx hx=>Net.upd_ne _ _ hx);rw[Net.upd_same];cases r;simp only at hr hp;subst hr hp;rfl
theorem JC.over' (hD:∀fs w t,K.D fs (tpd w t)->K.D fs w)(hs:∀F,(∀t,C (F t))->C (.step F)){l:Nat}{r:Loop}(hl:lp l=some (.loop r))(hr:r.state=.ready)(hp:r.pending=none)
  (h:∀lp',SameX lp lp' l->JC P FN K C ν i lp' (b.at a k :: cs) w):JC P FN K C ν i lp (b.at a (.endRangeFunc l :: k) :: cs) w:=
 JC.over hD hs hl hr hp (h _ λx hx=>Net.upd_ne _ _ hx)
theorem JC.take' (hD:∀fs w t,K.D fs (tpd w t)->K.D fs w)(hs:∀F,(∀t,C (F t))->C (.step F)){l:Nat}{fr:Frame}{D:List Deferred}(hm:fr.mode=.returning)(hd:fr.defers = { target:=.collected l,args:=#[] } :: D)(hl:lp l=some (.deferred (some [])))
  (h:∀lp',SameX lp lp' l->JC P FN K C ν i lp' ({ fr with defers:=D } :: cs) w):JC P FN K C ν i lp (fr :: cs) w:=
 JC.take hD hs hm hd hl (h _ λx hx=>Net.upd_ne _ _ hx)
end Go.Fw
end
section
/- slices.Clone of some bytes: a new block, of bytes alone. -/
set_option maxHeartbeats 1000000
namespace Go.Proofs.YtkmgcggoemlaaaaGreatDoor
open Go Go.RowKit
theorem zeros_u8 {n:Nat}{x:Value}(h:x∈(Builtin.zeroCells #[Value.int .u8 0] n).toList):x=.int .u8 0:=by
 unfold Builtin.zeroCells at h;simp only[List.size_toArray,List.length_cons,List.length_nil,Nat.zero_add,Nat.mul_one,Nat.mod_one] at h;simp at h;obtain⟨_,_,rfl⟩:=h;rfl
theorem wpList_append_new {w:World}{ops:Array Oper}{rest:List Oper}{o:Oper}{a:Act}{Q:Exit->Act->World->Prop}(hgd:o.guard=none)(s x:Operand)(ho:o.op=.call { callee:=.builtin .append,args:=#[s,x],argTypes:=#[22,22] })
  (b ad:Addr) (m c:Nat) (zs:List UInt8) (hs:a.eval s=.slice (some b) 0 0) (hx:a.eval x=.slice (some ad) m c) (hl:zs.length=m) (h0:0<m) (hm:m<=65536) (hnews:∀j u,(zs.map enc)[j]? = some u->w.cell? (ad.add j)=some u)
  (h:∀CC:Array Value,(∀x∈CC.toList,∃n,x=.int .u8 n)->CC.toList.take m=zs.map enc->m<=CC.size->CC.size<=maxLen->wpList Tryz.prog ops Q rest (a.put o.dst (.slice (some ⟨w.heap.size,0,none⟩) m CC.size)) (w.drew.alloc (.cells CC 5))) :
  wpList Tryz.prog ops Q (o :: rest) a w:=by
 obtain⟨i0,hi,hz0,hz1,hz2⟩:=info_parts info5;refine wpList_plain hgd λK hK'=>?_
 have hge:=grownCap_ge w (0+m) 0 5;have hcm:grownCap w (0+m) 0 5<=maxLen:=grownCap_le_maxLen w (0+m) 0 5 (by simp only[maxLen];omega);have hr:=run_append_grow (P:=Tryz.prog) w 22 o.type 5 i0 (.int .u8 0) Tryz.underlying22 hi hz0 b 0 0 [] (by simp) (λj u hj=>by simp at hj) ad m c (zs.map enc) (by rw[List.length_map,hz1,Nat.mul_one];exact hl) hnews (by omega) (by omega) (growslice_fits (by omega) (by rw[hz2];omega));simp only[Nat.zero_add] at hge hcm;generalize hcap:grownCap w (0+m) 0 5=cap at hr hge hcm;simp only[Nat.zero_add] at hr hcap;rw[hcap] at hge hcm;obtain⟨CC,hCC⟩:∃CC,CC=([]:List Value).toArray++(zs.map enc).toArray++Builtin.zeroCells (Value.int .u8 0).cells (cap-m):=⟨_,rfl⟩;have hsz:CC.size=cap:=by rw[hCC];simp[size_zeroCells,Value.cells,hl];omega
 have hint:∀x∈CC.toList,∃n,x=.int .u8 n:=λx hx=>by
  rw[hCC] at hx;simp only[Array.toList_append,List.mem_append] at hx;rcases hx with(hx|hx)|hx
  ·simp at hx
  ·obtain⟨z,_,rfl⟩:=List.mem_map.1 (by simpa using hx);exact⟨_,rfl⟩
  ·exact⟨0,zeros_u8 hx⟩
 have htk:CC.toList.take m=zs.map enc:=by
  rw[hCC];simp only[Array.toList_append,List.nil_append];exact List.take_left' (by simpa using hl)
 have hk:=h CC hint htk (by omega) (by omega);rw[hsz] at hk;unfold Oper.wp;rw[←hCC] at hr;simp[execOp,ho,resolve,invoke,builtin,hs,hx,hr,Result.andThen];exact hK' _ _ hk
theorem clone_full (w:World)(ad:Addr)(m c:Nat)(zs:List UInt8)(hm:zs.length=m)(h0:0<m)(hn:m<=65536)(hx:Bytes w (some ad) zs) :
  Calls Tryz.prog 38 #[.slice (some ad) m c] w λe w'=>∃g CC,e=.returned (.slice (some ⟨g,0,none⟩) m CC.size)/\w.heap.size<=g/\w'.heap[g]? = some (.cells CC 5 (0,0))/\(∀x∈CC.toList,∃n,x=.int .u8 n)/\CC.toList.take m=zs.map enc/\m<=CC.size/\CC.size<=maxLen/\Below w.heap.size w w':=by
 have hsrc:∀j u,(zs.map enc)[j]? = some u->(w.alloc (.cells #[] 5)).cell? (ad.add j)=some u:=λj u hj=>by
  have hjl:j<zs.length:=by have:=(List.getElem?_eq_some_iff.1 hj).1;simpa using this
  obtain⟨b',o',hA',hc⟩:=hx j hjl;cases hA';have hv:u=.int .u8 (zs[j].toNat:Int):=by simp[hjl,enc] at hj;exact hj.symm
  rw[hv,show (⟨b',o',none⟩:Addr).add j=⟨b',o'+j,none⟩ by unfold Addr.add;split<;>simp_all];exact(World.cell?_alloc_lt w _ _ (block_lt_of_cell hc)).trans hc
 have HS:=Lib.hid hsrc;clear hsrc;have HX:=Lib.hid hx;clear hx;have heq:∀w:World,(binOp .eql 22 (.slice (some ad) m c) (.slice none 0 0)).run Tryz.prog w=.ok (.bool false) w:=λw=>by
  simp only[binOp,Sem.run_bind,run_equal_slice_nil w 22 5 (some ad) m c Tryz.underlying22];rfl
 go_enter Tryz.func38,Tryz.ntmps38
 go_wp2_with (at_builtin;go_loud (refine wpList_append_new ?g1 (.tmp 5) (.tmp 6) ?g2 ⟨w.heap.size,0,none⟩ ad m c zs ?g3 ?g4 ?g5 ?g6 ?g7 ?g8 ?g9))
 case g1=>exact rfl
 case g2=>exact rfl
 case g3=>exact rfl
 case g4=>exact rfl
 case g5=>exact hm
 case g6=>exact h0
 case g7=>exact hn
 case g8=>exact HS.out
 case g9=>
  intro CC hint htk hge hle;have HI:=Lib.hid hint;have HT:=Lib.hid htk;clear hint htk;go_wp2
  go_ret
  refine⟨_,CC,rfl,by omega,?_,λx hx=>HI.out x (by simpa using hx),HT.out,hge,hle,?_⟩
  ·have:=heap_alloc_new (w.alloc (.cells #[] 5)) (.cells CC 5);rw[World.size_alloc] at this;exact this
  ·exact((Below.refl _ w).alloc (Nat.le_refl _) _).drew.alloc (by simp) _
end Go.Proofs.YtkmgcggoemlaaaaGreatDoor
end
section
/- firmware.Pieces and slices.Chunk: what they give back. -/
set_option maxHeartbeats 1000000
set_option maxRecDepth 100000
namespace Go.Proofs.YtkmgcggoemlaaaaGreatDoor
open Go Go.Fw Go.Conc Go.RowKit Go.Fwm
section
variable {ρ:Operand->Value} {o:Oper} {W:World} {x y z:Operand} {v:Value}
theorem ex_load81 {a:Addr}(ho:o.op=.load 81 x)(hx:ρ x=.pointer (some a))(hc:W.cell? a=some v):(execOp ρ o).run Tryz.prog W=.ok (.value v) W:=by
 unfold execOp;simp only[ho,hx];go_simp
theorem ex_load82 {a:Addr}(ho:o.op=.load 82 x)(hx:ρ x=.pointer (some a))(hc:W.cell? a=some v):(execOp ρ o).run Tryz.prog W=.ok (.value v) W:=by
 unfold execOp;simp only[ho,hx];go_simp
theorem ex_load25 {a:Addr}(ho:o.op=.load 25 x)(hx:ρ x=.pointer (some a))(hc:W.cell? a=some v):(execOp ρ o).run Tryz.prog W=.ok (.value v) W:=by
 unfold execOp;simp only[ho,hx];go_simp
theorem ex_box25 {l:Nat}(ho:o.op=.box 25 x)(hx:ρ x=yldV l):(execOp ρ o).run Tryz.prog W=.ok (.value (.pointer (some ⟨W.heap.size,0,none⟩))) (W.alloc (.cells #[yldV l] 25)):=by
 unfold execOp;simp only[ho,hx,yldV];go_simp
theorem ex_box3 {i:Int}(ho:o.op=.box 3 x)(hx:ρ x=.int .i64 i):(execOp ρ o).run Tryz.prog W=.ok (.value (.pointer (some ⟨W.heap.size,0,none⟩))) (W.alloc (.cells #[.int .i64 i] 3)):=by
 unfold execOp;simp only[ho,hx];go_simp
theorem ex_not {b:Bool}(ho:o.op=.unOp .not 4 x)(hx:ρ x=.bool b):(execOp ρ o).run Tryz.prog W=.ok (.value (.bool (!b))) W:=by
 unfold execOp;simp only[ho,hx];go_simp
theorem ex_part3 {u:Operand}{A:Option Addr}{l c i j k:Nat}(ho:o.op=.slice 22 x (some y) (some z) (some u))(hx:ρ x=.slice A l c)(hy:ρ y=.int .i64 (i:Int))(hz:ρ z=.int .i64 (j:Int))(hu:ρ u=.int .i64 (k:Int))(h1:i<=j)(h2:j<=k)(h3:k<=c) :
  (execOp ρ o).run Tryz.prog W=.ok (.value (.slice (if k=i then A else Option.map (λp=>p.add i) A) (j-i) (k-i))) W:=by
 unfold execOp;simp only[ho,hx,hy,hz,hu,Option.map_some];go_simp
end
theorem pieces42 {J:List Frame->World->Prop}(hJ:Clo Tryz.prog FN J){A:Option Addr}{l c:Nat}{n:Int}{w:World}{cfr:Frame}{cs:List Frame}(hat:AtOp cfr)
  (hk:J (cfr.finish (bnd 56 #[.pointer (some ⟨w.heap.size+1,0,none⟩),.pointer (some ⟨w.heap.size,0,none⟩)]) :: cs) ((w.alloc (.cells #[.slice A l c] 22)).alloc (.cells #[.int .i64 n] 3))) :
  J (Frame.enter Tryz.prog 42 #[.slice A l c,.int .i64 n] .normal :: cfr :: cs) w:=by
 rw[enter_fa _ _ 6 Tryz.func42 rfl rfl (by simp)];obtain⟨W1,hW1⟩:∃W1,W1=w.alloc (.cells #[.slice A l c] 22):=⟨_,rfl⟩;have s1:W1.heap.size=w.heap.size+1:=by rw[hW1];simp
 obtain⟨W2,hW2⟩:∃W2,W2=W1.alloc (.cells #[.int .i64 n] 3):=⟨_,rfl⟩;rw[←hW1,←hW2] at hk;refine hJ.seq (hJ.region ?_);refine hJ.opf lst rfl rfl (by kernel_rfl) rfl (w':=W1) (v:=.pointer (some ⟨w.heap.size,0,none⟩)) (λtp=>by rw[hW1];exact ex_box22 rfl (fa_eval (by decide))) ?_;refine hJ.opf lst rfl rfl (by kernel_rfl) rfl (w':=W2) (v:=.pointer (some ⟨w.heap.size+1,0,none⟩)) (λtp=>by rw[hW2,←s1];exact ex_box3 rfl (fa_eval (by decide))) ?_;refine hJ.opf lst rfl rfl (by kernel_rfl) rfl (w':=W2) (v:=.nilFunc) (λtp=>ex_assign (x:=.const .nilFunc) rfl rfl) ?_;refine hJ.region_end (hJ.seq (hJ.region ?_));refine hJ.makef rfl rfl rfl (by kernel_rfl) rfl #[.pointer (some ⟨w.heap.size+1,0,none⟩),.pointer (some ⟨w.heap.size,0,none⟩)] (m2 ((fa_eval (by decide)).trans rfl) ((fa_eval (by decide)).trans rfl)) ?_;refine hJ.opf lst rfl rfl (by kernel_rfl) rfl (w':=W2) (λtp=>ex_assign rfl ((fa_eval (by decide)).trans rfl)) ?_;refine hJ.region_end (hJ.ret (hJ.leave rfl rfl rfl Tryz.func42 (by kernel_rfl) hat ?_));rw[res_one (t:=4) rfl,leave_fa (by decide)];exact hk
theorem chunk57 {J:List Frame->World->Prop}(hJ:Clo Tryz.prog FN J){A:Option Addr}{l c n:Nat}(hn:1<=n)(hn2:n<=1000000){w:World}{cfr:Frame}{cs:List Frame}(hat:AtOp cfr)
  (hk:J (cfr.finish (bnd 67 #[.pointer (some ⟨w.heap.size,0,none⟩),.pointer (some ⟨w.heap.size+1,0,none⟩)]) :: cs) ((w.alloc (.cells #[.slice A l c] 22)).alloc (.cells #[.int .i64 (n:Int)] 3))) :
  J (Frame.enter Tryz.prog 57 #[.slice A l c,.int .i64 (n:Int)] .normal :: cfr :: cs) w:=by
 rw[enter_fa _ _ 9 Tryz.func57 rfl rfl (by simp)];obtain⟨W1,hW1⟩:∃W1,W1=w.alloc (.cells #[.slice A l c] 22):=⟨_,rfl⟩;have s1:W1.heap.size=w.heap.size+1:=by rw[hW1];simp
 obtain⟨W2,hW2⟩:∃W2,W2=W1.alloc (.cells #[.int .i64 (n:Int)] 3):=⟨_,rfl⟩;rw[←hW1,←hW2] at hk;have hc:W2.cell? ⟨w.heap.size+1,0,none⟩=some (.int .i64 (n:Int)):=by
  rw[hW2,←s1];exact(World.cell_blk (heap_alloc_new W1 _)).trans rfl
 refine hJ.seq (hJ.region ?_);refine hJ.opf lst rfl rfl (by kernel_rfl) rfl (w':=W1) (v:=.pointer (some ⟨w.heap.size,0,none⟩)) (λtp=>by rw[hW1];exact ex_box22 rfl (fa_eval (by decide))) ?_;refine hJ.opf lst rfl rfl (by kernel_rfl) rfl (w':=W2) (v:=.pointer (some ⟨w.heap.size+1,0,none⟩)) (λtp=>by rw[hW2,←s1];exact ex_box3 rfl (fa_eval (by decide))) ?_;refine hJ.opf lst rfl rfl (by kernel_rfl) rfl (w':=W2) (v:=.nilFunc) (λtp=>ex_assign (x:=.const .nilFunc) rfl rfl) ?_;refine hJ.region_end (hJ.seq (hJ.seq (hJ.region ?_)));refine hJ.opf lst rfl rfl (by kernel_rfl) rfl (w':=W2) (v:=.int .i64 (n:Int)) (λtp=>ex_load3 rfl ((fa_eval (by decide)).trans rfl) hc ⟨_,rfl⟩) ?_;refine hJ.opf lst rfl rfl (by kernel_rfl) rfl (w':=W2) (v:=.bool (decide ((n:Int)<1))) (λtp=>ex_lss rfl ((fa_eval (by decide)).trans rfl) rfl) ?_;have hd:decide ((n:Int)<1)=false:=by simp;omega
 rw[hd];refine hJ.region_end (hJ.cond ((fa_eval (by decide)).trans rfl) ?_);refine hJ.skip (hJ.seq (hJ.region ?_));refine hJ.makef rfl rfl rfl (by kernel_rfl) rfl #[.pointer (some ⟨w.heap.size,0,none⟩),.pointer (some ⟨w.heap.size+1,0,none⟩)] (m2 ((fa_eval (by decide)).trans rfl) ((fa_eval (by decide)).trans rfl)) ?_;refine hJ.opf lst rfl rfl (by kernel_rfl) rfl (w':=W2) (λtp=>ex_assign rfl ((fa_eval (by decide)).trans rfl)) ?_;refine hJ.region_end (hJ.ret (hJ.leave rfl rfl rfl Tryz.func57 (by kernel_rfl) hat ?_));rw[res_one (t:=4) rfl,leave_fa (by decide)];exact hk
theorem c15j {J:List Frame->World->Prop}(hJ:Clo Tryz.prog FN J){x y:Value}{w:World}{R:(List Frame->World->Prop)->Value->Value->World->Prop}
  (h34:∀cfr cs,AtOp cfr->(∀J2 p e w',Clo Tryz.prog FN J2->R J2 p e w'->J2 (cfr.finish (.tuple #[p,e]) :: cs) w')->J (Frame.enter Tryz.prog 34 #[x,y] .normal :: cfr :: cs) w)
  {cfr:Frame} {cs:List Frame} (hat:AtOp cfr) (hk:∀J2 p e w',Clo Tryz.prog FN J2->R J2 p e w'->J2 (cfr.finish (.tuple #[p,e]) :: cs) w'):J (Frame.enter Tryz.prog 15 #[x,y] .normal :: cfr :: cs) w:=by
 rw[enter_fa _ _ 11 Tryz.func15 rfl rfl (by simp)];refine hJ.seq (hJ.region ?_);refine hJ.opf lst rfl rfl (by kernel_rfl) rfl (w':=w) (λtp=>ex_assign (x:=.const (.slice none 0 0)) rfl rfl) ?_;refine hJ.opf lst rfl rfl (by kernel_rfl) rfl (w':=w) (λtp=>ex_assign (x:=.const .nilIface) rfl rfl) ?_;refine hJ.region_end (hJ.seq (hJ.region ?_));refine hJ.opf lst rfl rfl (by kernel_rfl) rfl (w':=w) (v:=x) (λtp=>ex_move rfl ((fa_eval (by decide)).trans rfl)) ?_;refine hJ.opf lst rfl rfl (by kernel_rfl) rfl (w':=w) (v:=y) (λtp=>ex_move rfl ((fa_eval (by decide)).trans rfl)) ?_;refine hJ.callop rfl (wanted_plain rfl _) rfl (by kernel_rfl) (by kernel_rfl) ?_;rw[m2 (v:=x) (u:=y) ((fa_eval (by decide)).trans rfl) ((fa_eval (by decide)).trans rfl)];refine h34 _ _ (atOp_at _) λJ2 p e w' hJ hR=>?_
 rw[finish_fa rfl rfl];refine hJ.opf lst rfl rfl (by kernel_rfl) rfl (w':=w') (v:=p) (λtp=>ex_extract rfl ((fa_eval (by decide)).trans rfl) rfl) ?_;refine hJ.opf lst rfl rfl (by kernel_rfl) rfl (w':=w') (v:=e) (λtp=>ex_extract rfl ((fa_eval (by decide)).trans rfl) rfl) ?_;refine hJ.opf lst rfl rfl (by kernel_rfl) rfl (w':=w') (v:=p) (λtp=>ex_assign rfl ((fa_eval (by decide)).trans rfl)) ?_;refine hJ.opf lst rfl rfl (by kernel_rfl) rfl (w':=w') (v:=e) (λtp=>ex_assign rfl ((fa_eval (by decide)).trans rfl)) ?_;refine hJ.region_end (hJ.ret (hJ.leave rfl rfl rfl Tryz.func15 (by kernel_rfl) hat ?_));rw[res_two (t:=4) (u:=5) rfl];rw[leave_fa (by decide),leave_fa (by decide)];exact hk J2 p e w' hJ hR
end Go.Proofs.YtkmgcggoemlaaaaGreatDoor
end
section
/- The order of a drawn region of five operations, of which the first may be anywhere ahead of the fourth. -/
namespace Go.Fw
open Go
theorem lin_go {ops:Array Oper}(f t:Nat)(L:Array Bool)(acc:List Nat):Region.linearise.go .any ops (f+1) t L acc=match (Region.ready .any ops L)[t%(Region.ready .any ops L).length]? with
  | some i=>Region.linearise.go .any ops f (t/(Region.ready .any ops L).length) (L.setIfInBounds i true) (i :: acc)
  | none=>acc.reverse:=by
 conv=>lhs;unfold Region.linearise.go
 rfl
theorem lin_one {ops:Array Oper}{f t:Nat}{L:Array Bool}{acc:List Nat}{i:Nat}(h:Region.ready .any ops L=[i]):Region.linearise.go .any ops (f+1) t L acc=Region.linearise.go .any ops f t (L.setIfInBounds i true) (i :: acc):=by
 rw[lin_go,h];simp[Nat.mod_one,Nat.div_one]
theorem lin_two {ops:Array Oper}{f t:Nat}{L:Array Bool}{acc:List Nat}{i j:Nat}(h:Region.ready .any ops L=[i,j]) :
  Region.linearise.go .any ops (f+1) t L acc=Region.linearise.go .any ops f (t/2) (L.setIfInBounds i true) (i :: acc)\/Region.linearise.go .any ops (f+1) t L acc=Region.linearise.go .any ops f (t/2) (L.setIfInBounds j true) (j :: acc):=by
 rw[lin_go,h];rcases Nat.mod_two_eq_zero_or_one t with e|e
 ·left;simp[e]
 ·right;simp[e]
theorem sched5 {ops:Array Oper}{mixed:Bool}(hm:mixed=true)(hs:ops.size=5)(h0:Region.ready .any ops #[false,false,false,false,false]=[0,1])(h1:Region.ready .any ops #[true,false,false,false,false]=[1])(h2:Region.ready .any ops #[false,true,false,false,false]=[0,2])
  (h3:Region.ready .any ops #[true,true,false,false,false]=[2]) (h4:Region.ready .any ops #[false,true,true,false,false]=[0]) (h5:Region.ready .any ops #[true,true,true,false,false]=[3]) (h6:Region.ready .any ops #[true,true,true,true,false]=[4]) (t:Nat) :
  Region.schedule mixed ops t=[0,1,2,3,4]\/Region.schedule mixed ops t=[1,0,2,3,4]\/Region.schedule mixed ops t=[1,2,0,3,4]:=by
 have e:Region.schedule mixed ops t=Region.linearise.go .any ops 5 t #[false,false,false,false,false] []:=by
  unfold Region.schedule;rw[hm,Bool.true_or,if_pos rfl];unfold Region.linearise;rw[hs];rfl
 rw[e];have tail:∀t acc,Region.linearise.go .any ops 2 t #[true,true,true,false,false] acc=(4 :: 3 :: acc).reverse:=λt acc=>by
  rw[lin_one h5];show Region.linearise.go .any ops 1 t #[true,true,true,true,false] (3 :: acc)=_;rw[lin_one h6];rfl
 rcases lin_two (f:=4) (t:=t) (acc:=[]) h0 with g | g<;>rw[g]
 ·left;show Region.linearise.go .any ops 4 (t/2) #[true,false,false,false,false] [0]=_;rw[lin_one h1];show Region.linearise.go .any ops 3 (t/2) #[true,true,false,false,false] [1,0]=_;rw[lin_one h3];show Region.linearise.go .any ops 2 (t/2) #[true,true,true,false,false] [2,1,0]=_;rw[tail];rfl
 ·right;show Region.linearise.go .any ops 4 (t/2) #[false,true,false,false,false] [1]=_\/Region.linearise.go .any ops 4 (t/2) #[false,true,false,false,false] [1]=_;rcases lin_two (f:=3) (t:=t/2) (acc:=[1]) h2 with g | g<;>rw[g]
  ·left;show Region.linearise.go .any ops 3 (t/2/2) #[true,true,false,false,false] [0,1]=_;rw[lin_one h3];show Region.linearise.go .any ops 2 (t/2/2) #[true,true,true,false,false] [2,0,1]=_;rw[tail];rfl
  ·right;show Region.linearise.go .any ops 3 (t/2/2) #[false,true,true,false,false] [2,1]=_;rw[lin_one h4];show Region.linearise.go .any ops 2 (t/2/2) #[true,true,true,false,false] [0,2,1]=_;rw[tail];rfl
open Go.Conc
variable {P:Program} {FN:FuncId->Bool}
theorem Clo.rdraw5 {J:List Frame->World->Prop}(hJ:Clo P FN J)(hL:Lst P FN)(hm:P.follows .mixedOrders=true){id l n:Nat}{f:FuncId}{ops:Array Oper}{fx:Nat->Value}{D:List Deferred}{k:List Item}{cs:List Frame}{w:World}
  (hs:ops.size=5) (r0:Region.ready .any ops #[false,false,false,false,false]=[0,1]) (r1:Region.ready .any ops #[true,false,false,false,false]=[1]) (r2:Region.ready .any ops #[false,true,false,false,false]=[0,2])
  (r3:Region.ready .any ops #[true,true,false,false,false]=[2]) (r4:Region.ready .any ops #[false,true,true,false,false]=[0]) (r5:Region.ready .any ops #[true,true,true,false,false]=[3]) (r6:Region.ready .any ops #[true,true,true,true,false]=[4])
  {o0 o1 o2:Oper} {d0 d1 d2:Nat} {v0 v1:Value} {g:FuncId} {ats:Array TypeId} {R:Value->World->Prop} (hne:d0≠d1/\d0≠d2/\d1≠d2) (hlt:d1<n)
  (ho0:ops[0]? = some o0) (hg0:o0.guard=none) (hk0:okOp P FN o0=true) (hd0:o0.dst=some d0) (nd0:∀c,o0.op≠.defer c)
  (hr0:∀(g:Nat->Value) (W:World),(∀t,t≠d0->t≠d1->t≠d2->g t=fx t)->(W.heap=w.heap\/∃v W',R v W'/\W.heap=W'.heap)->(execOp (fa n g D).eval o0).run P W=.ok (.value v0) W)
  (ho1:ops[1]? = some o1) (hg1:o1.guard=none) (hk1:okOp P FN o1=true) (hd1:o1.dst=some d1) (nd1:∀c,o1.op≠.defer c)
  (hr1:∀(g:Nat->Value) (W:World),(∀t,t≠d0->t≠d1->t≠d2->g t=fx t)->(execOp (fa n g D).eval o1).run P W=.ok (.value v1) W)
  (ho2:ops[2]? = some o2) (hg2:o2.guard=none) (hop2:o2.op=.call { callee:=.value (.func g),args:=#[.tmp d1],argTypes:=ats }) (hb:bodyOk P g=true) (hf:FN g=true) (hd2:o2.dst=some d2)
  (hc:∀W:World,W.heap=w.heap->Calls P g #[v1] W λe w'=>∃v,e=.returned v/\R v w')
  (hn:∀(q:Nat->Value) (v:Value) (W:World),(∃W',R v W'/\W.heap=W'.heap)->q d0=v0->q d2=v->(∀t,t≠d0->t≠d1->t≠d2->q t=fx t)->J (rfr l f (fa n q D) (.inRegion ops [3,4] :: k) :: cs) W) :
  J (rfr l f (fa n fx D) (.code (.region id ops true) :: k) :: cs) w:=by
 obtain⟨n1,n2,n3⟩:=hne;refine hJ.rdraw λt w' hw=>?_
 have call:∀(q:Nat->Value) (rest:List Nat) (W:World),W.heap=w.heap->q d1=v1->(∀v W',R v W'->J (rfr l f (fa n (up q d2 v) D) (.inRegion ops rest :: k) :: cs) W')->J (rfr l f (fa n q D) (.inRegion ops (2 :: rest) :: k) :: cs) W:=λq rest W hW hq hk=>by
  refine hJ.rcallf hL ho2 hg2 hop2 hb (by simp[okX]) hf hd2 (R:=R) #[v1] (by simp[fa_eval hlt,hq]) (λtp=>hc _ hW) hk
 rcases sched5 hm hs r0 r1 r2 r3 r4 r5 r6 t with e | e | e<;>rw[e]
 ·refine hJ.rop hL ho0 hg0 hk0 hd0 nd0 (w':=w') (v:=v0) (λtp=>hr0 _ _ (λt _ _ _=>rfl) (.inl hw)) ?_;refine hJ.rop hL ho1 hg1 hk1 hd1 nd1 (w':=w') (v:=v1) (λtp=>hr1 _ _ (λt h _ _=>up_ne h)) ?_;refine call _ _ _ hw (up_same _ _ _) λv W' hR=>hn _ v W' ⟨W',hR,rfl⟩ ?_ (up_same _ _ _) λt h0 h1 h2=>?_
  ·rw[up_ne n2,up_ne n1,up_same]
  ·rw[up_ne h2,up_ne h1,up_ne h0]
 ·refine hJ.rop hL ho1 hg1 hk1 hd1 nd1 (w':=w') (v:=v1) (λtp=>hr1 _ _ (λt _ _ _=>rfl)) ?_;refine hJ.rop hL ho0 hg0 hk0 hd0 nd0 (w':=w') (v:=v0) (λtp=>hr0 _ _ (λt _ h _=>up_ne h) (.inl hw)) ?_;refine call _ _ _ hw (by rw[up_ne (Ne.symm n1),up_same]) λv W' hR=>hn _ v W' ⟨W',hR,rfl⟩ ?_ (up_same _ _ _) λt h0 h1 h2=>?_
  ·rw[up_ne n2,up_same]
  ·rw[up_ne h2,up_ne h0,up_ne h1]
 ·refine hJ.rop hL ho1 hg1 hk1 hd1 nd1 (w':=w') (v:=v1) (λtp=>hr1 _ _ (λt _ _ _=>rfl)) ?_;refine call _ _ _ hw (up_same _ _ _) λv W' hR=>?_
  refine hJ.rop hL ho0 hg0 hk0 hd0 nd0 (w':=W') (v:=v0) (λtp=>hr0 _ _ (λt _ h1 h2=>by rw[up_ne h2,up_ne h1]) (.inr ⟨v,W',hR,rfl⟩)) ?_;refine hn _ v W' ⟨W',hR,rfl⟩ (up_same _ _ _) ?_ λt h0 h1 h2=>?_
  ·rw[up_ne (Ne.symm n2),up_same]
  ·rw[up_ne h0,up_ne h2,up_ne h1]
end Go.Fw
end
