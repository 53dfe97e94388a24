/-
  Part 22 of the common ground of this seat: what single parts show stands ahead of each.
  No condition.
-/
import Derived.Test.YtkmgcggoemlaaaaGreatDoorJ21
import Derived.Test.YtkmgcggoemlaaaaGreatDoorJ16
import Derived.Test.YtkmgcggoemlaaaaGreatDoorJ17
import Derived.Test.YtkmgcggoemlaaaaGreatDoorJ08
import Derived.Conc.LeavingOf
set_option linter.unusedSimpArgs false
set_option linter.unusedVariables false
set_option linter.constructorNameAsVariable false
section
/- patch.Generate: from its call the machine comes to a good end, if it does so from the patch. -/
set_option maxHeartbeats 8000000
set_option maxRecDepth 100000
namespace Go.Proofs.YtkmgcggoemlaaaaGreatDoor
open Go Go.Fw Go.Conc Go.RowKit Go.Fwm
theorem gen_long {N0:Nat}{W0:World}{Post:Value->World->Prop}{Ch:List Nat}{Ao An:Option Addr}{c0 cn lo ln:Nat}{w:World}{cfr:Frame}{cs:List Frame}(hlo:lo<=1000000000)(hln:ln<=1000000000)(hl:4096<lo\/4096<ln)(hat:AtOp cfr)
  (hk:CEnds Tryz.prog FN N0 W0 Post Ch (cfr.finish (.tuple #[.slice none 0 0,.iface 30 (.int .i64 1)]) :: cs) w) :
  CEnds Tryz.prog FN N0 W0 Post Ch (Frame.enter Tryz.prog 34 #[.slice Ao lo c0,.slice An ln cn] .normal :: cfr :: cs) w:=by
 have hJ:=cEnds_clo (P:=Tryz.prog) (FN:=FN) (N0:=N0) (W0:=W0) (Post:=Post) (Ch:=Ch);rw[enter_fa _ _ 53 Tryz.func34 rfl rfl (by simp)];refine hJ.seq (hJ.code lst (by kernel_rfl) rfl rfl (by kernel_rfl) (N:=λa' w'=>a'.tmps.size=53/\a'.defers=[]/\a'.eval (.tmp 0)=.slice Ao lo c0/\a'.eval (.tmp 1)=.slice An ln cn/\∃tp,w'=Go.Fw.tpd w tp) (R:=λ_ _=>False) (λtp=>?_) (λa' w' h=>?_) (λ_ _ _ h=>h.elim))
 ·rw[fa_lit53];change Code.wp Tryz.prog _ _ ⟨#[.slice Ao lo c0,.slice An ln cn,undef,undef,undef,undef,undef,undef,undef,undef,undef,undef,undef,undef,undef,undef,undef,undef,undef,undef,undef,undef,undef,undef,undef,undef,undef,undef,undef,undef,undef,undef,undef,undef,undef,undef,undef,undef,undef,undef,undef,undef,undef,undef,undef,undef,undef,undef,undef,undef,undef,undef,undef],[]⟩ _;dsimp only;go_wp2
  exact⟨rfl,rfl,rfl,rfl,tp,rfl⟩
 ·obtain⟨h1,h2,h3,h4,tp,rfl⟩:=h;rw[fa_of h1,h2];rw[fa_of h1,fa_eval (by decide)] at h3 h4;refine hJ.seq (hJ.code lst (by kernel_rfl) rfl rfl (by kernel_rfl) (N:=λ_ _=>False) (R:=λa' w'=>a'.tmps.size=53/\a'.defers=[]/\a'.eval (.tmp 4)=.slice none 0 0/\a'.eval (.tmp 5)=.iface 30 (.int .i64 1)/\∃tp,w'=Go.Fw.tpd w tp) (λtp=>?_) (λ_ _ h=>h.elim) (λa' w' td h=>?_))
  ·rw[fa_lit53];dsimp only;rw[h3,h4];by_cases h:4096<lo
   ·go_wp2
    exact⟨rfl,rfl,rfl,rfl,_,rfl⟩
   ·have h':4096<ln:=by omega
    go_wp2
    exact⟨rfl,rfl,rfl,rfl,_,rfl⟩
  ·obtain⟨q1,q2,q3,q4,tp,rfl⟩:=h;refine hJ.leave rfl q2 rfl Tryz.func34 (by kernel_rfl) hat ?_;rw[res_two (t:=4) (u:=5) rfl];have e3:({ (bas 34 .normal).at a' td with mode:=.returning }:Frame).tmps.getD 4 undef=_:=q3;have e4:({ (bas 34 .normal).at a' td with mode:=.returning }:Frame).tmps.getD 5 undef=_:=q4;rw[e3,e4];exact hJ.tp _ _ _ hk
theorem gen_ends {N0:Nat}{W0:World}{Post:Value->World->Prop}{Ch:List Nat}{Ao An:Option Addr}{c0 cn:Nat}{old next:List UInt8}{w:World}{cfr:Frame}{cs:List Frame}(ho:Bytes w Ao old)(hn:Bytes w An next)(hol:old.length<=4096)(hoc:old.length<=c0)(hnl:next.length<=4096)(hnc:next.length<=cn)(hco:c0<=maxLen)
  (hlo:∀a,Ao=some a->a.block<w.heap.size) (hln:∀a,An=some a->a.block<w.heap.size) (hat:AtOp cfr)
  (hk:∀pv w',Rin w w' pv (patchG (lgOf old) old next)->CEnds Tryz.prog FN N0 W0 Post Ch (cfr.finish (.tuple #[pv,.nilIface]) :: cs) w') :
  CEnds Tryz.prog FN N0 W0 Post Ch (Frame.enter Tryz.prog 34 #[.slice Ao old.length c0,.slice An next.length cn] .normal :: cfr :: cs) w:=by
 have hJ:=λCh=>cEnds_clo (P:=Tryz.prog) (FN:=FN) (N0:=N0) (W0:=W0) (Post:=Post) (Ch:=Ch)
 rw[enter_fa _ _ 53 Tryz.func34 rfl rfl (by simp)];refine(hJ _).seq ((hJ _).code lst (by kernel_rfl) rfl rfl (by kernel_rfl) (N:=λa' w'=>a'.tmps.size=53/\a'.defers=[]/\a'.eval (.tmp 0)=.slice Ao old.length c0/\a'.eval (.tmp 1)=.slice An next.length cn/\∃tp,w'=Go.Fw.tpd w tp) (R:=λ_ _=>False) (λtp=>?_) (λa' w' h=>?_) (λ_ _ _ h=>h.elim))
 ·rw[fa_lit53];change Code.wp Tryz.prog _ _ ⟨#[.slice Ao old.length c0,.slice An next.length cn,undef,undef,undef,undef,undef,undef,undef,undef,undef,undef,undef,undef,undef,undef,undef,undef,undef,undef,undef,undef,undef,undef,undef,undef,undef,undef,undef,undef,undef,undef,undef,undef,undef,undef,undef,undef,undef,undef,undef,undef,undef,undef,undef,undef,undef,undef,undef,undef,undef,undef,undef],[]⟩ _;dsimp only;go_wp2
  exact⟨rfl,rfl,rfl,rfl,tp,rfl⟩
 obtain⟨h1,h2,h3,h4,tp,rfl⟩:=h;refine(hJ _).tp _ _ tp ?_;obtain⟨F,rfl,hF⟩:=act_fa h1 h2;rw[hF _ (by decide)] at h3 h4;clear h1 h2 hF;refine(hJ _).seq ((hJ _).code lst (by kernel_rfl) rfl rfl (by kernel_rfl) (N:=λa' w'=>a'.tmps.size=53/\a'.defers=[]/\a'.eval (.tmp 0)=.slice Ao old.length c0/\a'.eval (.tmp 1)=.slice An next.length cn/\∃tp,w'=Go.Fw.tpd w tp) (R:=λa' w'=>False) (λtp=>?_) (λa' w' h=>?_) (λa' w' td h=>h.elim))
 ·rw[fa_lit53,h3,h4];dsimp only;have b1:¬((4096:Int)<(old.length:Int)):=by omega
  have b2:¬((4096:Int)<(next.length:Int)):=by omega
  go_wp2
  exact⟨rfl,rfl,rfl,rfl,_,rfl⟩
 obtain⟨h1,h2,h3,h4,tp,rfl⟩:=h;refine(hJ _).tp _ _ tp ?_;obtain⟨F,rfl,hF⟩:=act_fa h1 h2;rw[hF _ (by decide)] at h3 h4;clear h1 h2 hF;refine(hJ _).seq ((hJ _).region ?_);refine CEnds.makeChan rfl rfl (λA W=>ex_chan rfl rfl) λc=>?_
 change CEnds _ _ _ _ _ _ ((bas 34 .normal).at ((fa 53 F []).put (some 17) (.chan (some c))) _ :: _) _;rw[fa_put];refine(hJ _).opf lst rfl rfl (by kernel_rfl) rfl (w':=w) (v:=.chan (some c)) (λtp=>ex_assign rfl ((fa_eval (by decide)).trans rfl)) ?_;refine(hJ _).region_end ((hJ _).seq ((hJ _).region ?_));refine(hJ _).opf lst rfl rfl (by kernel_rfl) rfl (w':=w) (v:=.slice Ao old.length c0) (λtp=>ex_move rfl ((fa_eval (by decide)).trans h3)) ?_;refine(hJ _).opf lst rfl rfl (by kernel_rfl) rfl (w':=w) (v:=.slice An next.length cn) (λtp=>ex_move rfl ((fa_eval (by decide)).trans h4)) ?_;refine(hJ _).opf lst rfl rfl (by kernel_rfl) rfl (w':=w) (v:=.chan (some c)) (λtp=>ex_move rfl ((fa_eval (by decide)).trans rfl)) ?_;obtain⟨G,hG⟩:∃G:Nat->Value,G=up (up (up (up (up F 17 (.chan (some c))) 6 (.chan (some c))) 18 (.slice Ao old.length c0)) 19 (.slice An next.length cn)) 20 (.chan (some c)):=⟨_,rfl⟩;have g0:G 0=.slice Ao old.length c0:=by rw[hG];exact h3
 have g1:G 1=.slice An next.length cn:=by rw[hG];exact h4
 have g6:G 6=.chan (some c):=by rw[hG];rfl
 have g18:G 18=.slice Ao old.length c0:=by rw[hG];rfl
 have g19:G 19=.slice An next.length cn:=by rw[hG];rfl
 have g20:G 20=.chan (some c):=by rw[hG];rfl
 change CEnds _ _ _ _ _ _ ((bas 34 .normal).at (fa 53 (up (up (up (up (up F 17 (.chan (some c))) 6 (.chan (some c))) 18 (.slice Ao old.length c0)) 19 (.slice An next.length cn)) 20 (.chan (some c))) []) _ :: _) _;rw[←hG];clear hG h3 h4;refine CEnds.fork (K:=λfs W=>CEnds Tryz.prog FN N0 W0 Post Ch fs (thaw w W)) (L:=(runL (lgOf old) next).map (runV An cn)) rfl rfl rfl (by kernel_rfl) (by kernel_rfl) ?_ ?_ ?_ (λ_ _ h=>h)
 ·have hR:=rcv_clo (P:=Tryz.prog) (FN:=FN) c (λfs W=>CEnds Tryz.prog FN N0 W0 Post Ch fs (thaw w W)) ((runL (lgOf old) next).map (runV An cn));change Rcv _ _ _ _ _ ((bas 34 .normal).at (fa 53 G []) _ :: _) _;refine hR.region_end (hR.seq (hR.region ?_));refine hR.opf lst rfl rfl (by kernel_rfl) rfl (w':=frzW w) (v:=.chan (some c)) (λtp=>ex_move rfl ((fa_eval (by decide)).trans g6)) ?_;refine hR.callop rfl (wanted_plain rfl _) rfl (by kernel_rfl) (by kernel_rfl) ?_;rw[m1 (v:=.chan (some c)) ((fa_eval (by decide)).trans rfl)];refine runs_rcv (w:=frzW w) (frz_bytes hn) hnl hnc (runL (lgOf old) next) (fnd_ok (lgOf_ok old) hol _ _ _ (Nat.le_refl _) (Nat.zero_le _)) (atOp_at _) ?_ (Rin.nil _) _ (hJ Ch) (thaw w) (λv W hW=>?_)
  ·have:=stepsR_len (lgOf_ok old) next
   unfold stepsR at this;omega
  rw[finish_fa rfl rfl];have hW2:=hW.thaw;generalize thaw w W=V at hW2 ⊢;clear hW;have hS:(encs (stepsR (lgOf old) next)).length<=10000:=by have:=stepsR_len (lgOf_ok old) next;omega
  change Rin w V v (encs (stepsR (lgOf old) next)) at hW2;refine(hJ _).opf lst rfl rfl (by kernel_rfl) rfl (w':=V) (v:=v) (λtp=>ex_assign rfl ((fa_eval (by decide)).trans rfl)) ?_;obtain⟨H,hH⟩:∃H:Nat->Value,H=up (up (up G 21 (.chan (some c))) 22 v) 7 v:=⟨_,rfl⟩;have h0:H 0=.slice Ao old.length c0:=by rw[hH];exact g0
  have h1:H 1=.slice An next.length cn:=by rw[hH];exact g1
  have h7:H 7=v:=by rw[hH];rfl
  change CEnds _ _ _ _ _ _ ((bas 34 .normal).at (fa 53 (up (up (up G 21 (.chan (some c))) 22 v) 7 v) []) _ :: _) _;rw[←hH];clear hH g0 g1 g6 g18 g19 g20 hR h3 h4;refine(hJ _).region_end ((hJ _).seq ((hJ _).code lst (by kernel_rfl) rfl rfl (by kernel_rfl) (N:=λa' w'=>a'.tmps.size=53/\a'.defers=[]/\a'.eval (.tmp 0)=.slice Ao old.length c0/\a'.eval (.tmp 1)=.slice An next.length cn/\Rin w w' (a'.eval (.tmp 7)) (encs (steps (lgOf old) old next))) (R:=λ_ _=>False) (λtp=>?_) (λa' w' h=>?_) (λ_ _ _ h=>h.elim)))
  ·rw[fa_lit53,h0,h1,h7];dsimp only;have hW3:=hW2.tpd tp;generalize Go.Fw.tpd V tp=U at hW3 ⊢;obtain⟨B,cv,rfl,hcv⟩:=hW3.own.slice;have HW:=Lib.hid hW3;clear hW3 hW2 h0 h1 h7 hk hJ;have HO:=Lib.hid ho;have HN:=Lib.hid hn;clear ho hn;by_cases heq:old.length=next.length
   ·have heq':((old.length:Int) == (next.length:Int))=true:=by simp[heq]
    have HE:=Lib.hid heq;clear heq;have hbs:=pbeside_ok U Ao An c0 cn old.length old next rfl HE.out.symm hol (HO.out.keep λa _ hlt=>HW.out.old _ hlt) (HN.out.keep λa _ hlt=>HW.out.old _ hlt)
    rw[show Value.slice An old.length cn=Value.slice An next.length cn by rw[HE.out]] at hbs;have HBS:=Lib.hid hbs;clear hbs;by_cases hlt:(encs (stepsB old next)).length<(encs (stepsR (lgOf old) next)).length
    ·have est:steps (lgOf old) old next=stepsB old next:=by unfold steps;rw[if_pos ⟨HE.out,hlt⟩]
     rw[est];clear est;have hd:((encs (stepsB old next)).length:Int)<((encs (stepsR (lgOf old) next)).length:Int):=by omega
     generalize (encs (stepsR (lgOf old) next)).length=LR at hd ⊢;clear hlt hcv hS;go_wp2_with (go_at_call 47;refine HBS.out.mono ?_;rintro e w1 ⟨bv,rfl,hb⟩;obtain⟨B2,cb,rfl,hcb⟩:=hb.own.slice;have HB:=Lib.hid hb;clear hb)
     exact⟨rfl,rfl,rfl,rfl,HW.out.other HB.out⟩
    ·have est:steps (lgOf old) old next=stepsR (lgOf old) next:=by unfold steps;rw[if_neg (λh=>hlt h.2)]
     rw[est];clear est;have hd:¬((encs (stepsB old next)).length:Int)<((encs (stepsR (lgOf old) next)).length:Int):=by omega
     clear hlt hcv hS;go_wp2_with (go_at_call 47;refine HBS.out.mono ?_;rintro e w1 ⟨bv,rfl,hb⟩;obtain⟨B2,cb,rfl,hcb⟩:=hb.own.slice;have HB:=Lib.hid hb;clear hb)
     exact⟨rfl,rfl,rfl,rfl,HW.out.keep HB.out.grown.size λb hb=>HB.out.grown.block b hb λe=>by cases e⟩
   ·have heq':((old.length:Int) == (next.length:Int))=false:=by simp;omega
    have est:steps (lgOf old) old next=stepsR (lgOf old) next:=by unfold steps;rw[if_neg (λh=>heq h.1)]
    rw[est];clear est;have HE:=Lib.hid heq;clear heq;go_wp2
    exact⟨rfl,rfl,rfl,rfl,HW.out⟩
  ·obtain⟨q1,q2,q3,q4,hW3⟩:=h;obtain⟨F,rfl,hF⟩:=act_fa q1 q2;rw[hF _ (by decide)] at q3 q4 hW3;clear q1 q2 hF;have hS:(encs (steps (lgOf old) old next)).length<=10000:=by have:=steps_len (lgOf_ok old) (old:=old) next;omega
   refine(hJ _).code lst (by kernel_rfl) rfl rfl (by kernel_rfl) (N:=λ_ _=>False) (R:=λa' w'=>a'.defers=[]/\a'.eval (.tmp 5)=.nilIface/\Rin w w' (a'.eval (.tmp 4)) (patchG (lgOf old) old next)) (λtp=>?_) (λ_ _ h=>h.elim) (λa' w' td h=>?_)
   ·rw[fa_lit53,q3,q4];dsimp only;have hW4:=hW3.tpd tp;generalize Go.Fw.tpd w' tp=U at hW4 ⊢;have hpe:patchG (lgOf old) old next=patchOf old next.length (steps (lgOf old) old next):=rfl
    rw[hpe];unfold patchOf bodyOf headOf;generalize encs (steps (lgOf old) old next)=S at hS hW4 hW3 ⊢;generalize F 7=sv at hW4 hW3 ⊢;obtain⟨B,cv,rfl,hcv⟩:=hW4.own.slice;have hob:=ho.keep (w':=U) λa _ hlt=>hW4.old _ hlt
    have hsb:=hW4.own.bytes rfl;clear q3 q4 hk hJ hW3;have HW:=Lib.hid hW4;clear hW4;have HO:=Lib.hid ho;have HN:=Lib.hid hn;clear ho hn;have hnl0:(num old.length).length<=2:=(num_len _).1;have hnl1:(num next.length).length<=2:=(num_len _).1;have hadd1:∀W,Bytes W Ao old->Calls Tryz.prog 50 #[.int .u32 0,.slice Ao old.length c0] W λe w'=>e=.returned (.int .u32 (sumAdd 0 old:Nat))/\W=w':=λW h=>add_ok W 0 (by omega) Ao old.length c0 old rfl (by simp only[maxLen];omega) h
    have hadd2:∀W B n c (zs:List UInt8),zs.length=n->zs.length<=100000->Bytes W B zs->Calls Tryz.prog 50 #[.int .u32 0,.slice B n c] W λe w'=>e=.returned (.int .u32 (sumAdd 0 zs:Nat))/\W=w':=λW B n c zs hn hz h=>add_ok W 0 (by omega) B n c zs hn (by simp only[maxLen];omega) h
    have hA1:=Lib.hid hadd1;have hA2:=Lib.hid hadd2;clear hadd1 hadd2;have HOB:=Lib.hid hob;have HSB:=Lib.hid hsb;clear hob hsb;have l1:([]++num old.length).length<=10000000:=by simp;omega
    have l2:([]++num old.length++be32 (sumAdd 0 old)).length<=10000000:=by simp[be32];omega
    have l3:([]++num old.length++be32 (sumAdd 0 old)++num next.length).length+S.length<=100000000:=by simp[be32];omega
    have l4:([]++num old.length++be32 (sumAdd 0 old)++num next.length++S).length<=100000:=by simp[be32];omega
    have l5:([]++num old.length++be32 (sumAdd 0 old)++num next.length++S).length<=10000000:=Nat.le_trans l4 (by decide);have L1:=Lib.hid l1;have L2:=Lib.hid l2;have L3:=Lib.hid l3;have L4:=Lib.hid l4;have L5:=Lib.hid l5;clear l1 l2 l3 l4 l5 hnl0 hnl1;go_wp2_with (first
     | (go_at_call_of 49 (Value.slice none 0 0);refine(pnumber_ok U (.slice none 0 0) [] (Row.nil U) (by decide) old.length hol).mono ?_;rintro e w1 ⟨v1,rfl,ha1⟩;have HA1:=Lib.hid ha1;clear ha1)
     | (go_at_call 48;refine(pfixed_ok _ v1 _ HA1.out.own L1.out _ (sumAdd_lt _ _)).mono ?_;rintro e w2 ⟨v2,rfl,ha2⟩;have HA2:=Lib.hid ha2;clear ha2)
     | (go_at_call 50;refine(hA1.out _ (HA1.out.keepB HOB.out)).mono ?_;rintro e w1' ⟨rfl,rfl⟩))
    go_wp2_with (first
     | (go_at_call_of 49 v2;refine(pnumber_ok w2 v2 _ HA2.out.own L2.out next.length hnl).mono ?_;rintro e w3 ⟨v3,rfl,ha3⟩;have HA3:=Lib.hid ha3;clear ha3)
     | (at_builtin;refine wpList_append_all rfl (.tmp 46) (.tmp 47) rfl v3 _ S B S.length cv rfl HA3.out.own rfl rfl (((HA1.out.trans HA2.out).trans HA3.out).keepB HSB.out) L3.out ?_;intro v4 w4 ha4;obtain⟨B4,n4,c4,rfl,hn4,hc4⟩:=ha4.own.slice2;have HA4:=Lib.hid ha4;have HN4:=Lib.hid hn4;clear ha4 hn4)
     | (go_at_call 50;refine(hA2.out _ B4 n4 c4 _ HN4.out L4.out (HA4.out.own.bytes rfl)).mono ?_;rintro e w4' ⟨rfl,rfl⟩)
     | (go_at_call 48;refine(pfixed_ok _ _ _ HA4.out.own L5.out _ (sumAdd_lt _ _)).mono ?_;rintro e w5 ⟨v5,rfl,ha5⟩;have HA5:=Lib.hid ha5;clear ha5))
    have hfin:=((((HA1.out.trans HA2.out).trans HA3.out).trans HA4.out).trans HA5.out);have hfin2:App U w5 (.slice none 0 0) v5 (num old.length++be32 (sumAdd 0 old)++num next.length++S++be32 (sumAdd 0 (num old.length++be32 (sumAdd 0 old)++num next.length++S))):=by simpa only[List.nil_append,List.append_assoc] using hfin
    exact⟨rfl,rfl,HW.out.other hfin2⟩
   ·obtain⟨q2,q5,hW4⟩:=h;refine(hJ _).leave rfl q2 rfl Tryz.func34 (by kernel_rfl) hat ?_;rw[res_two (t:=4) (u:=5) rfl];have e4:({ (bas 34 .normal).at a' td with mode:=.returning }:Frame).tmps.getD 5 undef=_:=q5;rw[e4];exact hk _ _ hW4
 ·rw[m3 ((fa_eval (by decide)).trans g18) ((fa_eval (by decide)).trans g19) ((fa_eval (by decide)).trans g20)];exact find_snd (frzW w) c Ao An c0 cn old next (frz_bytes ho) (frz_bytes hn) hol hoc hnl hnc hco (by rw[frzW_size];exact hlo) (by rw[frzW_size];exact hln)
 ·intro β A hA v hv;obtain⟨r,hr,rfl⟩:=List.mem_map.1 hv;have hok:=fnd_ok (lgOf_ok old) hol _ _ _ (Nat.le_refl _) (Nat.zero_le _) r hr;exact run_sent (t:=1) (by decide) hA g1 r (by have h1:=hok.1;have h2:=hok.2.1;omega)
/- firmware.Generate and the law's generated. -/
theorem c15 {J:List Frame->World->Prop}(hJ:Clo Tryz.prog FN J){x y:Value}{w:World}{R:Value->Value->World->Prop}
  (h34:∀cfr cs,AtOp cfr->(∀p e w',R p e w'->J (cfr.finish (.tuple #[p,e]) :: cs) w')->J (Frame.enter Tryz.prog 34 #[x,y] .normal :: cfr :: cs) w)
  {cfr:Frame} {cs:List Frame} (hat:AtOp cfr) (hk:∀p e w',R p e w'->J (cfr.finish (.tuple #[p,e]) :: cs) w'):J (Frame.enter Tryz.prog 15 #[x,y] .normal :: cfr :: cs) w:=by
 rw[enter_fa _ _ 11 Tryz.func15 rfl rfl (by simp)];refine hJ.seq (hJ.region ?_);refine hJ.opf lst rfl rfl (by kernel_rfl) rfl (w':=w) (λtp=>ex_assign (x:=.const (.slice none 0 0)) rfl rfl) ?_;refine hJ.opf lst rfl rfl (by kernel_rfl) rfl (w':=w) (λtp=>ex_assign (x:=.const .nilIface) rfl rfl) ?_;refine hJ.region_end (hJ.seq (hJ.region ?_));refine hJ.opf lst rfl rfl (by kernel_rfl) rfl (w':=w) (v:=x) (λtp=>ex_move rfl ((fa_eval (by decide)).trans rfl)) ?_;refine hJ.opf lst rfl rfl (by kernel_rfl) rfl (w':=w) (v:=y) (λtp=>ex_move rfl ((fa_eval (by decide)).trans rfl)) ?_;refine hJ.callop rfl (wanted_plain rfl _) rfl (by kernel_rfl) (by kernel_rfl) ?_;rw[m2 (v:=x) (u:=y) ((fa_eval (by decide)).trans rfl) ((fa_eval (by decide)).trans rfl)];refine h34 _ _ (atOp_at _) λp e w' hR=>?_
 rw[finish_fa rfl rfl];refine hJ.opf lst rfl rfl (by kernel_rfl) rfl (w':=w') (v:=p) (λtp=>ex_extract rfl ((fa_eval (by decide)).trans rfl) rfl) ?_;refine hJ.opf lst rfl rfl (by kernel_rfl) rfl (w':=w') (v:=e) (λtp=>ex_extract rfl ((fa_eval (by decide)).trans rfl) rfl) ?_;refine hJ.opf lst rfl rfl (by kernel_rfl) rfl (w':=w') (v:=p) (λtp=>ex_assign rfl ((fa_eval (by decide)).trans rfl)) ?_;refine hJ.opf lst rfl rfl (by kernel_rfl) rfl (w':=w') (v:=e) (λtp=>ex_assign rfl ((fa_eval (by decide)).trans rfl)) ?_;refine hJ.region_end (hJ.ret (hJ.leave rfl rfl rfl Tryz.func15 (by kernel_rfl) hat ?_));rw[res_two (t:=4) (u:=5) rfl];rw[leave_fa (by decide),leave_fa (by decide)];exact hk p e w' hR
theorem fa_lit40 (f:Nat->Value)(D:List Deferred):fa 40 f D=⟨#[f 0,f 1,f 2,f 3,f 4,f 5,f 6,f 7,f 8,f 9,f 10,f 11,f 12,f 13,f 14,f 15,f 16,f 17,f 18,f 19,f 20,f 21,f 22,f 23,f 24,f 25,f 26,f 27,f 28,f 29,f 30,f 31,f 32,f 33,f 34,f 35,f 36,f 37,f 38,f 39],D⟩:=by kernel_rfl
theorem fa_gen {Jf:Act->Prop}{n:Nat}{f:Nat->Value}{D:List Deferred}(h:∀F:Nat->Value,(∀t,F t=f t)->Jf (fa n F D)):Jf (fa n f D):=h f λ_=>rfl
structure Rmy (w w':World) (v:Value) (zs:List UInt8):Prop where
 val:v=.slice (some ⟨w.heap.size,0,none⟩) zs.length (zs.length+2)
 size:w.heap.size<w'.heap.size
 old:∀b,b<w.heap.size->w'.heap[b]? = w.heap[b]?
 row:w'.heap[w.heap.size]? = some (.cells (zs.map enc++[Value.int .u8 71,Value.int .u8 72]).toArray 5 (0,0))
theorem roomy_rmy (w:World)(tp:Tape)(A:Option Addr)(c:Nat)(zs:List UInt8)(hn:zs.length<=65536)(hx:Bytes w A zs) :
  Calls Tryz.prog 36 #[.slice A zs.length c] (tpd w tp) λe w'=>∃v,e=.returned v/\Rmy w w' v zs:=
 (roomy_ok (tpd w tp) A c zs hn hx).mono λe w' ⟨h1,h2,h3⟩=>⟨_,h1,rfl,(Array.getElem?_eq_some_iff.1 h3).1,h2.block,h3⟩
theorem Rmy.bytes {w w':World}{v:Value}{zs:List UInt8}(h:Rmy w w' v zs):Bytes w' (some ⟨w.heap.size,0,none⟩) zs:=by
 have:Blk w' w.heap.size 5 (zs.map enc++[Value.int .u8 71,Value.int .u8 72]):=h.row;exact Bytes.of_blk this
theorem Rin.but {w0 w w':World}{v:Value}{zs:List UInt8}{g:Nat}(h:Rin w0 w v zs)(k:But g w w')(hg:w0.heap.size<=g)(hne:v.ownBlock≠some g):Rin w0 w' v zs:=by
 refine⟨⟨h.own.1,?_⟩,by rw[k.size];exact h.size,λb hb=>(k.block b (by omega)).trans (h.old b hb),h.far⟩;rcases h.own.2 with x|⟨g',cap,cur,h1,h2,h3,h4⟩
 ·exact .inl x
 ·exact .inr ⟨g',cap,cur,h1,h2,(k.block g' (λe=>hne (by rw[h1,←e];rfl))).trans h3,h4⟩
theorem Rin.mono {w0 w1 w:World}{v:Value}{zs:List UInt8}(h:Rin w1 w v zs)(hs:w0.heap.size<=w1.heap.size)(ho:∀b,b<w0.heap.size->w1.heap[b]? = w0.heap[b]?):Rin w0 w v zs:=
 ⟨h.own,Nat.le_trans hs h.size,λb hb=>(h.old b (Nat.lt_of_lt_of_le hb hs)).trans (ho b hb),λk e=>Nat.le_trans hs (h.far k e)⟩
theorem gend_ends {N0:Nat}{W0:World}{Post:Value->World->Prop}{Ch:List Nat}{Ao An:Option Addr}{c0 cn:Nat}{old next:List UInt8}{w:World}{cfr:Frame}{cs:List Frame}(ho:Bytes w Ao old)(hn:Bytes w An next)(hol:old.length<=4096)(hnl:next.length<=4096)(hat:AtOp cfr)
  (hlo:∀a,Ao=some a->a.block<w.heap.size) (hln:∀a,An=some a->a.block<w.heap.size)
  (hk:∀pv w',Rin w w' pv (patchG (lgOf old) old next)->pv.ownBlock≠some w.heap.size->w.heap.size<w'.heap.size->CEnds Tryz.prog FN N0 W0 Post Ch (cfr.finish (.tuple #[pv,.bool true]) :: cs) w') :
  CEnds Tryz.prog FN N0 W0 Post Ch (Frame.enter Tryz.prog 17 #[.slice Ao old.length c0,.slice An next.length cn] .normal :: cfr :: cs) w:=by
 have hJ:=cEnds_clo (P:=Tryz.prog) (FN:=FN) (N0:=N0) (W0:=W0) (Post:=Post) (Ch:=Ch);rw[enter_fa _ _ 40 Tryz.func17 rfl rfl (by simp)];refine hJ.seq (hJ.region ?_);refine hJ.opf lst rfl rfl (by kernel_rfl) rfl (w':=w) (λtp=>ex_assign (x:=.const (.slice none 0 0)) rfl rfl) ?_;refine hJ.opf lst rfl rfl (by kernel_rfl) rfl (w':=w) (λtp=>ex_assign (x:=.const (.bool false)) rfl rfl) ?_;refine hJ.region_end (hJ.seq (hJ.region ?_));refine hJ.opf lst rfl rfl (by kernel_rfl) rfl (w':=w) (v:=.slice Ao old.length c0) (λtp=>ex_move rfl ((fa_eval (by decide)).trans rfl)) ?_;refine hJ.callf lst rfl rfl rfl (by kernel_rfl) (by kernel_rfl) (by kernel_rfl) rfl _ (m1 ((fa_eval (by decide)).trans rfl)) (R:=λv w'=>Rmy w w' v old) (λtp=>roomy_rmy w tp Ao c0 old (by omega) ho) (λv w1 hr1=>?_);refine hJ.opf lst rfl rfl (by kernel_rfl) rfl (w':=w1) (v:=v) (λtp=>ex_assign rfl ((fa_eval (by decide)).trans rfl)) ?_;refine hJ.region_end (hJ.seq (hJ.region ?_));refine hJ.opf lst rfl rfl (by kernel_rfl) rfl (w':=w1) (v:=.slice An next.length cn) (λtp=>ex_move rfl ((fa_eval (by decide)).trans rfl)) ?_;have hn1:Bytes w1 An next:=hn.keep λa _ hlt=>hr1.old _ hlt
 refine hJ.callf lst rfl rfl rfl (by kernel_rfl) (by kernel_rfl) (by kernel_rfl) rfl _ (m1 ((fa_eval (by decide)).trans rfl)) (R:=λv w'=>Rmy w1 w' v next) (λtp=>roomy_rmy w1 tp An cn next (by omega) hn1) (λu w2 hr2=>?_);refine hJ.opf lst rfl rfl (by kernel_rfl) rfl (w':=w2) (v:=u) (λtp=>ex_assign rfl ((fa_eval (by decide)).trans rfl)) ?_;refine hJ.region_end (hJ.seq (hJ.region ?_));refine hJ.opf lst rfl rfl (by kernel_rfl) rfl (w':=w2) (v:=v) (λtp=>ex_move rfl ((fa_eval (by decide)).trans rfl)) ?_;refine hJ.opf lst rfl rfl (by kernel_rfl) rfl (w':=w2) (v:=u) (λtp=>ex_move rfl ((fa_eval (by decide)).trans rfl)) ?_;refine hJ.callop rfl (wanted_plain rfl _) rfl (by kernel_rfl) (by kernel_rfl) ?_;rw[m2 (v:=v) (u:=u) ((fa_eval (by decide)).trans rfl) ((fa_eval (by decide)).trans rfl)];obtain⟨rfl,z1,o1,r1⟩:=id hr1;obtain⟨rfl,z2,o2,r2⟩:=id hr2;have b1:Bytes w2 (some ⟨w.heap.size,0,none⟩) old:=hr1.bytes.keep λa _ hlt=>o2 _ hlt
 refine c15 hJ (R:=λp e w'=>e=.nilIface/\Rin w2 w' p (patchG (lgOf old) old next)) (λcfr cs h1 h2=>gen_ends b1 hr2.bytes hol (by omega) hnl (by omega) (by simp only[maxLen];omega) (λa e=>by cases e;show w.heap.size<_;omega) (λa e=>by cases e;exact z2) h1 λpv w' hp=>h2 _ _ _ ⟨rfl,hp⟩) (atOp_at _) ?_;rintro p e w3 ⟨rfl,hp⟩;rw[finish_fa rfl rfl];refine hJ.opf lst rfl rfl (by kernel_rfl) rfl (w':=w3) (v:=.tuple #[p,.nilIface]) (λtp=>ex_move rfl ((fa_eval (by decide)).trans rfl)) ?_;refine hJ.opf lst rfl rfl (by kernel_rfl) rfl (w':=w3) (v:=p) (λtp=>ex_extract rfl ((fa_eval (by decide)).trans rfl) rfl) ?_;refine hJ.opf lst rfl rfl (by kernel_rfl) rfl (w':=w3) (v:=.nilIface) (λtp=>ex_extract rfl ((fa_eval (by decide)).trans rfl) rfl) ?_;refine hJ.opf lst rfl rfl (by kernel_rfl) rfl (w':=w3) (v:=p) (λtp=>ex_assign rfl ((fa_eval (by decide)).trans rfl)) ?_;refine hJ.opf lst rfl rfl (by kernel_rfl) rfl (w':=w3) (v:=.nilIface) (λtp=>ex_assign rfl ((fa_eval (by decide)).trans rfl)) ?_;refine hJ.region_end ?_;refine fa_gen (Jf:=λa=>CEnds _ _ _ _ _ _ ((bas 17 .normal).at a _ :: _) _) λF hF=>?_
 have f0:F 0=.slice Ao old.length c0:=(hF 0).trans rfl;have f1:F 1=.slice An next.length cn:=(hF 1).trans rfl
 have f6:F 6=.slice (some ⟨w.heap.size,0,none⟩) old.length (old.length+2):=(hF 6).trans rfl;have f7:F 7=.slice (some ⟨w1.heap.size,0,none⟩) next.length (next.length+2):=(hF 7).trans rfl
 have f8:F 8=p:=(hF 8).trans rfl;have f9:F 9=.nilIface:=(hF 9).trans rfl;clear hF;refine hJ.code lst (by kernel_rfl) rfl rfl (by kernel_rfl) (N:=λ_ _=>False) (R:=λa' w'=>a'.defers=[]/\a'.eval (.tmp 4)=p/\a'.eval (.tmp 5)=.bool true/\Rin w w' p (patchG (lgOf old) old next)/\p.ownBlock≠some w.heap.size/\w.heap.size<w'.heap.size) (λtp=>?_) (λ_ _ h=>h.elim) (λa' w' td h=>?_)
 ·rw[fa_lit40,f0,f1,f6,f7,f8,f9];dsimp only;have hp3:=hp.tpd tp;have r13:(Go.Fw.tpd w3 tp).heap[w.heap.size]? = some (.cells (old.map enc++[Value.int .u8 71,Value.int .u8 72]).toArray 5 (0,0)):=(hp.old _ (by omega)).trans ((o2 _ z1).trans r1);have r23:(Go.Fw.tpd w3 tp).heap[w1.heap.size]? = some (.cells (next.map enc++[Value.int .u8 71,Value.int .u8 72]).toArray 5 (0,0)):=(hp.old _ z2).trans r2;have o3:∀b,b<w.heap.size->(Go.Fw.tpd w3 tp).heap[b]? = w.heap[b]?:=λb hb=>(hp.old b (by omega)).trans ((o2 b (by omega)).trans (o1 b hb))
  have z3:w1.heap.size<(Go.Fw.tpd w3 tp).heap.size:=Nat.lt_of_lt_of_le z2 hp.size;generalize Go.Fw.tpd w3 tp=U at hp3 r13 r23 o3 z3 ⊢;have ho3:=ho.keep (w':=U) λa _ hlt=>o3 _ hlt
  have hn3:=hn.keep (w':=U) λa _ hlt=>o3 _ hlt
  have hne1:p.ownBlock≠some w.heap.size:=λe=>by have:=hp3.far _ e;omega
  have hne2:p.ownBlock≠some w1.heap.size:=λe=>by have:=hp3.far _ e;omega
  have hp4:=hp3.mono (w0:=w) (by omega) (λb hb=>(o2 b (by omega)).trans (o1 b hb));clear hp hp3 hr1 hr2 r1 r2 o1 o2 b1 hn1 hk hJ ho hn f0 f1 f6 f7 f8 f9 o3;have HO:=Lib.hid ho3;clear ho3;have HN:=Lib.hid hn3;clear hn3;have HP:=Lib.hid hp4;clear hp4;have HR1:=Lib.hid r13;clear r13;have HR2:=Lib.hid r23;clear r23;have HT:=Lib.hid (tell_nil U);have HL1:=Lib.hid hlo;have HL2:=Lib.hid hln;clear hlo hln;have hg12:w.heap.size≠w1.heap.size:=by omega
  have hUs:w.heap.size<U.heap.size:=by omega
  have HNE1:=Lib.hid hne1;have HNE2:=Lib.hid hne2;clear hne1 hne2;have HZ:=Lib.hid (And.intro z1 (And.intro z3 (And.intro hg12 hUs)));clear z1 z2 z3 hg12 hUs;go_wp2_with (first
   | (go_at_call 16;refine HT.out.mono ?_;rintro e U1 ⟨rfl,hb⟩;have HB:=Lib.hid hb;clear hb)
   | (go_at_call 37;fail))
  refine(still_ok U1 w.heap.size Ao c0 old (by omega) ((HB.out.block _ HZ.out.2.2.2).trans HR1.out) (HO.out.keep λa _ hlt=>HB.out.block _ hlt)).mono ?_;rintro e U2 ⟨rfl,hb⟩;have HB2:=Lib.hid hb;clear hb;go_wp2_with (go_at_call 37;fail)
  refine(still_ok U2 w1.heap.size An cn next (by omega) ((HB2.out.block _ HZ.out.2.2.1.symm).trans ((HB.out.block _ HZ.out.2.1).trans HR2.out)) (HN.out.keep λa e hlt=>(HB2.out.block _ (Nat.ne_of_lt (HL2.out a e))).trans (HB.out.block _ hlt))).mono ?_;rintro e U3 ⟨rfl,hb⟩;have HB3:=Lib.hid hb;clear hb;go_wp2
  exact⟨rfl,rfl,rfl,((HP.out.keep HB.out.size HB.out.block).but HB2.out (Nat.le_refl _) HNE1.out).but HB3.out (Nat.le_of_lt HZ.out.1) HNE2.out,HNE1.out,by rw[HB3.out.size,HB2.out.size];exact Nat.lt_of_lt_of_le HZ.out.2.2.2 HB.out.size⟩
 ·obtain⟨q2,q4,q5,hW4,hW5,hW6⟩:=h;refine hJ.leave rfl q2 rfl Tryz.func17 (by kernel_rfl) hat ?_;rw[res_two (t:=4) (u:=5) rfl];have e4:({ (bas 17 .normal).at a' td with mode:=.returning }:Frame).tmps.getD 4 undef=_:=q4;have e5:({ (bas 17 .normal).at a' td with mode:=.returning }:Frame).tmps.getD 5 undef=_:=q5;rw[e4,e5];exact hk _ _ hW4 hW5 hW6
end Go.Proofs.YtkmgcggoemlaaaaGreatDoor
end
section
/- The law's 'holds'. -/
set_option maxHeartbeats 1000000
namespace Go.Proofs.YtkmgcggoemlaaaaGreatDoor
open Go.RowKit Go.Fwm
theorem holds_ok (w:World)(X:Nat->Prop)(pf bf be:Nat)(f:Fl)(h:FRep w X pf bf be f)(A B:Option Addr)(ca cb:Nat)(old new:List UInt8)(hc:f.committed=true)(hlen:f.length=new.length)(hnew:f.fresh.take new.length=new)(hold:f.old=old)(ho:Bytes w A old)(hn:Bytes w B new) :
  Calls Tryz.prog 20 #[.pointer (some ⟨pf,0,none⟩),.slice A old.length ca,.slice B new.length cb] w λe w'=>e=.returned (.bool true)/\Below w.heap.size w w':=by
 have him:=image_yes w X pf bf be f h hc;rw[hlen,hnew] at him;have hnl:new.length<=4096:=by rw[←hlen];exact Nat.le_trans h.len_le h.fresh_le
 have hol:old.length<=4096:=by rw[←hold];exact h.old_le
 have hold2:∀w1,Below w.heap.size w w1->Calls Tryz.prog 24 #[.pointer (some ⟨pf,0,none⟩)] w1 λe w'=>∃A c,e=.returned (.slice A old.length c)/\Fresh w1 w' A old.length c old/\Below w1.heap.size w1 w':=λw1 hb=>by
  have:=old_ok w1 X pf bf be f (h.only (F:=λ_=>False) (Only.below hb) λb x=>x.elim);rw[hold] at this;exact this
 have hsm:∀W W' A B ca cb zs,zs.length<=4096->Bytes W A zs->Bytes W B zs->(∃k,W'=W.drewN k)->Calls Tryz.prog 21 #[.slice A zs.length ca,.slice B zs.length cb] W' λe w'=>e=.returned (.bool true)/\∃k,w'=W.drewN k:=λW W' A B ca cb zs hz h1 h2 ⟨k,hk⟩=>by
  subst hk;refine(same_eq (W.drewN k) A B ca cb zs.length zs rfl (by simp only[maxLen];omega) h1 h2).mono ?_;rintro e w' ⟨rfl,j,rfl⟩;exact⟨rfl,k+j,drewN_add _ _ _⟩
 have HO:=Lib.hid ho;have HN:=Lib.hid hn;clear ho hn;have HSM:=Lib.hid hsm;clear hsm;have HOL:=Lib.hid hold2;clear hold2;have HLL:=Lib.hid hlen;have HNW:=Lib.hid hnew;have HOD:=Lib.hid hold;clear h hc hlen hnew hold;go_enter Tryz.func20,Tryz.ntmps20
 go_wp2_with (first
  | (go_at_call 23;refine him.mono ?_;rintro e w1 ⟨A1,c1,rfl,hf,hb⟩;have HF1:=Lib.hid hf;have HB1:=Lib.hid hb;clear hf hb)
  | (go_at_call 24;refine(HOL.out w1 HB1.out).mono ?_;rintro e w2 ⟨A2,c2,rfl,hf,hb⟩;have HF2:=Lib.hid hf;have HB2:=Lib.hid hb;clear hf hb)
  | (go_at_call 21;fail))
 refine(HSM.out w2 w2 A1 B c1 cb new hnl (HF1.out.bytes.keep λa _ hlt=>HB2.out.block _ hlt) (HN.out.keep λa _ hlt=>(HB2.out.block _ (Nat.lt_of_lt_of_le hlt HB1.out.size)).trans (HB1.out.block _ hlt)) ⟨0,rfl⟩).mono ?_;rintro e w3 ⟨rfl,hk3⟩;go_wp2_with (go_at_call 21;fail)
 refine(HSM.out w2 w3 A2 A c2 ca old hol HF2.out.bytes (HO.out.keep λa _ hlt=>(HB2.out.block _ (Nat.lt_of_lt_of_le hlt HB1.out.size)).trans (HB1.out.block _ hlt)) hk3).mono ?_;rintro e w4 ⟨rfl,k,rfl⟩;have hbl:∀j,Below w.heap.size w ((w2.drewN k).drewN j):=λj=>by
  have h:=HB1.out.trans (HB2.out.mono HB1.out.size);exact⟨h.os,h.tape,h.output,h.size,h.block⟩
 have HBL:=Lib.hid hbl;clear hbl hk3;go_wp2
 go_ret
 exact⟨rfl,HBL.out 0⟩
end Go.Proofs.YtkmgcggoemlaaaaGreatDoor
end
section
/- A patch that is right, applied to a new flash. -/
namespace Go.Proofs.YtkmgcggoemlaaaaGreatDoor
open Go Go.Fw Go.Conc Go.RowKit Go.Fwm
theorem newPages_le (old:List UInt8)(h:old.length<=4096)(pages:Int):newPages old pages<=64:=by unfold newPages;omega
theorem init_pages (old:List UInt8)(pages:Int):(Fl.init old pages).pages=newPages old pages:=by
 unfold Fl.pages Fl.init;simp
theorem patchG_len (old next:List UInt8):(patchG (lgOf old) old next).length<=next.length+15/\10<=(patchG (lgOf old) old next).length:=by
 have h1:=steps_len (lgOf_ok old) (old:=old) next
 have h2:=patchOf_len old next.length (steps (lgOf old) old next)
 exact⟨by show (patchOf _ _ _).length<=_;omega,h2.2⟩
theorem patch_good (f:Fl)(old next:List UInt8)(ho:old.length<=4096)(hf:f.old=old)(hw:f.wait<0)(hp:f.pages<=64)(hn:next.length<=f.pages*64) :
  (f.apply (patchG (lgOf old) old next)).fault=.none/\(f.apply (patchG (lgOf old) old next)).x.f.committed=true/\(f.apply (patchG (lgOf old) old next)).x.f.length=next.length/\(f.apply (patchG (lgOf old) old next)).x.f.fresh.take next.length=next/\(f.apply (patchG (lgOf old) old next)).x.f.old=old:=by
 have h:=patch_applied f hw (by rw[hf];exact ho) hp next (steps (lgOf old) old next) (by rw[hf];exact steps_leads (lgOf_ok old) next) hn
 rw[hf] at h;exact⟨h.1,h.2.1,h.2.2.1,h.2.2.2.1,h.2.2.2.2.1⟩
theorem Row.slice3 {w:World}{v:Value}{zs:List UInt8}(h:Row w v zs):∃B n c,v=.slice B n c/\zs.length=n/\n<=c/\c<=maxLen/\(B=none->c=0)/\(∀a,B=some a->v.ownBlock=some a.block):=by
 rcases h.2 with⟨rfl,h0⟩|⟨g,cap,cur,rfl,hg,h2,h3,h4,_⟩
 ·have e:zs=[]:=by simpa using h0
  rw[e];exact⟨none,0,0,rfl,rfl,Nat.le_refl _,Nat.zero_le _,λ_=>rfl,λa e=>by cases e⟩
 ·exact⟨_,_,_,rfl,rfl,h3,h4,λe=>(by cases e),λa e=>by cases e;rfl⟩
theorem ints_nil (w:World)(C:Option Addr):Ints w C 0:=λk hk=>absurd hk (Nat.not_lt_zero k)
theorem nf_applied {U U1:World}{X:Nat->Prop}{pf bf be:Nat}{old:List UInt8}{pages:Int}(hb:Below U.heap.size U U1)(hg:GV U)(hf:FRep U1 X pf bf be (Fl.init old pages))(hX:∀b,X b->b<U.heap.size/\b≠be)(hpf:U.heap.size<=pf)(hbf:U.heap.size<=bf)(hbe:be≠0)(hol:old.length<=4096)
  {B:Option Addr} {n c:Nat} {patch:List UInt8} (hl:patch.length=n) (hn:n<=1000000) (hc:n<=c) (hcm:c<=maxLen) (hx:Bytes U B patch) (hBb:∀a,B=some a->a.block≠be/\a.block<U.heap.size)
  {C:Option Addr} {m d:Nat} (hm:m<=1000000) (hy:Ints U C m) (hCb:∀a,C=some a->a.block≠be/\a.block<U.heap.size) :
  Calls Tryz.prog 19 #[.pointer (some ⟨pf,0,none⟩),.slice B n c,.slice C m d] U1 λe w'=>∃held be',e=.returned (.tuple #[.int .i64 ((AF.feed ⟨Ap.init,Fl.init old pages⟩ patch).a.fault.num:Int),.int .i64 (((Fl.init old pages).apply patch).fault.num:Int),.bool held])/\
   FRep w' X pf bf be' ((Fl.init old pages).apply patch).x.f/\(be'=be\/U1.heap.size<=be')/\Only (FF pf bf be) U1 w':=by
 have hz:=hg.lt;have haw:∀A:Option Addr,(∀a,A=some a->a.block≠be/\a.block<U.heap.size)->Away (FF pf bf be) A:=λA hA a e=>by
  obtain⟨h1,h2⟩:=hA a e;rintro(x | x | x)<;>omega
 exact applied_ok U1 X pf bf be _ hf (λb x=>Nat.lt_of_lt_of_le (hX b x).1 hb.size) ⟨λx=>by have:=(hX _ x).1;omega,λx=>by have:=(hX _ x).1;omega,λx=>(hX _ x).2 rfl⟩ (hg.below hb) (by rintro(x | x | x)<;>omega) (by rw[init_pages];exact newPages_le old hol pages) (by show (0:Nat)<=_;omega) (by show (0:Nat)<=_;omega)
  B n c patch hl hn hc hcm (hx.keep λa _ hlt=>hb.block _ hlt) (haw B hBb) C m d hm (hy.keep λa _ hlt=>hb.block _ hlt) (haw C hCb)
theorem nf_good {old next:List UInt8}{pages:Int}(hol:old.length<=4096)(hfit:next.length<=newPages old pages*64) :
  (AF.feed ⟨Ap.init,Fl.init old pages⟩ (patchG (lgOf old) old next)).a.fault.num=0/\((Fl.init old pages).apply (patchG (lgOf old) old next)).fault.num=0/\((Fl.init old pages).apply (patchG (lgOf old) old next)).x.f.committed=true/\((Fl.init old pages).apply (patchG (lgOf old) old next)).x.f.length=next.length/\((Fl.init old pages).apply (patchG (lgOf old) old next)).x.f.fresh.take next.length=next/\((Fl.init old pages).apply (patchG (lgOf old) old next)).x.f.old=old:=by
 have hp:(Fl.init old pages).pages<=64:=by rw[init_pages];exact newPages_le old hol pages
 obtain⟨h1,h2,h3,h4,h5⟩:=patch_good (Fl.init old pages) old next hol rfl (by show (-1:Int)<0;decide) hp (by rw[init_pages];exact hfit)
 have h0:=(patch_fed (Fl.init old pages) (by show (-1:Int)<0;decide) hol hp next (steps (lgOf old) old next) (steps_leads (lgOf_ok old) next) (by rw[init_pages];exact hfit)).1.nofault;refine⟨?_,by rw[h1];rfl,h2,h3,h4,h5⟩;show (AF.feed _ (patchOf old next.length (steps (lgOf old) old next))).a.fault.num=0;have e:(Fl.init old pages).old=old:=rfl;rw[e] at h0;rw[h0];rfl
end Go.Proofs.YtkmgcggoemlaaaaGreatDoor
end
section
/- The law's works. -/
set_option maxHeartbeats 8000000
set_option maxRecDepth 100000
namespace Go.Proofs.YtkmgcggoemlaaaaGreatDoor
open Go Go.Fw Go.Conc Go.RowKit Go.Fwm
theorem fa_lit39 (f:Nat->Value)(D:List Deferred):fa 39 f D=⟨#[f 0,f 1,f 2,f 3,f 4,f 5,f 6,f 7,f 8,f 9,f 10,f 11,f 12,f 13,f 14,f 15,f 16,f 17,f 18,f 19,f 20,f 21,f 22,f 23,f 24,f 25,f 26,f 27,f 28,f 29,f 30,f 31,f 32,f 33,f 34,f 35,f 36,f 37,f 38],D⟩:=by kernel_rfl
theorem works_ends {N0:Nat}{W0:World}{Post:Value->World->Prop}{Ch:List Nat}{w:World}{cfr:Frame}{cs:List Frame}(hg:GV w)(hat:AtOp cfr)
  (hk:∀w',w.heap.size+2<w'.heap.size->(∀b,b<w.heap.size->w'.heap[b]? = w.heap[b]?)->CEnds Tryz.prog FN N0 W0 Post Ch (cfr.finish (.bool true) :: cs) w') :
  CEnds Tryz.prog FN N0 W0 Post Ch (Frame.enter Tryz.prog 13 #[] .normal :: cfr :: cs) w:=by
 have hJ:=cEnds_clo (P:=Tryz.prog) (FN:=FN) (N0:=N0) (W0:=W0) (Post:=Post) (Ch:=Ch);rw[enter_fa _ _ 39 Tryz.func13 rfl rfl (by simp)];refine hJ.seq (hJ.region ?_);refine hJ.opf lst rfl rfl (by kernel_rfl) rfl (w':=w) (λtp=>ex_assign (x:=.const (.bool false)) rfl rfl) ?_;refine hJ.region_end (hJ.seq (hJ.code lst (by kernel_rfl) rfl rfl (by kernel_rfl) (N:=λa' w'=>a'.tmps.size=39/\a'.defers=[]/\a'.eval (.tmp 1)=.slice (some ⟨w.heap.size,0,none⟩) 4 4/\∃tp,w'=Go.Fw.tpd (w.alloc (.cells #[.int .u8 1,.int .u8 2,.int .u8 3,.int .u8 4] 5)) tp) (R:=λ_ _=>False) (λtp=>?_) (λa' w' h=>?_) (λ_ _ _ h=>h.elim)))
 ·rw[fa_lit39];dsimp only;go_wp2
  exact⟨rfl,rfl,rfl,tp,rfl⟩
 obtain⟨h1,h2,h3,tp,rfl⟩:=h;refine hJ.tp _ _ tp ?_;obtain⟨F,rfl,hF⟩:=act_fa h1 h2;rw[hF _ (by decide)] at h3;clear h1 h2 hF;obtain⟨w1,hw1⟩:∃w1,w1=w.alloc (.cells #[.int .u8 1,.int .u8 2,.int .u8 3,.int .u8 4] 5):=⟨_,rfl⟩;rw[←hw1];refine hJ.seq (hJ.code lst (by kernel_rfl) rfl rfl (by kernel_rfl) (N:=λa' w'=>a'.tmps.size=39/\a'.defers=[]/\a'.eval (.tmp 1)=.slice (some ⟨w.heap.size,0,none⟩) 4 4/\a'.eval (.tmp 2)=.slice (some ⟨w1.heap.size,0,none⟩) 5 5/\∃tp,w'=Go.Fw.tpd (w1.alloc (.cells #[.int .u8 4,.int .u8 3,.int .u8 2,.int .u8 1,.int .u8 0] 5)) tp) (R:=λ_ _=>False) (λtp=>?_) (λa' w' h=>?_) (λ_ _ _ h=>h.elim))
 ·rw[fa_lit39,h3];clear hw1;dsimp only;go_wp2
  exact⟨rfl,rfl,rfl,rfl,tp,rfl⟩
 obtain⟨h1,h2,h3,h4,tp,rfl⟩:=h;refine hJ.tp _ _ tp ?_;obtain⟨F,rfl,hF⟩:=act_fa h1 h2;rw[hF _ (by decide)] at h3 h4;clear h1 h2 hF;obtain⟨w2,hw2⟩:∃w2,w2=w1.alloc (.cells #[.int .u8 4,.int .u8 3,.int .u8 2,.int .u8 1,.int .u8 0] 5):=⟨_,rfl⟩;rw[←hw2];have s1:w1.heap.size=w.heap.size+1:=by rw[hw1];simp
 have s2:w2.heap.size=w.heap.size+2:=by rw[hw2];simp[s1]
 have o2:∀b,b<w.heap.size->w2.heap[b]? = w.heap[b]?:=λb hb=>by rw[hw2,heap_alloc_old w1 _ (by omega),hw1,heap_alloc_old w _ hb]
 have ho:Bytes w2 (some ⟨w.heap.size,0,none⟩) [1,2,3,4]:=by
  have:Blk w2 w.heap.size 5 (([1,2,3,4]:List UInt8).map enc++[]):=by
   show w2.heap[w.heap.size]? = _;rw[hw2,heap_alloc_old w1 _ (by omega),hw1];exact heap_alloc_new w _
  exact Bytes.of_blk this
 have hn:Bytes w2 (some ⟨w1.heap.size,0,none⟩) [4,3,2,1,0]:=by
  have:Blk w2 w1.heap.size 5 (([4,3,2,1,0]:List UInt8).map enc++[]):=by
   show w2.heap[w1.heap.size]? = _;rw[hw2];exact heap_alloc_new w1 _
  exact Bytes.of_blk this
 have hg2:GV w2:=(World.cell?_of_block (w:=w) (o2 0 hg.lt)).trans hg;clear hw1 hw2;obtain⟨va,hva⟩:∃va:Value,va=.slice (some ⟨w.heap.size,0,none⟩) 4 4:=⟨_,rfl⟩;obtain⟨vb,hvb⟩:∃vb:Value,vb=.slice (some ⟨w1.heap.size,0,none⟩) 5 5:=⟨_,rfl⟩;rw[←hva] at h3;rw[←hvb] at h4;refine hJ.seq (hJ.region ?_);refine hJ.opf lst rfl rfl (by kernel_rfl) rfl (w':=w2) (v:=va) (λtp=>ex_move rfl ((fa_eval (by decide)).trans h3)) ?_;refine hJ.opf lst rfl rfl (by kernel_rfl) rfl (w':=w2) (v:=vb) (λtp=>ex_move rfl ((fa_eval (by decide)).trans h4)) ?_;refine hJ.callop rfl (wanted_plain rfl _) rfl (by kernel_rfl) (by kernel_rfl) ?_;rw[m2 (v:=va) (u:=vb) ((fa_eval (by decide)).trans rfl) ((fa_eval (by decide)).trans rfl)];subst hva hvb;refine gend_ends (old:=[1,2,3,4]) (next:=[4,3,2,1,0]) ho hn (by decide) (by decide) (atOp_at _) (λa e=>by cases e;show w.heap.size<_;omega) (λa e=>by cases e;show w1.heap.size<_;omega) λp w3 hp hne hsz=>?_
 rw[finish_fa rfl rfl];refine hJ.opf lst rfl rfl (by kernel_rfl) rfl (w':=w3) (v:=.tuple #[p,.bool true]) (λtp=>ex_move rfl ((fa_eval (by decide)).trans rfl)) ?_;refine hJ.opf lst rfl rfl (by kernel_rfl) rfl (w':=w3) (v:=p) (λtp=>ex_extract rfl ((fa_eval (by decide)).trans rfl) rfl) ?_;refine hJ.opf lst rfl rfl (by kernel_rfl) rfl (w':=w3) (v:=.bool true) (λtp=>ex_extract rfl ((fa_eval (by decide)).trans rfl) rfl) ?_;refine hJ.opf lst rfl rfl (by kernel_rfl) rfl (w':=w3) (v:=p) (λtp=>ex_assign rfl ((fa_eval (by decide)).trans rfl)) ?_;refine hJ.opf lst rfl rfl (by kernel_rfl) rfl (w':=w3) (v:=.bool true) (λtp=>ex_assign rfl ((fa_eval (by decide)).trans rfl)) ?_;refine hJ.region_end ?_;refine fa_gen (Jf:=λa=>CEnds _ _ _ _ _ _ ((bas 13 .normal).at a _ :: _) _) λG hG=>?_
 have f1:G 1=.slice (some ⟨w.heap.size,0,none⟩) 4 4:=(hG 1).trans h3;have f2:G 2=.slice (some ⟨w1.heap.size,0,none⟩) 5 5:=(hG 2).trans h4;have f3:G 3=p:=(hG 3).trans rfl;have f4:G 4=.bool true:=(hG 4).trans rfl;clear hG h3 h4;refine hJ.code lst (by kernel_rfl) rfl rfl (by kernel_rfl) (N:=λ_ _=>False) (R:=λa' w'=>a'.defers=[]/\a'.eval (.tmp 0)=.bool true/\w.heap.size+2<w'.heap.size/\∀b,b<w.heap.size->w'.heap[b]? = w.heap[b]?) (λtp=>?_) (λ_ _ h=>h.elim) (λa' w' td h=>?_)
 ·rw[fa_lit39,f1,f2,f3,f4];dsimp only;have hp3:=hp.tpd tp;have hs3:w2.heap.size<(Go.Fw.tpd w3 tp).heap.size:=hsz;generalize Go.Fw.tpd w3 tp=U at hp3 hs3 ⊢;obtain⟨B,n,c,rfl,hl,hc,hcm,hB0,hBb⟩:=hp3.own.slice3;have hpl:=patchG_len [1,2,3,4] [4,3,2,1,0];have hbp:=hp3.own.bytes rfl;have hnf:=newflash_ok U (λ_=>False) (some ⟨w.heap.size,0,none⟩) 4 4 [1,2,3,4] rfl (by decide) (ho.keep λa _ hlt=>hp3.old _ hlt) (λe=>by cases e) 1 (by decide) w2.heap.size hs3 (λ_ x=>x.elim) (λx=>x);obtain⟨g1,g2,g3,g4,g5,g6⟩:=nf_good (old:=[1,2,3,4]) (next:=[4,3,2,1,0]) (pages:=1) (by decide) (by decide);have hgU:GV U:=(World.cell?_of_block (w:=w2) (hp3.old 0 hg2.lt)).trans hg2;have hap:∀U1 pf bf,FRep U1 (λ_=>False) pf bf w2.heap.size (Fl.init [1,2,3,4] 1)->Below U.heap.size U U1->U.heap.size<=pf->U.heap.size<=bf->Calls Tryz.prog 19 #[.pointer (some ⟨pf,0,none⟩),.slice B n c,.slice none 0 0] U1 λe w'=>∃held be',e=.returned (.tuple #[.int .i64 0,.int .i64 0,.bool held])/\FRep w' (λ_=>False) pf bf be' ((Fl.init [1,2,3,4] 1).apply (patchG (lgOf [1,2,3,4]) [1,2,3,4] [4,3,2,1,0])).x.f/\Only (FF pf bf w2.heap.size) U1 w':=λU1 pf bf h1 h2 h3 h4=>by
   refine(nf_applied h2 hgU h1 (λ_ x=>x.elim) h3 h4 (by omega) (by decide) hl (by simp only[List.length_cons,List.length_nil] at hpl;omega) hc hcm hbp (λa e=>⟨λx=>hne (by rw[hBb a e,x]),?_⟩) (C:=none) (m:=0) (d:=0) (by omega) (ints_nil _ _) (λa e=>by cases e)).mono ?_
   ·exact hp3.own.lt (hBb a e)
   ·rintro e w' ⟨held,be',rfl,k1,_,k2⟩;rw[g1,g2];exact⟨held,be',rfl,k1,k2⟩
  have hU0:∀b,b<w.heap.size->U.heap[b]? = w.heap[b]?:=λb hb=>(hp3.old b (by omega)).trans (o2 b hb)
  have hho:∀U2,(∀b,b<w2.heap.size->U2.heap[b]? = U.heap[b]?)->Bytes U2 (some ⟨w.heap.size,0,none⟩) [1,2,3,4]:=λU2 h=>(ho.keep λa _ hlt=>hp3.old _ hlt).keep λa e hlt=>h _ (by cases e;show w.heap.size<_;omega)
  have hhn:∀U2,(∀b,b<w2.heap.size->U2.heap[b]? = U.heap[b]?)->Bytes U2 (some ⟨w1.heap.size,0,none⟩) [4,3,2,1,0]:=λU2 h=>(hn.keep λa _ hlt=>hp3.old _ hlt).keep λa e hlt=>h _ (by cases e;show w1.heap.size<_;omega)
  have hkp:∀U1 U2 pf bf,Below U.heap.size U U1->U.heap.size<=pf->U.heap.size<=bf->Only (FF pf bf w2.heap.size) U1 U2->∀b,b<w2.heap.size->U2.heap[b]? = U.heap[b]?:=λU1 U2 pf bf h1 h2 h3 h4 b hb=>(h4.keep b (by have:=h1.size;omega) (by rintro(x | x | x)<;>omega)).trans (h1.block b (by omega))
  have HKP:=Lib.hid hkp;have HAP:=Lib.hid hap;have HHO:=Lib.hid hho;have HHN:=Lib.hid hhn;have HU0:=Lib.hid hU0;have HNF:=Lib.hid hnf;have HS:=Lib.hid (And.intro hs3 (And.intro s1 s2));have G3:=Lib.hid g3;have G4:=Lib.hid g4;have G5:=Lib.hid g5;have G6:=Lib.hid g6;clear hkp hap hho hhn hU0 hnf g1 g2 g3 g4 g5 g6 hp hp3 hsz hne hbp hpl hl hBb hB0 hcm hc f1 f2 f3 f4 hk hJ ho hn o2 s1 s2 hs3 hg hg2 hgU;go_wp2_with (first
   | (go_at_call 18;refine HNF.out.mono ?_;rintro e U1 ⟨pf,bf,rfl,hf,hb,hpf,hbf⟩;have HB1:=Lib.hid (And.intro hf (And.intro hb (And.intro hpf hbf)));clear hf hb hpf hbf)
   | (go_at_call 19;refine(HAP.out U1 pf bf HB1.out.1 HB1.out.2.1 HB1.out.2.2.1 HB1.out.2.2.2).mono ?_;rintro e U2 ⟨held,be',rfl,hf,hon⟩;have HB2:=Lib.hid (And.intro hf hon);clear hf hon)
   | (go_at_call 20;refine(holds_ok U2 (λ_=>False) pf bf be' _ HB2.out.1 (some ⟨w.heap.size,0,none⟩) (some ⟨w1.heap.size,0,none⟩) 4 5 [1,2,3,4] [4,3,2,1,0] G3.out G4.out G5.out G6.out (HHO.out U2 (HKP.out U1 U2 pf bf HB1.out.2.1 HB1.out.2.2.1 HB1.out.2.2.2 HB2.out.2)) (HHN.out U2 (HKP.out U1 U2 pf bf HB1.out.2.1 HB1.out.2.2.1 HB1.out.2.2.2 HB2.out.2))).mono ?_;rintro e U3 ⟨rfl,hb⟩;have HB3:=Lib.hid hb;clear hb))
  obtain⟨x1,x2,x3,x4⟩:=HB1.out;obtain⟨y1,y2,y3⟩:=HS.out;have z1:=HB2.out.2.le;have z2:=HB3.out.size;have z3:=x2.size;exact⟨rfl,rfl,by omega,λb hb=>(HB3.out.block b (by omega)).trans ((HKP.out U1 U2 pf bf x2 x3 x4 HB2.out.2 b (by omega)).trans (HU0.out b hb))⟩
 ·obtain⟨q2,q0,q3,q4⟩:=h;refine hJ.leave rfl q2 rfl Tryz.func13 (by kernel_rfl) hat ?_;rw[res_one (t:=0) rfl];have e0:({ (bas 13 .normal).at a' td with mode:=.returning }:Frame).tmps.getD 0 undef=_:=q0;rw[e0];exact hk _ q3 q4
end Go.Proofs.YtkmgcggoemlaaaaGreatDoor
end
section
/- The start of a row: a private world, frozen, of what the arguments reach. -/
namespace Go.Proofs.YtkmgcggoemlaaaaGreatDoor
open Go Go.Fw Go.Conc Go.RowKit Go.Fwm
theorem rel_ex_n {G:Nat}(β:Ren G):∀(n:Nat) (V:Value),SizeOf.sizeOf V<=n->∃v,VR FN β v V:=by
 intro n;induction n with
 | zero=>intro V h;cases V<;>simp at h
 | succ n ih=>
  have harr:∀xs:Array Value,SizeOf.sizeOf xs<=n->∃ys:Array Value,ys.size=xs.size/\∀(i:Nat) (x X:Value),ys[i]? = some x->xs[i]? = some X->VR FN β x X:=λxs hxs=>by
   have h:∀i:Fin xs.size,∃v,VR FN β v xs[i]:=λi=>ih xs[i] (by have:=Array.sizeOf_getElem xs i.val i.isLt;simp only[Fin.getElem_fin];omega)
   refine⟨Array.ofFn λi=>(h i).choose,by simp,λi x X hx hX=>?_⟩;obtain⟨hi,rfl⟩:=Array.getElem?_eq_some_iff.1 hX;simp[hi] at hx;subst hx;exact(h ⟨i,hi⟩).choose_spec
  intro V hV;cases V with
  | bool b=>exact⟨_,.bool b⟩
  | int k m=>exact⟨_,.int k m⟩
  | float k m=>exact⟨_,.junk rfl⟩
  | complex k a b=>exact⟨_,.junk rfl⟩
  | string x=>exact⟨_,.string x⟩
  | pointer a=>
   cases a with
   | none=>exact⟨_,.ptr0⟩
   | some a=>exact⟨_,.junk rfl⟩
  | slice a l c=>
   cases a with
   | none=>exact⟨_,.slice0 l c⟩
   | some a=>exact⟨_,.junk rfl⟩
  | map a=>
   cases a with
   | none=>exact⟨_,.mapNil⟩
   | some a=>exact⟨_,.junk rfl⟩
  | chan r=>exact⟨_,.chan r⟩
  | func f xs ys=>exact⟨_,.junkF f xs ys⟩
  | nilFunc=>exact⟨_,.nilFunc⟩
  | iface t v=>exact⟨_,.junk rfl⟩
  | nilIface=>exact⟨_,.nilIface⟩
  | agg xs=>
   obtain⟨ys,h1,h2⟩:=harr xs (by simp at hV;omega);exact⟨.agg ys,.agg h1 h2⟩
  | tuple xs=>
   obtain⟨ys,h1,h2⟩:=harr xs (by simp at hV;omega);exact⟨.tuple ys,.tuple h1 h2⟩
theorem rel_ex {G:Nat}(β:Ren G)(V:Value):∃v,VR FN β v V:=rel_ex_n β _ V (Nat.le_refl _)
def isE:Value->Bool
 | .slice (some _) 0 0=>true
 | _=>false
def eV:Value:=.slice (some ⟨0,0,none⟩) 0 0
theorem isE_some {V:Value}(h:isE V=true):∃a,V=.slice (some a) 0 0:=by
 cases V with
 | slice a l c=>cases a with
  | none=>cases h
  | some a=>cases l<;>cases c<;>first | exact⟨a,rfl⟩ | cases h
 | _=>cases h
open Classical in
noncomputable def pvl {G:Nat}(β:Ren G)(V:Value):Value:=if isE V then eV else if VR FN β V V then V else (rel_ex β V).choose
theorem pvl_rel {G:Nat}(β:Ren G)(V:Value):VR FN β (pvl β V) V:=by
 unfold pvl;split
 ·rename_i h;obtain⟨a,rfl⟩:=isE_some h;exact .sliceE _ _
 ·split
  ·assumption
  ·exact(rel_ex β V).choose_spec
theorem pvl_same {G:Nat}{β:Ren G}{V:Value}(h:VR FN β V V)(he:isE V=false):pvl β V=V:=by unfold pvl;rw[he];exact if_pos h
noncomputable def pwO {G:Nat}(β:Ren G):Obj->Obj
 | .cells c t fr=>.cells (c.map (pvl β)) t (0,max c.size fr.2)
 | o=>o
noncomputable def pw {G:Nat}(β:Ren G)(W:World):World:={ W with heap:=W.heap.map (pwO β) }
theorem pw_size {G:Nat}(β:Ren G)(W:World):(pw β W).heap.size=W.heap.size:=by simp[pw]
theorem pw_get {G:Nat}(β:Ren G)(W:World)(b:Nat):(pw β W).heap[b]? = (W.heap[b]?).map (pwO β):=by simp[pw]
theorem pw_cell' {G:Nat}{β:Ren G}{W:World}{a:Addr}{v:Value}(h:W.cell? a=some v):(pw β W).cell? a=some (pvl β v):=by
 have e:=pw_get β W a.block;unfold World.cell? at h ⊢;rw[e];cases ho:W.heap[a.block]? with
 | none=>rw[ho] at h;cases h
 | some o=>
  rw[ho] at h;cases o with
  | cells c t fr=>
   simp only[Option.map_some,pwO];simp only at h;split at h
   ·cases h
   ·rename_i hs;rw[if_neg hs,Array.getElem?_map,h];rfl
  | _=>cases h
theorem pw_cell {G:Nat}{β:Ren G}{W:World}{a:Addr}{v:Value}(h:W.cell? a=some v)(hv:VR FN β v v)(he:isE v=false):(pw β W).cell? a=some v:=by
 rw[pw_cell' h,pvl_same hv he]
theorem pw_bytes {G:Nat}{β:Ren G}{W:World}{A:Option Addr}{zs:List UInt8}(h:Bytes W A zs):Bytes (pw β W) A zs:=λi hi=>by
 obtain⟨b,o,e,hc⟩:=h i hi;exact⟨b,o,e,pw_cell hc (.int _ _) rfl⟩
open Classical in
noncomputable def rn0 (S:Nat->Prop):Ren Tryz.prog.globals.size where
 f b:=if b=0\/b=Tryz.prog.globals.size\/S b then some b else none
 inj b b' B h h':=by
  split at h<;>split at h'
  ·simp_all
  ·cases h'
  ·cases h
  ·cases h
 glob b B h:=by
  split at h
  ·cases h;exact⟨Iff.rfl,λ_=>rfl⟩
  ·cases h
 sp b h:=by rcases h with h | h<;>simp[h]
theorem rn0_f {S:Nat->Prop}{b:Nat}(h:b=0\/b=Tryz.prog.globals.size\/S b):(rn0 S).f b=some b:=if_pos h
theorem rn0_inv {S:Nat->Prop}{b B:Nat}(h:(rn0 S).f b=some B):b=B/\(b=0\/b=Tryz.prog.globals.size\/S b):=by
 unfold rn0 at h;simp only at h;split at h
 ·exact⟨Option.some.inj h,by assumption⟩
 ·cases h
def isCells:Obj->Bool
 | .cells _ _ _=>true
 | _=>false
theorem isCells_some {o:Option Obj}(h:o.map isCells=some true):∃c t fr,o=some (.cells c t fr):=by
 cases o with
 | none=>cases h
 | some o=>
  cases o with
  | cells c t fr=>exact⟨c,t,fr,rfl⟩
  | _=>cases h
theorem cells_of_cell {W:World}{a:Addr}{v:Value}(h:W.cell? a=some v):∃c t fr,W.heap[a.block]? = some (.cells c t fr):=by
 unfold World.cell? at h;cases ho:W.heap[a.block]? with
 | none=>rw[ho] at h;cases h
 | some o=>
  rw[ho] at h;cases o with
  | cells c t fr=>exact⟨c,t,fr,rfl⟩
  | _=>cases h
theorem pw_wr {S:Nat->Prop}{W:World}(hS:∀b,(b=0\/b=Tryz.prog.globals.size\/S b)->∃c t fr,W.heap[b]? = some (.cells c t fr))(hG:Tryz.prog.globals.size<=W.heap.size):WR FN (rn0 S) (pw (rn0 S) W) W:=by
 refine⟨λb B hb=>?_,by rw[pw_size];exact hG,hG⟩;obtain⟨rfl,h⟩:=rn0_inv hb;obtain⟨c,t,fr,e⟩:=hS b h;refine .inl ⟨c.map (pvl (rn0 S)),c,t,(0,max c.size fr.2),fr,by rw[pw_get,e];rfl,e,⟨by simp,λi x X hx hX=>?_⟩,λoff ho=>?_⟩
 ·rw[Array.getElem?_map,hX] at hx;cases hx;exact pvl_rel _ _
 ·obtain⟨h1,h2⟩:=ho;refine⟨Nat.zero_le _,?_⟩;show off<max c.size fr.2;omega
theorem pw_fz {S:Nat->Prop}{W:World}(hS:∀b,(b=0\/b=Tryz.prog.globals.size\/S b)->∃c t fr,W.heap[b]? = some (.cells c t fr)){b B:Nat}(hb:(rn0 S).f b=some B):Fz (pw (rn0 S) W) b:=by
 obtain⟨rfl,h⟩:=rn0_inv hb;obtain⟨c,t,fr,e⟩:=hS b h;refine .inl ⟨c.map (pvl (rn0 S)),t,(0,max c.size fr.2),by rw[pw_get,e];rfl,λoff ho=>⟨Nat.zero_le _,?_⟩⟩;simp at ho;show off<max c.size fr.2;omega
theorem start {S:Nat->Prop}{W:World}{f:FuncId}{args:Array Value}{Post:Value->World->Prop}(hS:∀b,(b=0\/b=Tryz.prog.globals.size\/S b)->∃c t fr,W.heap[b]? = some (.cells c t fr))(hG:Tryz.prog.globals.size<=W.heap.size)
  (hb:bodyOk Tryz.prog f=true) (ha:∀(i:Nat) x,args[i]? = some x->VR FN (rn0 S) x x)
  (h:CEnds Tryz.prog FN W.heap.size W Post [] [Frame.enter Tryz.prog f args .normal] (pw (rn0 S) W)) :
  ∃M last o w' t',runNT Tryz.prog (M+1) (solo (G (Frame.enter Tryz.prog f args .normal) []) W) #[]=(.ended o w',t')/\runN Tryz.prog M (solo (G (Frame.enter Tryz.prog f args .normal) []) W)=.next last/\
   step Tryz.prog last=.ended o w'/\Conc.Good Tryz.prog Post last o w' t':=by
 have harr:ArrR FN (rn0 S) args args:=⟨rfl,λi x X hx hX=>by rw[hx] at hX;cases hX;exact ha i x hx⟩;exact h (rn0 S) #[G (Frame.enter Tryz.prog f args .normal) []] W none #[] (λ_=>0) ⟨⟨[Frame.enter Tryz.prog f args .normal],rfl,.cons (enter_frR .normal (by decide) hb harr) .nil⟩,pw_wr hS hG,⟨λi g hi hg=>absurd (Array.getElem?_eq_some_iff.1 hg).1 (by simp;omega),λj _=>by unfold Deaf Trace.deaf;simp⟩,pastT_nil,Nat.le_refl _,λ_ _=>rfl,λb B hb _=>pw_fz hS hb,rfl,rfl,rfl,λc hc=>(by cases hc),List.nodup_nil⟩
end Go.Proofs.YtkmgcggoemlaaaaGreatDoor
end
