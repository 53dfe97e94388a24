/-
  Part 17 of the common ground of this seat: what single parts show stands ahead of each.
  No condition.
-/
import Derived.Test.YtkmgcggoemlaaaaGreatDoorJ16
set_option linter.unusedSimpArgs false
set_option linter.unusedVariables false
set_option linter.constructorNameAsVariable false
section
/- The law's 'applied'. -/
set_option maxHeartbeats 8000000
set_option maxRecDepth 100000
namespace Go.Proofs.YtkmgcggoemlaaaaGreatDoor
open Go.RowKit Go.Fwm
theorem applied_ok (w:World)(X:Nat->Prop)(pf bf be:Nat)(f:Fl)(h:FRep w X pf bf be f)(hX:∀b,X b->b<w.heap.size)(hng:¬X pf/\¬X bf/\¬X be)(hg:GV w)(hz:¬FF pf bf be 0)(hpg:f.pages<=64)(hE:f.events.length<=1000000)(hR:f.reads<=100000000000)
  (A:Option Addr) (n c:Nat) (patch:List UInt8) (hl:patch.length=n) (hn:n<=1000000) (hc:n<=c) (hcm:c<=maxLen) (hx:Bytes w A patch) (ha:Away (FF pf bf be) A)
  (C:Option Addr) (m d:Nat) (hm:m<=1000000) (hy:Ints w C m) (hb:Away (FF pf bf be) C) :
  Calls Tryz.prog 19 #[.pointer (some ⟨pf,0,none⟩),.slice A n c,.slice C m d] w λe w'=>∃held be',e=.returned (.tuple #[.int .i64 ((AF.feed ⟨Ap.init,f⟩ patch).a.fault.num:Int),.int .i64 ((f.apply patch).fault.num:Int),.bool held])/\
   FRep w' X pf bf be' (f.apply patch).x.f/\(be'=be\/w.heap.size<=be')/\Only (FF pf bf be) w w':=by
 have hnew:=new_ok w X pf bf be f h hX hng;have hold:=h.old_le;have hS0:=init_stt f hold hpg;have hg0:=hg.lt;go_enter Tryz.func19,Tryz.ntmps19
 go_wp2_with (first | (go_at_call 31;go_must (refine hnew.mono ?_;rintro e w1 ⟨rfl,hr1,hbl1⟩)) | (go_at_call 39;go_must (refine(held_ok w1 X w.heap.size pf bf be _ _ hr1).mono ?_;rintro e w' ⟨hv0,rfl,rfl⟩)))
 obtain⟨pa,hpa⟩:∃pa,w.heap.size=pa:=⟨_,rfl⟩;have hA1:AAt w' X pa pf bf be Ap.init f w' be:=by rw[←hpa];exact AAt.refl hr1
 have hbl:Below pa w w':=by rw[←hpa];exact hbl1
 have hg1:=hg.below hbl1;have hsz1:pa<w'.heap.size:=by obtain⟨_,_,_,g1,_⟩:=hA1.rep.blk;exact g1.lt
 have hkeep:∀w2,Only (AO pa pf bf be) w' w2->∀b,b<w.heap.size->¬FF pf bf be b->w2.heap[b]? = w.heap[b]?:=λw2 ho b hb hn=>
  (ho.keep b (Nat.lt_of_lt_of_le hb hbl1.size) λq=>q.elim (λe=>by omega) hn).trans (hbl1.block b hb)
 have hxs:∀w2,Only (AO pa pf bf be) w' w2->Bytes w2 A patch:=λw2 ho=>hx.keep λa h1 h2=>hkeep w2 ho _ h2 (ha a h1)
 have hys:∀w2,Only (AO pa pf bf be) w' w2->Ints w2 C m:=λw2 ho=>hy.keep λa h1 h2=>hkeep w2 ho _ h2 (hb a h1)
 have hz1:¬AO pa pf bf be 0:=λx=>x.elim (λe=>by omega) hz
 have hL0:Lp w' X pa pf bf be f patch 0 w':=⟨be,hA1⟩;rw[hpa];have HX:=Lib.hid hxs;clear hxs hx;have HY:=Lib.hid hys;clear hys hy;have HK:=Lib.hid hkeep;clear hkeep ha hb;have HG:=Lib.hid hg1;clear hg1 hg;have HL0:=Lib.hid hL0;clear hL0 hA1;have HL:=Lib.hid hl;clear hl;have HBL:=Lib.hid hbl;clear hbl hbl1 hr1 hnew h;obtain⟨w1,hw1⟩:∃w1,w1=w':=⟨_,rfl⟩;subst hw1;go_loopw [10,11,12,13] (λfed held a i wr=>∃(F k j:Nat) (hd:Bool),fed=.int .i64 F/\held=.bool hd/\a=.int .i64 k/\i=.int .i64 j/\k<=n/\(j<=m\/(j=m+1/\k=n))/\F=(AF.feed ⟨Ap.init,f⟩ (patch.take k)).a.fault.num/\Lp w1 X pa pf bf be f patch k wr) (λ_ _ a i _=>(m-(intOf i).toNat)+(n-(intOf a).toNat))
 case atStart=>exact⟨0,0,0,_,rfl,rfl,rfl,rfl,Nat.zero_le _,.inl (Nat.zero_le _),rfl,HL0.out⟩
 case round=>
  obtain⟨F,k,j,hd,rfl,rfl,rfl,rfl,hk,hj,hF,⟨be1,hat1⟩⟩:=hrel;have hch:∀L,k+L<=n->∀A0 c0,A0=(if c=k then A else Option.map (λx=>x.add k) A)->∃g R2 R3 R4 R5 F',Chain w1 X pa pf bf be f patch k L c0 A0 wr g R2 R3 R4 R5 F':=λL hL A0 c0 hA0=>
   chunk_chain w1 X pa pf bf be f patch k L c0 A0 wr (by rw[HL.out];exact hn) (by rw[HL.out];exact hL) HG.out hz1 hold hpg hE hR (λw2 ho=>by rw[hA0];exact slice_bytes (HX.out w2 ho) (by rw[HL.out];exact hL) (by rw[HL.out];exact hc)) hat1
  have hstick:∀L F',F'=(AF.feed ⟨Ap.init,f⟩ (patch.take (k+L))).a.fault.num->F≠0->F'=F:=λL F' h1 h2=>by
   rw[hF] at h2;rw[h1,List.take_add,Flt.num_sticky h2,hF]
  have HCH:=Lib.hid hch;clear hch;have HST:=Lib.hid hstick;clear hstick;by_cases hjm:j<m
  ·have hi2:=HY.out wr hat1.on;obtain⟨b8,o8,z,rfl,hz8,hzl⟩:=hi2 j hjm;obtain⟨q,hq,hq40⟩:∃q:Nat,(IntKind.u64.wrap z).tmod 40=(q:Int)/\q<40:=by
    obtain⟨Z,hZ,hZ0⟩:∃Z:Int,IntKind.u64.wrap z=Z/\0<=Z:=⟨_,rfl,by unfold IntKind.wrap;simp[IntKind.signed,IntKind.bits];omega⟩;rw[hZ,Int.tmod_eq_emod_of_nonneg hZ0];exact⟨(Z%40).toNat,by omega,by omega⟩
   clear hi2 hF hat1;by_cases hkn:k<n
   ·have hck:¬(c=k):=by omega
    by_cases hqk:n-k<q
    ·obtain⟨g,R2,R3,R4,R5,F',hch⟩:=HCH.out (n-k) (by omega) (Option.map (λx=>x.add k) A) (c-k) (by rw[if_neg hck]);have hi3:(n:Int)-(k:Int)<(q:Int):=by omega
     have hnum:=hch.num;have hst:=HST.out (n-k) F' hnum;have HC:=Lib.hid hch;clear hch;have HN:=Lib.hid hnum;clear hnum;by_cases hF0:F=0
     ·have hi0:((F:Int) == 0)=true:=by simp;omega
      clear hst;cases hd
      ·go_wp2_with (first | (go_at_call 36;go_must (refine HC.out.roomy.mono ?_;rintro e w2 ⟨rfl,h2⟩)) | (go_at_call 33;go_must (refine(HC.out.feed _ h2).mono ?_;rintro e w3 ⟨v3,rfl,h3⟩)) | (go_at_call 37;go_must (refine(HC.out.still _ _ h3).mono ?_;rintro e w4 ⟨rfl,h4⟩)) | (go_at_call 16;go_must (refine(HC.out.tell _ _ h4).mono ?_;rintro e w5 ⟨rfl,h5⟩)) | (go_at_call 39;go_must (refine(HC.out.held _ h5).mono ?_;rintro e w6 ⟨z6,rfl,rfl⟩)))
       go_roundw
       case rel=>exact⟨F',k+(n-k),j+1,_,rfl,rfl,by go_num,by go_num,by omega,.inl (by omega),HN.out,HC.out.fin _ h5⟩
       case measure=>simp[intOf];omega
      ·go_wp2_with (first | (go_at_call 36;go_must (refine HC.out.roomy.mono ?_;rintro e w2 ⟨rfl,h2⟩)) | (go_at_call 33;go_must (refine(HC.out.feed _ h2).mono ?_;rintro e w3 ⟨v3,rfl,h3⟩)) | (go_at_call 37;go_must (refine(HC.out.still _ _ h3).mono ?_;rintro e w4 ⟨rfl,h4⟩)) | (go_at_call 16;go_must (refine(HC.out.tell _ _ h4).mono ?_;rintro e w5 ⟨rfl,h5⟩)) | (go_at_call 39;go_must (refine(HC.out.held _ h5).mono ?_;rintro e w6 ⟨z6,rfl,rfl⟩)))
       go_roundw
       case rel=>exact⟨F',k+(n-k),j+1,_,rfl,rfl,by go_num,by go_num,by omega,.inl (by omega),HN.out,HC.out.fin _ h5⟩
       case measure=>simp[intOf];omega
     ·have hi0:((F:Int) == 0)=false:=by simp;omega
      obtain rfl:F'=F:=hst hF0;clear hst;cases hd
      ·go_wp2_with (first | (go_at_call 36;go_must (refine HC.out.roomy.mono ?_;rintro e w2 ⟨rfl,h2⟩)) | (go_at_call 33;go_must (refine(HC.out.feed _ h2).mono ?_;rintro e w3 ⟨v3,rfl,h3⟩)) | (go_at_call 37;go_must (refine(HC.out.still _ _ h3).mono ?_;rintro e w4 ⟨rfl,h4⟩)) | (go_at_call 16;go_must (refine(HC.out.tell _ _ h4).mono ?_;rintro e w5 ⟨rfl,h5⟩)) | (go_at_call 39;go_must (refine(HC.out.held _ h5).mono ?_;rintro e w6 ⟨z6,rfl,rfl⟩)))
       go_roundw
       case rel=>exact⟨F',k+(n-k),j+1,_,rfl,rfl,by go_num,by go_num,by omega,.inl (by omega),HN.out,HC.out.fin _ h5⟩
       case measure=>simp[intOf];omega
      ·go_wp2_with (first | (go_at_call 36;go_must (refine HC.out.roomy.mono ?_;rintro e w2 ⟨rfl,h2⟩)) | (go_at_call 33;go_must (refine(HC.out.feed _ h2).mono ?_;rintro e w3 ⟨v3,rfl,h3⟩)) | (go_at_call 37;go_must (refine(HC.out.still _ _ h3).mono ?_;rintro e w4 ⟨rfl,h4⟩)) | (go_at_call 16;go_must (refine(HC.out.tell _ _ h4).mono ?_;rintro e w5 ⟨rfl,h5⟩)) | (go_at_call 39;go_must (refine(HC.out.held _ h5).mono ?_;rintro e w6 ⟨z6,rfl,rfl⟩)))
       go_roundw
       case rel=>exact⟨F',k+(n-k),j+1,_,rfl,rfl,by go_num,by go_num,by omega,.inl (by omega),HN.out,HC.out.fin _ h5⟩
       case measure=>simp[intOf];omega
    ·obtain⟨g,R2,R3,R4,R5,F',hch⟩:=HCH.out q (by omega) (Option.map (λx=>x.add k) A) (c-k) (by rw[if_neg hck]);have hsl:((k:Int)+(q:Int)).toNat-k=q:=by omega
     have hi3:¬((n:Int)-(k:Int)<(q:Int)):=by omega
     have hnum:=hch.num;have hst:=HST.out q F' hnum;have HC:=Lib.hid hch;clear hch;have HN:=Lib.hid hnum;clear hnum;by_cases hF0:F=0
     ·have hi0:((F:Int) == 0)=true:=by simp;omega
      clear hst;cases hd
      ·go_wp2_with (first | (go_at_call 36;go_must (refine HC.out.roomy.mono ?_;rintro e w2 ⟨rfl,h2⟩)) | (go_at_call 33;go_must (refine(HC.out.feed _ h2).mono ?_;rintro e w3 ⟨v3,rfl,h3⟩)) | (go_at_call 37;go_must (refine(HC.out.still _ _ h3).mono ?_;rintro e w4 ⟨rfl,h4⟩)) | (go_at_call 16;go_must (refine(HC.out.tell _ _ h4).mono ?_;rintro e w5 ⟨rfl,h5⟩)) | (go_at_call 39;go_must (refine(HC.out.held _ h5).mono ?_;rintro e w6 ⟨z6,rfl,rfl⟩)))
       go_roundw
       case rel=>exact⟨F',k+q,j+1,_,rfl,rfl,by go_num,by go_num,by omega,.inl (by omega),HN.out,HC.out.fin _ h5⟩
       case measure=>simp[intOf];omega
      ·go_wp2_with (first | (go_at_call 36;go_must (refine HC.out.roomy.mono ?_;rintro e w2 ⟨rfl,h2⟩)) | (go_at_call 33;go_must (refine(HC.out.feed _ h2).mono ?_;rintro e w3 ⟨v3,rfl,h3⟩)) | (go_at_call 37;go_must (refine(HC.out.still _ _ h3).mono ?_;rintro e w4 ⟨rfl,h4⟩)) | (go_at_call 16;go_must (refine(HC.out.tell _ _ h4).mono ?_;rintro e w5 ⟨rfl,h5⟩)) | (go_at_call 39;go_must (refine(HC.out.held _ h5).mono ?_;rintro e w6 ⟨z6,rfl,rfl⟩)))
       go_roundw
       case rel=>exact⟨F',k+q,j+1,_,rfl,rfl,by go_num,by go_num,by omega,.inl (by omega),HN.out,HC.out.fin _ h5⟩
       case measure=>simp[intOf];omega
     ·have hi0:((F:Int) == 0)=false:=by simp;omega
      obtain rfl:F'=F:=hst hF0;clear hst;cases hd
      ·go_wp2_with (first | (go_at_call 36;go_must (refine HC.out.roomy.mono ?_;rintro e w2 ⟨rfl,h2⟩)) | (go_at_call 33;go_must (refine(HC.out.feed _ h2).mono ?_;rintro e w3 ⟨v3,rfl,h3⟩)) | (go_at_call 37;go_must (refine(HC.out.still _ _ h3).mono ?_;rintro e w4 ⟨rfl,h4⟩)) | (go_at_call 16;go_must (refine(HC.out.tell _ _ h4).mono ?_;rintro e w5 ⟨rfl,h5⟩)) | (go_at_call 39;go_must (refine(HC.out.held _ h5).mono ?_;rintro e w6 ⟨z6,rfl,rfl⟩)))
       go_roundw
       case rel=>exact⟨F',k+q,j+1,_,rfl,rfl,by go_num,by go_num,by omega,.inl (by omega),HN.out,HC.out.fin _ h5⟩
       case measure=>simp[intOf];omega
      ·go_wp2_with (first | (go_at_call 36;go_must (refine HC.out.roomy.mono ?_;rintro e w2 ⟨rfl,h2⟩)) | (go_at_call 33;go_must (refine(HC.out.feed _ h2).mono ?_;rintro e w3 ⟨v3,rfl,h3⟩)) | (go_at_call 37;go_must (refine(HC.out.still _ _ h3).mono ?_;rintro e w4 ⟨rfl,h4⟩)) | (go_at_call 16;go_must (refine(HC.out.tell _ _ h4).mono ?_;rintro e w5 ⟨rfl,h5⟩)) | (go_at_call 39;go_must (refine(HC.out.held _ h5).mono ?_;rintro e w6 ⟨z6,rfl,rfl⟩)))
       go_roundw
       case rel=>exact⟨F',k+q,j+1,_,rfl,rfl,by go_num,by go_num,by omega,.inl (by omega),HN.out,HC.out.fin _ h5⟩
       case measure=>simp[intOf];omega
   ·obtain rfl:k=n:=by omega
    by_cases hck:c=k
    ·subst hck;obtain⟨g,R2,R3,R4,R5,F',hch⟩:=HCH.out 0 (by omega) A 0 (by rw[if_pos rfl]);by_cases hq0:0<q
     ·have hi3:(0:Int)<(q:Int):=by omega
      have hnum:=hch.num;have hst:=HST.out 0 F' hnum;have HC:=Lib.hid hch;clear hch;have HN:=Lib.hid hnum;clear hnum;by_cases hF0:F=0
      ·have hi0:((F:Int) == 0)=true:=by simp;omega
       clear hst;cases hd
       ·go_wp2_with (first | (go_at_call 36;go_must (refine HC.out.roomy.mono ?_;rintro e w2 ⟨rfl,h2⟩)) | (go_at_call 33;go_must (refine(HC.out.feed _ h2).mono ?_;rintro e w3 ⟨v3,rfl,h3⟩)) | (go_at_call 37;go_must (refine(HC.out.still _ _ h3).mono ?_;rintro e w4 ⟨rfl,h4⟩)) | (go_at_call 16;go_must (refine(HC.out.tell _ _ h4).mono ?_;rintro e w5 ⟨rfl,h5⟩)) | (go_at_call 39;go_must (refine(HC.out.held _ h5).mono ?_;rintro e w6 ⟨z6,rfl,rfl⟩)))
        go_roundw
        case rel=>exact⟨F',c+0,j+1,_,rfl,rfl,by go_num,by go_num,by omega,.inl (by omega),HN.out,HC.out.fin _ h5⟩
        case measure=>simp[intOf];omega
       ·go_wp2_with (first | (go_at_call 36;go_must (refine HC.out.roomy.mono ?_;rintro e w2 ⟨rfl,h2⟩)) | (go_at_call 33;go_must (refine(HC.out.feed _ h2).mono ?_;rintro e w3 ⟨v3,rfl,h3⟩)) | (go_at_call 37;go_must (refine(HC.out.still _ _ h3).mono ?_;rintro e w4 ⟨rfl,h4⟩)) | (go_at_call 16;go_must (refine(HC.out.tell _ _ h4).mono ?_;rintro e w5 ⟨rfl,h5⟩)) | (go_at_call 39;go_must (refine(HC.out.held _ h5).mono ?_;rintro e w6 ⟨z6,rfl,rfl⟩)))
        go_roundw
        case rel=>exact⟨F',c+0,j+1,_,rfl,rfl,by go_num,by go_num,by omega,.inl (by omega),HN.out,HC.out.fin _ h5⟩
        case measure=>simp[intOf];omega
      ·have hi0:((F:Int) == 0)=false:=by simp;omega
       obtain rfl:F'=F:=hst hF0;clear hst;cases hd
       ·go_wp2_with (first | (go_at_call 36;go_must (refine HC.out.roomy.mono ?_;rintro e w2 ⟨rfl,h2⟩)) | (go_at_call 33;go_must (refine(HC.out.feed _ h2).mono ?_;rintro e w3 ⟨v3,rfl,h3⟩)) | (go_at_call 37;go_must (refine(HC.out.still _ _ h3).mono ?_;rintro e w4 ⟨rfl,h4⟩)) | (go_at_call 16;go_must (refine(HC.out.tell _ _ h4).mono ?_;rintro e w5 ⟨rfl,h5⟩)) | (go_at_call 39;go_must (refine(HC.out.held _ h5).mono ?_;rintro e w6 ⟨z6,rfl,rfl⟩)))
        go_roundw
        case rel=>exact⟨F',c+0,j+1,_,rfl,rfl,by go_num,by go_num,by omega,.inl (by omega),HN.out,HC.out.fin _ h5⟩
        case measure=>simp[intOf];omega
       ·go_wp2_with (first | (go_at_call 36;go_must (refine HC.out.roomy.mono ?_;rintro e w2 ⟨rfl,h2⟩)) | (go_at_call 33;go_must (refine(HC.out.feed _ h2).mono ?_;rintro e w3 ⟨v3,rfl,h3⟩)) | (go_at_call 37;go_must (refine(HC.out.still _ _ h3).mono ?_;rintro e w4 ⟨rfl,h4⟩)) | (go_at_call 16;go_must (refine(HC.out.tell _ _ h4).mono ?_;rintro e w5 ⟨rfl,h5⟩)) | (go_at_call 39;go_must (refine(HC.out.held _ h5).mono ?_;rintro e w6 ⟨z6,rfl,rfl⟩)))
        go_roundw
        case rel=>exact⟨F',c+0,j+1,_,rfl,rfl,by go_num,by go_num,by omega,.inl (by omega),HN.out,HC.out.fin _ h5⟩
        case measure=>simp[intOf];omega
     ·obtain rfl:q=0:=by omega
      have hnum:=hch.num;have hst:=HST.out 0 F' hnum;have HC:=Lib.hid hch;clear hch;have HN:=Lib.hid hnum;clear hnum;by_cases hF0:F=0
      ·have hi0:((F:Int) == 0)=true:=by simp;omega
       clear hst;cases hd
       ·go_wp2_with (first | (go_at_call 36;go_must (refine HC.out.roomy.mono ?_;rintro e w2 ⟨rfl,h2⟩)) | (go_at_call 33;go_must (refine(HC.out.feed _ h2).mono ?_;rintro e w3 ⟨v3,rfl,h3⟩)) | (go_at_call 37;go_must (refine(HC.out.still _ _ h3).mono ?_;rintro e w4 ⟨rfl,h4⟩)) | (go_at_call 16;go_must (refine(HC.out.tell _ _ h4).mono ?_;rintro e w5 ⟨rfl,h5⟩)) | (go_at_call 39;go_must (refine(HC.out.held _ h5).mono ?_;rintro e w6 ⟨z6,rfl,rfl⟩)))
        go_roundw
        case rel=>exact⟨F',c+0,j+1,_,rfl,rfl,by go_num,by go_num,by omega,.inl (by omega),HN.out,HC.out.fin _ h5⟩
        case measure=>simp[intOf];omega
       ·go_wp2_with (first | (go_at_call 36;go_must (refine HC.out.roomy.mono ?_;rintro e w2 ⟨rfl,h2⟩)) | (go_at_call 33;go_must (refine(HC.out.feed _ h2).mono ?_;rintro e w3 ⟨v3,rfl,h3⟩)) | (go_at_call 37;go_must (refine(HC.out.still _ _ h3).mono ?_;rintro e w4 ⟨rfl,h4⟩)) | (go_at_call 16;go_must (refine(HC.out.tell _ _ h4).mono ?_;rintro e w5 ⟨rfl,h5⟩)) | (go_at_call 39;go_must (refine(HC.out.held _ h5).mono ?_;rintro e w6 ⟨z6,rfl,rfl⟩)))
        go_roundw
        case rel=>exact⟨F',c+0,j+1,_,rfl,rfl,by go_num,by go_num,by omega,.inl (by omega),HN.out,HC.out.fin _ h5⟩
        case measure=>simp[intOf];omega
      ·have hi0:((F:Int) == 0)=false:=by simp;omega
       obtain rfl:F'=F:=hst hF0;clear hst;cases hd
       ·go_wp2_with (first | (go_at_call 36;go_must (refine HC.out.roomy.mono ?_;rintro e w2 ⟨rfl,h2⟩)) | (go_at_call 33;go_must (refine(HC.out.feed _ h2).mono ?_;rintro e w3 ⟨v3,rfl,h3⟩)) | (go_at_call 37;go_must (refine(HC.out.still _ _ h3).mono ?_;rintro e w4 ⟨rfl,h4⟩)) | (go_at_call 16;go_must (refine(HC.out.tell _ _ h4).mono ?_;rintro e w5 ⟨rfl,h5⟩)) | (go_at_call 39;go_must (refine(HC.out.held _ h5).mono ?_;rintro e w6 ⟨z6,rfl,rfl⟩)))
        go_roundw
        case rel=>exact⟨F',c+0,j+1,_,rfl,rfl,by go_num,by go_num,by omega,.inl (by omega),HN.out,HC.out.fin _ h5⟩
        case measure=>simp[intOf];omega
       ·go_wp2_with (first | (go_at_call 36;go_must (refine HC.out.roomy.mono ?_;rintro e w2 ⟨rfl,h2⟩)) | (go_at_call 33;go_must (refine(HC.out.feed _ h2).mono ?_;rintro e w3 ⟨v3,rfl,h3⟩)) | (go_at_call 37;go_must (refine(HC.out.still _ _ h3).mono ?_;rintro e w4 ⟨rfl,h4⟩)) | (go_at_call 16;go_must (refine(HC.out.tell _ _ h4).mono ?_;rintro e w5 ⟨rfl,h5⟩)) | (go_at_call 39;go_must (refine(HC.out.held _ h5).mono ?_;rintro e w6 ⟨z6,rfl,rfl⟩)))
        go_roundw
        case rel=>exact⟨F',c+0,j+1,_,rfl,rfl,by go_num,by go_num,by omega,.inl (by omega),HN.out,HC.out.fin _ h5⟩
        case measure=>simp[intOf];omega
    ·obtain⟨g,R2,R3,R4,R5,F',hch⟩:=HCH.out 0 (by omega) (Option.map (λx=>x.add k) A) (c-k) (by rw[if_neg hck]);by_cases hq0:0<q
     ·have hi3:(0:Int)<(q:Int):=by omega
      have hnum:=hch.num;have hst:=HST.out 0 F' hnum;have HC:=Lib.hid hch;clear hch;have HN:=Lib.hid hnum;clear hnum;by_cases hF0:F=0
      ·have hi0:((F:Int) == 0)=true:=by simp;omega
       clear hst;cases hd
       ·go_wp2_with (first | (go_at_call 36;go_must (refine HC.out.roomy.mono ?_;rintro e w2 ⟨rfl,h2⟩)) | (go_at_call 33;go_must (refine(HC.out.feed _ h2).mono ?_;rintro e w3 ⟨v3,rfl,h3⟩)) | (go_at_call 37;go_must (refine(HC.out.still _ _ h3).mono ?_;rintro e w4 ⟨rfl,h4⟩)) | (go_at_call 16;go_must (refine(HC.out.tell _ _ h4).mono ?_;rintro e w5 ⟨rfl,h5⟩)) | (go_at_call 39;go_must (refine(HC.out.held _ h5).mono ?_;rintro e w6 ⟨z6,rfl,rfl⟩)))
        go_roundw
        case rel=>exact⟨F',k+0,j+1,_,rfl,rfl,by go_num,by go_num,by omega,.inl (by omega),HN.out,HC.out.fin _ h5⟩
        case measure=>simp[intOf];omega
       ·go_wp2_with (first | (go_at_call 36;go_must (refine HC.out.roomy.mono ?_;rintro e w2 ⟨rfl,h2⟩)) | (go_at_call 33;go_must (refine(HC.out.feed _ h2).mono ?_;rintro e w3 ⟨v3,rfl,h3⟩)) | (go_at_call 37;go_must (refine(HC.out.still _ _ h3).mono ?_;rintro e w4 ⟨rfl,h4⟩)) | (go_at_call 16;go_must (refine(HC.out.tell _ _ h4).mono ?_;rintro e w5 ⟨rfl,h5⟩)) | (go_at_call 39;go_must (refine(HC.out.held _ h5).mono ?_;rintro e w6 ⟨z6,rfl,rfl⟩)))
        go_roundw
        case rel=>exact⟨F',k+0,j+1,_,rfl,rfl,by go_num,by go_num,by omega,.inl (by omega),HN.out,HC.out.fin _ h5⟩
        case measure=>simp[intOf];omega
      ·have hi0:((F:Int) == 0)=false:=by simp;omega
       obtain rfl:F'=F:=hst hF0;clear hst;cases hd
       ·go_wp2_with (first | (go_at_call 36;go_must (refine HC.out.roomy.mono ?_;rintro e w2 ⟨rfl,h2⟩)) | (go_at_call 33;go_must (refine(HC.out.feed _ h2).mono ?_;rintro e w3 ⟨v3,rfl,h3⟩)) | (go_at_call 37;go_must (refine(HC.out.still _ _ h3).mono ?_;rintro e w4 ⟨rfl,h4⟩)) | (go_at_call 16;go_must (refine(HC.out.tell _ _ h4).mono ?_;rintro e w5 ⟨rfl,h5⟩)) | (go_at_call 39;go_must (refine(HC.out.held _ h5).mono ?_;rintro e w6 ⟨z6,rfl,rfl⟩)))
        go_roundw
        case rel=>exact⟨F',k+0,j+1,_,rfl,rfl,by go_num,by go_num,by omega,.inl (by omega),HN.out,HC.out.fin _ h5⟩
        case measure=>simp[intOf];omega
       ·go_wp2_with (first | (go_at_call 36;go_must (refine HC.out.roomy.mono ?_;rintro e w2 ⟨rfl,h2⟩)) | (go_at_call 33;go_must (refine(HC.out.feed _ h2).mono ?_;rintro e w3 ⟨v3,rfl,h3⟩)) | (go_at_call 37;go_must (refine(HC.out.still _ _ h3).mono ?_;rintro e w4 ⟨rfl,h4⟩)) | (go_at_call 16;go_must (refine(HC.out.tell _ _ h4).mono ?_;rintro e w5 ⟨rfl,h5⟩)) | (go_at_call 39;go_must (refine(HC.out.held _ h5).mono ?_;rintro e w6 ⟨z6,rfl,rfl⟩)))
        go_roundw
        case rel=>exact⟨F',k+0,j+1,_,rfl,rfl,by go_num,by go_num,by omega,.inl (by omega),HN.out,HC.out.fin _ h5⟩
        case measure=>simp[intOf];omega
     ·obtain rfl:q=0:=by omega
      have hnum:=hch.num;have hst:=HST.out 0 F' hnum;have HC:=Lib.hid hch;clear hch;have HN:=Lib.hid hnum;clear hnum;by_cases hF0:F=0
      ·have hi0:((F:Int) == 0)=true:=by simp;omega
       clear hst;cases hd
       ·go_wp2_with (first | (go_at_call 36;go_must (refine HC.out.roomy.mono ?_;rintro e w2 ⟨rfl,h2⟩)) | (go_at_call 33;go_must (refine(HC.out.feed _ h2).mono ?_;rintro e w3 ⟨v3,rfl,h3⟩)) | (go_at_call 37;go_must (refine(HC.out.still _ _ h3).mono ?_;rintro e w4 ⟨rfl,h4⟩)) | (go_at_call 16;go_must (refine(HC.out.tell _ _ h4).mono ?_;rintro e w5 ⟨rfl,h5⟩)) | (go_at_call 39;go_must (refine(HC.out.held _ h5).mono ?_;rintro e w6 ⟨z6,rfl,rfl⟩)))
        go_roundw
        case rel=>exact⟨F',k+0,j+1,_,rfl,rfl,by go_num,by go_num,by omega,.inl (by omega),HN.out,HC.out.fin _ h5⟩
        case measure=>simp[intOf];omega
       ·go_wp2_with (first | (go_at_call 36;go_must (refine HC.out.roomy.mono ?_;rintro e w2 ⟨rfl,h2⟩)) | (go_at_call 33;go_must (refine(HC.out.feed _ h2).mono ?_;rintro e w3 ⟨v3,rfl,h3⟩)) | (go_at_call 37;go_must (refine(HC.out.still _ _ h3).mono ?_;rintro e w4 ⟨rfl,h4⟩)) | (go_at_call 16;go_must (refine(HC.out.tell _ _ h4).mono ?_;rintro e w5 ⟨rfl,h5⟩)) | (go_at_call 39;go_must (refine(HC.out.held _ h5).mono ?_;rintro e w6 ⟨z6,rfl,rfl⟩)))
        go_roundw
        case rel=>exact⟨F',k+0,j+1,_,rfl,rfl,by go_num,by go_num,by omega,.inl (by omega),HN.out,HC.out.fin _ h5⟩
        case measure=>simp[intOf];omega
      ·have hi0:((F:Int) == 0)=false:=by simp;omega
       obtain rfl:F'=F:=hst hF0;clear hst;cases hd
       ·go_wp2_with (first | (go_at_call 36;go_must (refine HC.out.roomy.mono ?_;rintro e w2 ⟨rfl,h2⟩)) | (go_at_call 33;go_must (refine(HC.out.feed _ h2).mono ?_;rintro e w3 ⟨v3,rfl,h3⟩)) | (go_at_call 37;go_must (refine(HC.out.still _ _ h3).mono ?_;rintro e w4 ⟨rfl,h4⟩)) | (go_at_call 16;go_must (refine(HC.out.tell _ _ h4).mono ?_;rintro e w5 ⟨rfl,h5⟩)) | (go_at_call 39;go_must (refine(HC.out.held _ h5).mono ?_;rintro e w6 ⟨z6,rfl,rfl⟩)))
        go_roundw
        case rel=>exact⟨F',k+0,j+1,_,rfl,rfl,by go_num,by go_num,by omega,.inl (by omega),HN.out,HC.out.fin _ h5⟩
        case measure=>simp[intOf];omega
       ·go_wp2_with (first | (go_at_call 36;go_must (refine HC.out.roomy.mono ?_;rintro e w2 ⟨rfl,h2⟩)) | (go_at_call 33;go_must (refine(HC.out.feed _ h2).mono ?_;rintro e w3 ⟨v3,rfl,h3⟩)) | (go_at_call 37;go_must (refine(HC.out.still _ _ h3).mono ?_;rintro e w4 ⟨rfl,h4⟩)) | (go_at_call 16;go_must (refine(HC.out.tell _ _ h4).mono ?_;rintro e w5 ⟨rfl,h5⟩)) | (go_at_call 39;go_must (refine(HC.out.held _ h5).mono ?_;rintro e w6 ⟨z6,rfl,rfl⟩)))
        go_roundw
        case rel=>exact⟨F',k+0,j+1,_,rfl,rfl,by go_num,by go_num,by omega,.inl (by omega),HN.out,HC.out.fin _ h5⟩
        case measure=>simp[intOf];omega
  ·by_cases hkn:k<n
   ·have hck:¬(c=k):=by omega
    obtain⟨g,R2,R3,R4,R5,F',hch⟩:=HCH.out (n-k) (by omega) (Option.map (λx=>x.add k) A) (c-k) (by rw[if_neg hck]);clear hF hat1;have hnum:=hch.num;have hst:=HST.out (n-k) F' hnum;have HC:=Lib.hid hch;clear hch;have HN:=Lib.hid hnum;clear hnum;by_cases hF0:F=0
    ·have hi0:((F:Int) == 0)=true:=by simp;omega
     clear hst;cases hd
     ·go_wp2_with (first | (go_at_call 36;go_must (refine HC.out.roomy.mono ?_;rintro e w2 ⟨rfl,h2⟩)) | (go_at_call 33;go_must (refine(HC.out.feed _ h2).mono ?_;rintro e w3 ⟨v3,rfl,h3⟩)) | (go_at_call 37;go_must (refine(HC.out.still _ _ h3).mono ?_;rintro e w4 ⟨rfl,h4⟩)) | (go_at_call 16;go_must (refine(HC.out.tell _ _ h4).mono ?_;rintro e w5 ⟨rfl,h5⟩)) | (go_at_call 39;go_must (refine(HC.out.held _ h5).mono ?_;rintro e w6 ⟨z6,rfl,rfl⟩)))
      go_roundw
      case rel=>exact⟨F',k+(n-k),j+1,_,rfl,rfl,by go_num,by go_num,by omega,(by omega),HN.out,HC.out.fin _ h5⟩
      case measure=>simp[intOf];omega
     ·go_wp2_with (first | (go_at_call 36;go_must (refine HC.out.roomy.mono ?_;rintro e w2 ⟨rfl,h2⟩)) | (go_at_call 33;go_must (refine(HC.out.feed _ h2).mono ?_;rintro e w3 ⟨v3,rfl,h3⟩)) | (go_at_call 37;go_must (refine(HC.out.still _ _ h3).mono ?_;rintro e w4 ⟨rfl,h4⟩)) | (go_at_call 16;go_must (refine(HC.out.tell _ _ h4).mono ?_;rintro e w5 ⟨rfl,h5⟩)) | (go_at_call 39;go_must (refine(HC.out.held _ h5).mono ?_;rintro e w6 ⟨z6,rfl,rfl⟩)))
      go_roundw
      case rel=>exact⟨F',k+(n-k),j+1,_,rfl,rfl,by go_num,by go_num,by omega,(by omega),HN.out,HC.out.fin _ h5⟩
      case measure=>simp[intOf];omega
    ·have hi0:((F:Int) == 0)=false:=by simp;omega
     obtain rfl:F'=F:=hst hF0;clear hst;cases hd
     ·go_wp2_with (first | (go_at_call 36;go_must (refine HC.out.roomy.mono ?_;rintro e w2 ⟨rfl,h2⟩)) | (go_at_call 33;go_must (refine(HC.out.feed _ h2).mono ?_;rintro e w3 ⟨v3,rfl,h3⟩)) | (go_at_call 37;go_must (refine(HC.out.still _ _ h3).mono ?_;rintro e w4 ⟨rfl,h4⟩)) | (go_at_call 16;go_must (refine(HC.out.tell _ _ h4).mono ?_;rintro e w5 ⟨rfl,h5⟩)) | (go_at_call 39;go_must (refine(HC.out.held _ h5).mono ?_;rintro e w6 ⟨z6,rfl,rfl⟩)))
      go_roundw
      case rel=>exact⟨F',k+(n-k),j+1,_,rfl,rfl,by go_num,by go_num,by omega,(by omega),HN.out,HC.out.fin _ h5⟩
      case measure=>simp[intOf];omega
     ·go_wp2_with (first | (go_at_call 36;go_must (refine HC.out.roomy.mono ?_;rintro e w2 ⟨rfl,h2⟩)) | (go_at_call 33;go_must (refine(HC.out.feed _ h2).mono ?_;rintro e w3 ⟨v3,rfl,h3⟩)) | (go_at_call 37;go_must (refine(HC.out.still _ _ h3).mono ?_;rintro e w4 ⟨rfl,h4⟩)) | (go_at_call 16;go_must (refine(HC.out.tell _ _ h4).mono ?_;rintro e w5 ⟨rfl,h5⟩)) | (go_at_call 39;go_must (refine(HC.out.held _ h5).mono ?_;rintro e w6 ⟨z6,rfl,rfl⟩)))
      go_roundw
      case rel=>exact⟨F',k+(n-k),j+1,_,rfl,rfl,by go_num,by go_num,by omega,(by omega),HN.out,HC.out.fin _ h5⟩
      case measure=>simp[intOf];omega
   ·obtain rfl:k=n:=by omega
    have htk:patch.take k=patch:=List.take_of_length_le (by rw[HL.out];exact Nat.le_refl _);rw[htk] at hF hat1;obtain⟨T1,T2,T3,T4,T5,T6,htail⟩:=tail_chain w w1 X pa pf bf be f patch k c A wr HL.out hn HG.out hz1 hold hpg hE HBL.out hpa HX.out hat1;have hS:Stt f f.reads (AF.feed ⟨Ap.init,f⟩ patch):=(init_stt f hold hpg).feed _;have hs1:=finish_stick (AF.feed ⟨Ap.init,f⟩ patch);obtain⟨_,hs2,hs3⟩:=finish_again (AF.feed ⟨Ap.init,f⟩ patch);have hs4:=Stt.num0 hS;have happ:f.apply patch=(AF.feed ⟨Ap.init,f⟩ patch).finish:=rfl;rw[←happ] at hs1 hs2 hs3;obtain⟨M,hM⟩:∃M,(f.apply patch).fault.num=M:=⟨_,rfl⟩;obtain⟨Gn,hG⟩:∃Gn,(f.apply patch).x.a.fault.num=Gn:=⟨_,rfl⟩;rw[hM,hG] at htail;rw[←hF] at hs1 hs4;rw[hM] at hs1 hs2 hs3;rw[hG] at hs2 hs3;have hs5:M=0->Gn=9:=λe=>(hs3 e).elim id λq=>absurd (hs4 (by rcases Nat.eq_zero_or_pos F with h | h;exact h;have:=hs1 (by omega);omega)) q.1
    have HT:=Lib.hid htail;clear htail;have HM:=Lib.hid hM;clear hM hG hS;have HF:=Lib.hid hF;clear hF hs3 hs4 happ htk hat1;by_cases hF0:F=0
    ·have hi0:((F:Int) == 0)=true:=by simp;omega
     by_cases hM0:M=0
     ·have hi1:((M:Int) == 0)=true:=by simp;omega
      obtain rfl:Gn=9:=hs5 hM0;clear hs1 hs2 hs5;cases hd
      ·go_wp2_with (first | (go_at_call 32;(first | (refine(HT.out.fin2 _ _ t3).mono ?_;rintro e w5 ⟨v5,rfl,t4⟩) | (refine HT.out.fin.mono ?_;rintro e w2 ⟨v2,rfl,t1⟩))) | (go_at_call 39;go_must (refine(HT.out.held _ t2).mono ?_;rintro e w6 ⟨z6,rfl,rfl⟩)) | (go_at_call 33;go_must (refine(HT.out.feed2 _ t2).mono ?_;rintro e w4 ⟨v4,rfl,t3⟩)) | (go_at_call 16;(first | (refine(HT.out.tell3 _ _ t5).mono ?_;rintro e w7 ⟨rfl,t6⟩) | (refine(HT.out.tell2 _ _ _ t4).mono ?_;rintro e w6 ⟨rfl,t5⟩) | (refine(HT.out.tell1 _ _ t1).mono ?_;rintro e w3 ⟨rfl,t2⟩))))
       go_ret3
       obtain⟨be9,hr9,hq9,ho9⟩:=HT.out.done _ t6;have e1:(((AF.feed ⟨Ap.init,f⟩ patch).a.fault.num:Nat):Int)=0:=by rw[←HF.out];omega
       have e2:(((f.apply patch).fault.num:Nat):Int)=0:=by rw[HM.out];omega
       rw[e1,e2];exact⟨_,be9,rfl,hr9,hq9,ho9⟩
      ·go_wp2_with (first | (go_at_call 32;(first | (refine(HT.out.fin2 _ _ t3).mono ?_;rintro e w5 ⟨v5,rfl,t4⟩) | (refine HT.out.fin.mono ?_;rintro e w2 ⟨v2,rfl,t1⟩))) | (go_at_call 39;go_must (refine(HT.out.held _ t2).mono ?_;rintro e w6 ⟨z6,rfl,rfl⟩)) | (go_at_call 33;go_must (refine(HT.out.feed2 _ t2).mono ?_;rintro e w4 ⟨v4,rfl,t3⟩)) | (go_at_call 16;(first | (refine(HT.out.tell3 _ _ t5).mono ?_;rintro e w7 ⟨rfl,t6⟩) | (refine(HT.out.tell2 _ _ _ t4).mono ?_;rintro e w6 ⟨rfl,t5⟩) | (refine(HT.out.tell1 _ _ t1).mono ?_;rintro e w3 ⟨rfl,t2⟩))))
       go_ret3
       obtain⟨be9,hr9,hq9,ho9⟩:=HT.out.done _ t6;have e1:(((AF.feed ⟨Ap.init,f⟩ patch).a.fault.num:Nat):Int)=0:=by rw[←HF.out];omega
       have e2:(((f.apply patch).fault.num:Nat):Int)=0:=by rw[HM.out];omega
       rw[e1,e2];exact⟨_,be9,rfl,hr9,hq9,ho9⟩
     ·have hi1:((M:Int) == 0)=false:=by simp;omega
      obtain rfl:Gn=M:=hs2 hM0;clear hs1 hs2 hs5;cases hd
      ·go_wp2_with (first | (go_at_call 32;(first | (refine(HT.out.fin2 _ _ t3).mono ?_;rintro e w5 ⟨v5,rfl,t4⟩) | (refine HT.out.fin.mono ?_;rintro e w2 ⟨v2,rfl,t1⟩))) | (go_at_call 39;go_must (refine(HT.out.held _ t2).mono ?_;rintro e w6 ⟨z6,rfl,rfl⟩)) | (go_at_call 33;go_must (refine(HT.out.feed2 _ t2).mono ?_;rintro e w4 ⟨v4,rfl,t3⟩)) | (go_at_call 16;(first | (refine(HT.out.tell3 _ _ t5).mono ?_;rintro e w7 ⟨rfl,t6⟩) | (refine(HT.out.tell2 _ _ _ t4).mono ?_;rintro e w6 ⟨rfl,t5⟩) | (refine(HT.out.tell1 _ _ t1).mono ?_;rintro e w3 ⟨rfl,t2⟩))))
       go_ret3
       obtain⟨be9,hr9,hq9,ho9⟩:=HT.out.done _ t6;have e1:(((AF.feed ⟨Ap.init,f⟩ patch).a.fault.num:Nat):Int)=0:=by rw[←HF.out];omega
       have e2:(((f.apply patch).fault.num:Nat):Int)=(Gn:Int):=by rw[HM.out]
       rw[e1,e2];exact⟨_,be9,rfl,hr9,hq9,ho9⟩
      ·go_wp2_with (first | (go_at_call 32;(first | (refine(HT.out.fin2 _ _ t3).mono ?_;rintro e w5 ⟨v5,rfl,t4⟩) | (refine HT.out.fin.mono ?_;rintro e w2 ⟨v2,rfl,t1⟩))) | (go_at_call 39;go_must (refine(HT.out.held _ t2).mono ?_;rintro e w6 ⟨z6,rfl,rfl⟩)) | (go_at_call 33;go_must (refine(HT.out.feed2 _ t2).mono ?_;rintro e w4 ⟨v4,rfl,t3⟩)) | (go_at_call 16;(first | (refine(HT.out.tell3 _ _ t5).mono ?_;rintro e w7 ⟨rfl,t6⟩) | (refine(HT.out.tell2 _ _ _ t4).mono ?_;rintro e w6 ⟨rfl,t5⟩) | (refine(HT.out.tell1 _ _ t1).mono ?_;rintro e w3 ⟨rfl,t2⟩))))
       go_ret3
       obtain⟨be9,hr9,hq9,ho9⟩:=HT.out.done _ t6;have e1:(((AF.feed ⟨Ap.init,f⟩ patch).a.fault.num:Nat):Int)=0:=by rw[←HF.out];omega
       have e2:(((f.apply patch).fault.num:Nat):Int)=(Gn:Int):=by rw[HM.out]
       rw[e1,e2];exact⟨_,be9,rfl,hr9,hq9,ho9⟩
    ·have hi0:((F:Int) == 0)=false:=by simp;omega
     obtain rfl:M=F:=hs1 hF0;obtain rfl:Gn=M:=hs2 hF0;clear hs1 hs2 hs5;cases hd
     ·go_wp2_with (first | (go_at_call 32;(first | (refine(HT.out.fin2 _ _ t3).mono ?_;rintro e w5 ⟨v5,rfl,t4⟩) | (refine HT.out.fin.mono ?_;rintro e w2 ⟨v2,rfl,t1⟩))) | (go_at_call 39;go_must (refine(HT.out.held _ t2).mono ?_;rintro e w6 ⟨z6,rfl,rfl⟩)) | (go_at_call 33;go_must (refine(HT.out.feed2 _ t2).mono ?_;rintro e w4 ⟨v4,rfl,t3⟩)) | (go_at_call 16;(first | (refine(HT.out.tell3 _ _ t5).mono ?_;rintro e w7 ⟨rfl,t6⟩) | (refine(HT.out.tell2 _ _ _ t4).mono ?_;rintro e w6 ⟨rfl,t5⟩) | (refine(HT.out.tell1 _ _ t1).mono ?_;rintro e w3 ⟨rfl,t2⟩))))
      go_ret3
      obtain⟨be9,hr9,hq9,ho9⟩:=HT.out.done _ t6;have e1:(((AF.feed ⟨Ap.init,f⟩ patch).a.fault.num:Nat):Int)=(Gn:Int):=by rw[←HF.out]
      have e2:(((f.apply patch).fault.num:Nat):Int)=(Gn:Int):=by rw[HM.out]
      rw[e1,e2];exact⟨_,be9,rfl,hr9,hq9,ho9⟩
     ·go_wp2_with (first | (go_at_call 32;(first | (refine(HT.out.fin2 _ _ t3).mono ?_;rintro e w5 ⟨v5,rfl,t4⟩) | (refine HT.out.fin.mono ?_;rintro e w2 ⟨v2,rfl,t1⟩))) | (go_at_call 39;go_must (refine(HT.out.held _ t2).mono ?_;rintro e w6 ⟨z6,rfl,rfl⟩)) | (go_at_call 33;go_must (refine(HT.out.feed2 _ t2).mono ?_;rintro e w4 ⟨v4,rfl,t3⟩)) | (go_at_call 16;(first | (refine(HT.out.tell3 _ _ t5).mono ?_;rintro e w7 ⟨rfl,t6⟩) | (refine(HT.out.tell2 _ _ _ t4).mono ?_;rintro e w6 ⟨rfl,t5⟩) | (refine(HT.out.tell1 _ _ t1).mono ?_;rintro e w3 ⟨rfl,t2⟩))))
      go_ret3
      obtain⟨be9,hr9,hq9,ho9⟩:=HT.out.done _ t6;have e1:(((AF.feed ⟨Ap.init,f⟩ patch).a.fault.num:Nat):Int)=(Gn:Int):=by rw[←HF.out]
      have e2:(((f.apply patch).fault.num:Nat):Int)=(Gn:Int):=by rw[HM.out]
      rw[e1,e2];exact⟨_,be9,rfl,hr9,hq9,ho9⟩
end Go.Proofs.YtkmgcggoemlaaaaGreatDoor
end
