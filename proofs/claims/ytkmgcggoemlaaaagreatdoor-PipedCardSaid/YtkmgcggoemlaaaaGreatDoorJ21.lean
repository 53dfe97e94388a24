/-
  Part 21 of the common ground of this seat: what single parts show stands ahead of each.
  No condition.
-/
import Derived.Test.YtkmgcggoemlaaaaGreatDoorJ20
import Derived.Test.YtkmgcggoemlaaaaGreatDoorJ18
import Derived.Test.YtkmgcggoemlaaaaGreatDoorJ13
set_option linter.unusedSimpArgs false
set_option linter.unusedVariables false
set_option linter.constructorNameAsVariable false
section
/- alike.Find sends the runs, closes the channel, and leaves. -/
set_option maxHeartbeats 4000000
set_option maxRecDepth 100000
namespace Go.Proofs.YtkmgcggoemlaaaaGreatDoor
open Go Go.Fw Go.RowKit Go.Fwm
structure FSt (W:World) (cch nxb cb ob fd pb:Nat) (Ao An:Option Addr) (c0 cn cp:Nat) (old next:List UInt8) (own:Nat):Prop where
 nx:W.cell? ⟨nxb,0,none⟩=some (.slice An next.length cn)
 ch:W.cell? ⟨cb,0,none⟩=some (.chan (some cch))
 ow:W.cell? ⟨ob,0,none⟩=some (.int .i64 (own:Int))
 owf:W.frozen? ⟨ob,0,none⟩=false
 fdr:Fdr W fd Ao c0 pb cp old (saOf old)
 srt:Srt (sy old) old.length old.length (saOf old)
 bx:Bytes W An next
 nl:next.length<=4096
 ncp:next.length<=cn
 ne1:ob≠nxb/\ob≠cb/\ob≠fd/\ob≠pb/\fd≠pb
 aw1:Away (λb=>b=ob) Ao/\Away (λb=>b=pb) Ao
 aw2:Away (λb=>b=ob) An/\Away (λb=>b=pb) An
 lt:pb<W.heap.size
theorem FSt.keep {W W':World}{cch nxb cb ob fd pb:Nat}{Ao An:Option Addr}{c0 cn cp:Nat}{old next:List UInt8}{own:Nat}(h:FSt W cch nxb cb ob fd pb Ao An c0 cn cp old next own)(hk:∀b,b<W.heap.size->W'.heap[b]? = W.heap[b]?)(hs:W.heap.size<=W'.heap.size):FSt W' cch nxb cb ob fd pb Ao An c0 cn cp old next own:=by
 have hc:∀a v,W.cell? a=some v->W'.cell? a=some v:=λa v ha=>(World.cell?_of_block (hk _ (block_lt_of_cell ha))).trans ha
 have hf:=λ(a:Addr) (ha:a.block<W.heap.size)=>World.frozen?_of_block (w:=W) (w':=W') (a:=a) (hk _ ha)
 refine⟨hc _ _ h.nx,hc _ _ h.ch,hc _ _ h.ow,(hf ⟨ob,0,none⟩ (block_lt_of_cell h.ow)).trans h.owf,⟨hc _ _ h.fdr.h0,hc _ _ h.fdr.h1,h.fdr.old_.keep λa _ hlt=>hk _ hlt,h.fdr.le,h.fdr.cap,λi hi=>?_⟩,h.srt,h.bx.keep λa _ hlt=>hk _ hlt,h.nl,h.ncp,h.ne1,h.aw1,h.aw2,Nat.lt_of_lt_of_le h.lt hs⟩;obtain⟨a1,a2⟩:=h.fdr.pl i hi;exact⟨hc _ _ a1,(hf ⟨pb,i,none⟩ (block_lt_of_cell a1)).trans a2⟩
theorem FSt.set {W:World}{cch nxb cb ob fd pb:Nat}{Ao An:Option Addr}{c0 cn cp:Nat}{old next:List UInt8}{own:Nat}(h:FSt W cch nxb cb ob fd pb Ao An c0 cn cp old next own)(v:Nat):FSt (W.setCell ⟨ob,0,none⟩ (.int .i64 (v:Int))) cch nxb cb ob fd pb Ao An c0 cn cp old next v:=by
 obtain⟨n1,n2,n3,n4,n5⟩:=h.ne1;have hk:∀b,b≠ob->(W.setCell ⟨ob,0,none⟩ (.int .i64 (v:Int))).heap[b]? = W.heap[b]?:=λb hb=>Below.heap_setCell W ⟨ob,0,none⟩ _ b hb
 have hc:∀(a:Addr) v',a.block≠ob->W.cell? a=some v'->(W.setCell ⟨ob,0,none⟩ (.int .i64 (v:Int))).cell? a=some v':=λa v' hne ha=>(World.cell?_of_block (hk _ hne)).trans ha
 refine⟨hc _ _ (Ne.symm n1) h.nx,hc _ _ (Ne.symm n2) h.ch,World.cell?_setCell_same _ _ _ h.ow,?_,⟨hc _ _ (Ne.symm n3) h.fdr.h0,hc _ _ (Ne.symm n3) h.fdr.h1,h.fdr.old_.keep λa e _=>hk _ (h.aw1.1 a e),h.fdr.le,h.fdr.cap,λi hi=>?_⟩,h.srt,h.bx.keep λa e _=>hk _ (h.aw2.1 a e),h.nl,h.ncp,h.ne1,h.aw1,h.aw2,by simpa[World.setCell] using h.lt⟩
 ·have:=h.owf;simpa using this
 ·obtain⟨a1,a2⟩:=h.fdr.pl i hi;exact⟨hc ⟨pb,i,none⟩ _ (Ne.symm n4) a1,(World.frozen?_of_block (a:=⟨pb,i,none⟩) (hk pb (Ne.symm n4))).trans a2⟩
theorem lgK_eq (old b:List UInt8):lgK old b (saOf old) (cntP old b (saOf old)) 2=lgOf old b:=rfl
theorem find_longest {W:World}{cch nxb cb ob fd pb:Nat}{Ao An:Option Addr}{c0 cn cp:Nat}{old next:List UInt8}{own:Nat}(h:FSt W cch nxb cb ob fd pb Ao An c0 cn cp old next own)(i:Nat)(hi:i<next.length) :
  Calls Tryz.prog 63 #[.pointer (some ⟨fd,0,none⟩),.slice (if cn=i then An else Option.map (λp=>p.add i) An) (next.length-i) (cn-i)] W λe w'=>∃v,e=.returned v/\v=.tuple #[.int .i64 ((lgOf old (next.drop i)).1:Nat),.int .i64 ((lgOf old (next.drop i)).2:Nat)]/\FSt w' cch nxb cb ob fd pb Ao An c0 cn cp old next own:=by
 obtain⟨n1,n2,n3,n4,n5⟩:=h.ne1;have hcap:=h.ncp;have hb:=slice_bytes (at_:=i) (n:=next.length-i) h.bx (by omega) hcap;rw[List.take_of_length_le (by simp)] at hb;have haw:Away (λb=>b=pb) (if cn=i then An else Option.map (λp=>p.add i) An):=by
  rw[if_neg (by omega)];intro a ha;obtain⟨a',e',rfl⟩:=Option.map_eq_some_iff.1 ha;have:=h.aw2.2 a' e';have e:(a'.add i).block=a'.block:=by unfold Addr.add;split<;>rfl
  show (a'.add i).block≠pb;rw[e];exact this
 have hs:∀p q,p<=q->q<old.length->Lib.compareBytes (old.drop (saOf old q)) (next.drop i)<0->Lib.compareBytes (old.drop (saOf old p)) (next.drop i)<0:=by
  intro p q hpq hq hlt;rcases Nat.lt_or_eq_of_le hpq with x|x
  ·rw[cmp_drop] at hlt ⊢;exact(h.srt.strict (sy_ends old) (Nat.le_refl _) x hq).ltS.trans hlt
  ·subst x;exact hlt
 have hnl:=h.nl;have H:=longest_ok W fd Ao c0 pb cp old (saOf old) h.fdr h.srt.lt n5 h.aw1.2 _ (next.length-i) (cn-i) (next.drop i) (by simp) (by omega) hb haw h.lt hs;rw[lgK_eq] at H;exact H.mono λe w' ⟨h1,h2⟩=>⟨_,h1,rfl,h.keep h2.block h2.size⟩
theorem find_snd (w:World)(cch:Nat)(Ao An:Option Addr)(c0 cn:Nat)(old next:List UInt8)(ho:Bytes w Ao old)(hn:Bytes w An next)(hol:old.length<=4096)(hoc:old.length<=c0)(hnl:next.length<=4096)(hnc:next.length<=cn)(hco:c0<=maxLen)
  (hlo:∀a,Ao=some a->a.block<w.heap.size) (hln:∀a,An=some a->a.block<w.heap.size) :
  Snd Tryz.prog FN cch ((runL (lgOf old) next).map (runV An cn)) [Frame.enter Tryz.prog 45 #[.slice Ao old.length c0,.slice An next.length cn,.chan (some cch)] .deferred,base0 Tryz.prog] w:=by
 have hJ:=snd_clo (P:=Tryz.prog) (FN:=FN) cch ((runL (lgOf old) next).map (runV An cn));rw[enter_fa _ _ 52 Tryz.func45 rfl rfl (by simp)];refine hJ.seq (hJ.region ?_);obtain⟨W1,hW1⟩:∃W1,W1=w.alloc (.cells #[.slice An next.length cn] 22):=⟨_,rfl⟩;obtain⟨W2,hW2⟩:∃W2,W2=W1.alloc (.cells #[.chan (some cch)] 123):=⟨_,rfl⟩;have s1:W1.heap.size=w.heap.size+1:=by rw[hW1];simp
 have s2:W2.heap.size=w.heap.size+2:=by rw[hW2];simp[s1]
 refine hJ.opf lst rfl rfl (by kernel_rfl) rfl (w':=W1) (v:=.pointer (some ⟨w.heap.size,0,none⟩)) (λtp=>by rw[hW1];exact ex_box22 rfl (fa_eval (by decide))) ?_;refine hJ.opf lst rfl rfl (by kernel_rfl) rfl (w':=W2) (v:=.pointer (some ⟨W1.heap.size,0,none⟩)) (λtp=>by rw[hW2];exact ex_box123 rfl (fa_eval (by decide))) ?_;have hcb:W2.cell? ⟨W1.heap.size,0,none⟩=some (.chan (some cch)):=by rw[hW2];exact(World.cell_blk (heap_alloc_new W1 _)).trans rfl
 have hnx:W2.cell? ⟨w.heap.size,0,none⟩=some (.slice An next.length cn):=by
  rw[hW2];refine(World.cell?_alloc_lt W1 _ ⟨w.heap.size,0,none⟩ (by show w.heap.size<_;omega)).trans ?_;rw[hW1];exact(World.cell_blk (heap_alloc_new w _)).trans rfl
 have hb2:∀b,b<w.heap.size->W2.heap[b]? = w.heap[b]?:=λb hb=>by
  rw[hW2,heap_alloc_old W1 _ (by omega),hW1,heap_alloc_old w _ hb]
 clear hW1 hW2;refine hJ.region_end (hJ.seq (hJ.region ?_));refine hJ.opf lst rfl rfl (by kernel_rfl) rfl (w':=W2) (λtp=>ex_load123 rfl (fa_eval (by decide)) hcb) ?_;refine hJ.deferf rfl rfl rfl ((fa_eval (by decide)).trans rfl) rfl ?_;refine hJ.region_end (hJ.seq (hJ.region ?_));refine hJ.opf lst rfl rfl (by kernel_rfl) rfl (w':=W2) (λtp=>ex_move rfl (fa_eval (by decide))) ?_;have hne1:w.heap.size≠W1.heap.size:=by omega
 refine hJ.callf lst rfl rfl rfl (by kernel_rfl) (by kernel_rfl) (by kernel_rfl) rfl #[.slice Ao old.length c0] (m1 ((fa_eval (by decide)).trans rfl)) (R:=λv w'=>v=.pointer (some ⟨W2.heap.size+2,0,none⟩)/\Srt (sy old) old.length old.length (saOf old)/\∃tp R X rank nx,NF (tpd W2 tp) w' W2.heap.size Ao c0 old.length R X rank (saOf old) nx) (λtp=>?_) (λv W3 hR=>?_)
 ·refine(newFinder_ok (tpd W2 tp) Ao old.length c0 old rfl hol hoc (ho.keep λa e hlt=>hb2 _ hlt) (λa e=>?_)).mono ?_
  ·show a.block<W2.heap.size;have:=hlo a e;omega
  ·rintro e w' ⟨h1,h2,R,X,rank,nx,h3⟩;exact⟨_,h1,rfl,h2,tp,R,X,rank,nx,h3⟩
 obtain⟨rfl,hsrt,tp,R,X,rank,nxr,hN⟩:=hR;have hsz3:=hN.sz;have hb3:∀b,b<W2.heap.size->W3.heap[b]? = W2.heap[b]?:=λb hb=>hN.below.block b hb
 have hcb3:W3.cell? ⟨W1.heap.size,0,none⟩=some (.chan (some cch)):=(World.cell?_of_block (hb3 _ (by show W1.heap.size<_;omega))).trans hcb;have hnx3:W3.cell? ⟨w.heap.size,0,none⟩=some (.slice An next.length cn):=(World.cell?_of_block (hb3 _ (by show w.heap.size<_;omega))).trans hnx;refine hJ.opf lst rfl rfl (by kernel_rfl) rfl (w':=W3) (λtp=>ex_assign rfl (fa_eval (by decide))) ?_;refine hJ.region_end (hJ.seq (hJ.region ?_));obtain⟨W4,hW4⟩:∃W4,W4=W3.alloc (.cells #[.int .i64 0] 3):=⟨_,rfl⟩;have hob:W4.cell? ⟨W3.heap.size,0,none⟩=some (.int .i64 0):=by rw[hW4];exact(World.cell_blk (heap_alloc_new W3 _)).trans rfl
 have hof:W4.frozen? ⟨W3.heap.size,0,none⟩=false:=by rw[hW4];exact World.frozen_blk (heap_alloc_new W3 _) 0
 have hb4:∀b,b<W3.heap.size->W4.heap[b]? = W3.heap[b]?:=λb hb=>by rw[hW4];exact heap_alloc_old W3 _ hb
 have s4:W4.heap.size=W3.heap.size+1:=by rw[hW4];simp
 refine hJ.opf lst rfl rfl (by kernel_rfl) rfl (w':=W4) (v:=.pointer (some ⟨W3.heap.size,0,none⟩)) (λtp=>by rw[hW4];exact ex_alloc3 rfl) ?_;have hF0:FSt W4 cch w.heap.size W1.heap.size W3.heap.size (W2.heap.size+2) (W2.heap.size+1) Ao An c0 cn old.length old next 0:=by
  have hk:∀b,b<W2.heap.size->W4.heap[b]? = W2.heap[b]?:=λb hb=>(hb4 b (by omega)).trans (hb3 b hb)
  have hk0:∀b,b<w.heap.size->W4.heap[b]? = w.heap[b]?:=λb hb=>(hk b (by omega)).trans (hb2 b hb)
  have hb':∀(A:Option Addr) B,(∀a,A=some a->a.block<w.heap.size)->w.heap.size<=B->Away (λb=>b=B) A:=λA B h1 h2 a e hx=>by have:=h1 a e;omega
  have hc4:∀a v,W3.cell? a=some v->W4.cell? a=some v:=λa v ha=>(World.cell?_of_block (hb4 _ (block_lt_of_cell ha))).trans ha
  refine⟨hc4 _ _ hnx3,hc4 _ _ hcb3,hob,hof,⟨hc4 _ _ (hN.fd.cell rfl),hc4 _ _ (hN.fd.cell rfl),ho.keep λa _ hlt=>hk0 _ hlt,hol,hoc,λi hi=>?_⟩,hsrt,hn.keep λa _ hlt=>hk0 _ hlt,hnl,hnc,⟨by omega,by omega,by omega,by omega,by omega⟩,⟨hb' _ _ hlo (by omega),hb' _ _ hlo (by omega)⟩,⟨hb' _ _ hln (by omega),hb' _ _ hln (by omega)⟩,by omega⟩;have h1:=hN.pl.cell (iCells_get hi);refine⟨hc4 _ _ h1,?_⟩;exact(World.frozen?_of_block (a:=⟨W2.heap.size+1,i,none⟩) (hb4 _ (by show W2.heap.size+1<_;omega))).trans (hN.pl.free i)
 have hst:(W4.setCell ⟨W3.heap.size,0,none⟩ (.int .i64 0)).heap.size=W4.heap.size:=by simp[World.setCell]
 refine hJ.skipf lst rfl rfl (by kernel_rfl) rfl (w':=W4.setCell ⟨W3.heap.size,0,none⟩ (.int .i64 0)) (λtp=>ex_store3 rfl ((fa_eval (by decide)).trans rfl) rfl hob hof) ?_;have hF1:=hF0.set 0;generalize W4.setCell ⟨W3.heap.size,0,none⟩ (.int .i64 0)=W5 at *;refine hJ.region_end (hJ.seq (hJ.region ?_));refine hJ.makef rfl rfl rfl (by kernel_rfl) rfl #[.pointer (some ⟨W3.heap.size,0,none⟩),.pointer (some ⟨W1.heap.size,0,none⟩),.pointer (some ⟨w.heap.size,0,none⟩)] (m3 ((fa_eval (by decide)).trans rfl) ((fa_eval (by decide)).trans rfl) ((fa_eval (by decide)).trans rfl)) ?_;refine hJ.opf lst rfl rfl (by kernel_rfl) rfl (w':=W5) (λtp=>ex_assign rfl (fa_eval (by decide))) ?_;refine hJ.region_end (hJ.seq (hJ.seq (hJ.region ?_)));refine hJ.opf lst rfl rfl (by kernel_rfl) rfl (w':=W5) (λtp=>ex_assign rfl rfl) ?_;refine hJ.region_end (hJ.block (hJ.loop ?_));obtain⟨F,hF⟩:∃F:Nat->Value,F=up (up (up (up (up (up (up (up (up (up (argf #[.slice Ao old.length c0,.slice An next.length cn,.chan (some cch)]) 4 (.pointer (some ⟨w.heap.size,0,none⟩))) 5 (.pointer (some ⟨W1.heap.size,0,none⟩))) 12 (.chan (some cch))) 13 (.slice Ao old.length c0)) 14 (.pointer (some ⟨W2.heap.size+2,0,none⟩))) 6 (.pointer (some ⟨W2.heap.size+2,0,none⟩))) 7 (.pointer (some ⟨W3.heap.size,0,none⟩))) 15 (bnd 62 #[.pointer (some ⟨W3.heap.size,0,none⟩),.pointer (some ⟨W1.heap.size,0,none⟩),.pointer (some ⟨w.heap.size,0,none⟩)])) 8 (bnd 62 #[.pointer (some ⟨W3.heap.size,0,none⟩),.pointer (some ⟨W1.heap.size,0,none⟩),.pointer (some ⟨w.heap.size,0,none⟩)])) 9 (.int .i64 0):=⟨_,rfl⟩;have f4:F 4=.pointer (some ⟨w.heap.size,0,none⟩):=by rw[hF];rfl
 have f5:F 5=.pointer (some ⟨W1.heap.size,0,none⟩):=by rw[hF];rfl
 have f6:F 6=.pointer (some ⟨W2.heap.size+2,0,none⟩):=by rw[hF];rfl
 have f7:F 7=.pointer (some ⟨W3.heap.size,0,none⟩):=by rw[hF];rfl
 have f8:F 8=bnd 62 #[.pointer (some ⟨W3.heap.size,0,none⟩),.pointer (some ⟨W1.heap.size,0,none⟩),.pointer (some ⟨w.heap.size,0,none⟩)]:=by rw[hF];rfl
 have f9:F 9=.int .i64 ((0:Nat):Int):=by rw[hF];rfl
 change Snd Tryz.prog FN cch (List.map (runV An cn) (fnd (lgOf old) next (next.length+1) 0 0)) ((bas 45 .deferred).at (fa 52 (up (up (up (up (up (up (up (up (up (up (argf #[.slice Ao old.length c0,.slice An next.length cn,.chan (some cch)]) 4 (.pointer (some ⟨w.heap.size,0,none⟩))) 5 (.pointer (some ⟨W1.heap.size,0,none⟩))) 12 (.chan (some cch))) 13 (.slice Ao old.length c0)) 14 (.pointer (some ⟨W2.heap.size+2,0,none⟩))) 6 (.pointer (some ⟨W2.heap.size+2,0,none⟩))) 7 (.pointer (some ⟨W3.heap.size,0,none⟩))) 15 (bnd 62 #[.pointer (some ⟨W3.heap.size,0,none⟩),.pointer (some ⟨W1.heap.size,0,none⟩),.pointer (some ⟨w.heap.size,0,none⟩)])) 8 (bnd 62 #[.pointer (some ⟨W3.heap.size,0,none⟩),.pointer (some ⟨W1.heap.size,0,none⟩),.pointer (some ⟨w.heap.size,0,none⟩)])) 9 (.int .i64 0)) _) _ :: _) W5;rw[←hF];have hle0:(0:Nat)<=0:=Nat.le_refl 0;have hle1:(0:Nat)<=next.length:=Nat.zero_le _
 have hm0:next.length-0<next.length+1:=by omega
 clear hF hF0 hob hof hb4 hb3 hb2 hcb3 hnx3 hN hcb hnx hJ hst;generalize next.length+1=m at hm0 ⊢
 generalize W3.heap.size=ob at *;generalize W1.heap.size=cb at *;generalize w.heap.size=nxb at *;generalize W2.heap.size+2=fd at *;generalize W2.heap.size+1=pb at *;obtain⟨own,hown⟩:∃own:Nat,own=0:=⟨_,rfl⟩;obtain⟨i,hi⟩:∃i:Nat,i=0:=⟨_,rfl⟩;rw[show fnd (lgOf old) next m 0 0=fnd (lgOf old) next m i own by rw[hown,hi]];rw[show (0:Nat)=i from hi.symm] at f9;have hle0:own<=i:=by omega
 have hle1:i<=next.length:=by omega
 have hm0:next.length-i<m:=by omega
 rw[show (0:Nat)=own from hown.symm] at hF1;clear hown hi;rename_i hle0' hle1' hm0';clear hle0' hle1' hm0';induction m generalizing i own F W5 with
 | zero=>omega
 | succ m ih=>
  have hJ:=snd_clo (P:=Tryz.prog) (FN:=FN) cch ((fnd (lgOf old) next (m+1) i own).map (runV An cn));refine hJ.seq (hJ.seq (hJ.region ?_));refine hJ.opf lst rfl rfl (by kernel_rfl) rfl (w':=W5) (λtp=>ex_move rfl ((fa_eval (by decide)).trans f9)) ?_;refine hJ.opf lst rfl rfl (by kernel_rfl) rfl (w':=W5) (λtp=>ex_load22 rfl ((fa_eval (by decide)).trans f4) hF1.nx) ?_;refine hJ.opf lst rfl rfl (by kernel_rfl) rfl (w':=W5) (λtp=>ex_len rfl ((fa_eval (by decide)).trans rfl)) ?_;refine hJ.opf lst rfl rfl (by kernel_rfl) rfl (w':=W5) (λtp=>ex_lss rfl ((fa_eval (by decide)).trans rfl) ((fa_eval (by decide)).trans rfl)) ?_;refine hJ.region_end (hJ.cond ((fa_eval (by decide)).trans rfl) ?_);by_cases hin:i<next.length
  ·have hd:decide ((i:Int)<(next.length:Int))=true:=by simp;omega
   rw[hd];refine hJ.skip (hJ.block (hJ.seq (hJ.region ?_)));refine hJ.opf lst rfl rfl (by kernel_rfl) rfl (w':=W5) (λtp=>ex_move rfl ((fa_eval (by decide)).trans f6)) ?_;refine hJ.opf lst rfl rfl (by kernel_rfl) rfl (w':=W5) (λtp=>ex_load22 rfl ((fa_eval (by decide)).trans f4) hF1.nx) ?_;refine hJ.opf lst rfl rfl (by kernel_rfl) rfl (w':=W5) (λtp=>ex_move rfl ((fa_eval (by decide)).trans f9)) ?_;refine hJ.opf lst rfl rfl (by kernel_rfl) rfl (w':=W5) (λtp=>ex_from (z:=.tmp 0) rfl ((fa_eval (by decide)).trans rfl) ((fa_eval (by decide)).trans rfl) hle1 hF1.ncp) ?_;obtain⟨r,hr⟩:∃r,r=lgOf old (next.drop i):=⟨_,rfl⟩;obtain⟨lf,ln⟩:=r;obtain⟨g1,g2,g3⟩:=lgOf_ok old (next.drop i);rw[←hr] at g1 g2 g3;simp only[List.length_drop] at g2;refine hJ.callf lst rfl rfl rfl (by kernel_rfl) (by kernel_rfl) (by kernel_rfl) rfl _ (m2 ((fa_eval (by decide)).trans rfl) ((fa_eval (by decide)).trans rfl)) (R:=λv w'=>v=.tuple #[.int .i64 (lf:Int),.int .i64 (ln:Int)]/\FSt w' cch nxb cb ob fd pb Ao An c0 cn old.length old next own) (λtp=>?_) (λv W6 hR=>?_)
   ·have hS:FSt (tpd W5 tp) cch nxb cb ob fd pb Ao An c0 cn old.length old next own:=hF1.keep (λb _=>rfl) (Nat.le_refl _)
    have:=find_longest hS i hin;rw[←hr] at this;exact this
   obtain⟨rfl,hF6⟩:=hR;refine hJ.opf lst rfl rfl (by kernel_rfl) rfl (w':=W6) (λtp=>ex_move rfl (fa_eval (by decide))) ?_;refine hJ.opf lst rfl rfl (by kernel_rfl) rfl (w':=W6) (v:=.int .i64 (lf:Int)) (λtp=>ex_extract rfl ((fa_eval (by decide)).trans rfl) rfl) ?_;refine hJ.opf lst rfl rfl (by kernel_rfl) rfl (w':=W6) (v:=.int .i64 (ln:Int)) (λtp=>ex_extract rfl ((fa_eval (by decide)).trans rfl) rfl) ?_;refine hJ.opf lst rfl rfl (by kernel_rfl) rfl (w':=W6) (λtp=>ex_assign rfl ((fa_eval (by decide)).trans rfl)) ?_;refine hJ.opf lst rfl rfl (by kernel_rfl) rfl (w':=W6) (λtp=>ex_assign rfl ((fa_eval (by decide)).trans rfl)) ?_;refine hJ.region_end (hJ.seq (hJ.seq (hJ.region ?_)));refine hJ.opf lst rfl rfl (by kernel_rfl) rfl (w':=W6) (λtp=>ex_move rfl ((fa_eval (by decide)).trans rfl)) ?_;refine hJ.opf lst rfl rfl (by kernel_rfl) rfl (w':=W6) (λtp=>ex_lss rfl ((fa_eval (by decide)).trans rfl) rfl) ?_;refine hJ.region_end (hJ.cond ((fa_eval (by decide)).trans rfl) ?_);by_cases hl8:ln<8
   ·have hd8:decide ((ln:Int)<8)=true:=by simp;omega
    have e:fnd (lgOf old) next (m+1) i own=fnd (lgOf old) next m (i+1) own:=by
     show (if i<next.length then _ else _)=_;rw[if_pos hin,←hr,if_pos hl8]
    rw[hd8,e];rw[e] at hJ;refine hJ.seq (hJ.region ?_);refine hJ.opf lst rfl rfl (by kernel_rfl) rfl (w':=W6) (λtp=>ex_move rfl ((fa_eval (by decide)).trans f9)) ?_;have hnl':=hF1.nl;refine hJ.opf lst rfl rfl (by kernel_rfl) rfl (w':=W6) (v:=.int .i64 ((i+1:Nat):Int)) (λtp=>ex_addN (i:=i) (j:=1) rfl ((fa_eval (by decide)).trans rfl) rfl (by omega)) ?_;refine hJ.opf lst rfl rfl (by kernel_rfl) rfl (w':=W6) (λtp=>ex_assign rfl ((fa_eval (by decide)).trans rfl)) ?_;refine hJ.region_end (hJ.exit rfl (hJ.inLoop ?_));refine ih W6 _ ?_ ?_ ?_ ?_ ?_ own hF6 (i+1) ?_ (by omega) (by omega) (by omega)
    ·exact f7
    ·exact f5
    ·exact f4
    ·exact f8
    ·exact f6
    ·rfl
   ·have hd8:decide ((ln:Int)<8)=false:=by simp;omega
    have hnl':=hF1.nl;have e:fnd (lgOf old) next (m+1) i own=sndR own i++⟨(lf:Int),i,i+ln⟩ :: fnd (lgOf old) next m (i+ln) (i+ln):=by
     show (if i<next.length then _ else _)=_;rw[if_pos hin,←hr,if_neg hl8]
    rw[hd8,e];rw[e] at hJ;rw[List.map_append] at hJ ⊢;refine hJ.skip (hJ.seq (hJ.region ?_));refine hJ.opf lst rfl rfl (by kernel_rfl) rfl (w':=W6) (λtp=>ex_move rfl ((fa_eval (by decide)).trans f8)) ?_;refine hJ.opf lst rfl rfl (by kernel_rfl) rfl (w':=W6) (λtp=>ex_move rfl ((fa_eval (by decide)).trans f9)) ?_;refine hJ.boundf (ys:=#[.pointer (some ⟨ob,0,none⟩),.pointer (some ⟨cb,0,none⟩),.pointer (some ⟨nxb,0,none⟩)]) rfl rfl rfl ((fa_eval (by decide)).trans rfl) (by kernel_rfl) (by kernel_rfl) #[.int .i64 (i:Int),.pointer (some ⟨ob,0,none⟩),.pointer (some ⟨cb,0,none⟩),.pointer (some ⟨nxb,0,none⟩)] (by rw[m1 ((fa_eval (by decide)).trans rfl)];rfl) ?_;refine find1_snd hF6.ow hF6.ch hF6.nx hle0 hle1 hF6.ncp hF6.nl (atOp_at _) λW7 hW7=>?_
    have hF7:FSt W7 cch nxb cb ob fd pb Ao An c0 cn old.length old next own:=hF6.keep (λb _=>by rw[hW7]) (by rw[hW7];exact Nat.le_refl _)
    rw[finish_fa rfl rfl];have hJ2:=snd_clo (P:=Tryz.prog) (FN:=FN) cch (List.map (runV An cn) (⟨(lf:Int),i,i+ln⟩ :: fnd (lgOf old) next m (i+ln) (i+ln)));refine hJ2.region_end (hJ2.seq ?_);have hcell:∀(W:World) (a:Addr),W.heap=W7.heap->W.cell? a=W7.cell? a:=λW a hW=>World.cell?_of_block (by rw[hW])
    refine hJ2.drawn lst hm_ (m:=9) (val:=λq=>#[Value.chan (some cch),.int .i64 (lf:Int),.slice An next.length cn,.int .i64 (i:Int),.int .i64 (i:Int),.int .i64 (ln:Int),.int .i64 ((i+ln:Nat):Int),partV An cn i (i+ln),runV An cn ⟨(lf:Int),i,i+ln⟩].getD q undef) (d:=λq=>#[35,36,37,38,39,40,41,42,43].getD q 0) (pr:=λq=>#[[],[],[],[],[],[],[4,5],[2,3,6],[1,7],[0,8]].getD q []) (ylds_of (by kernel_rfl) (λq hq=>?_) (by decide) (λL h1 h2=>?_)) (λg W8 hW8 hg=>?_)
    ·have hq9:q=0\/q=1\/q=2\/q=3\/q=4\/q=5\/q=6\/q=7\/q=8:=by omega
     rcases hq9 with rfl|rfl|rfl|rfl|rfl|rfl|rfl|rfl|rfl
     ·exact⟨_,rfl,rfl,by kernel_rfl,rfl,λg hp hx W hW=>ex_load123 rfl ((fa_eval (by decide)).trans ((hx 5 (by decide)).trans f5)) ((hcell W _ hW).trans hF7.ch)⟩
     ·exact⟨_,rfl,rfl,by kernel_rfl,rfl,λg hp hx W hW=>ex_move rfl ((fa_eval (by decide)).trans (hx 10 (by decide)))⟩
     ·exact⟨_,rfl,rfl,by kernel_rfl,rfl,λg hp hx W hW=>ex_load22 rfl ((fa_eval (by decide)).trans ((hx 4 (by decide)).trans f4)) ((hcell W _ hW).trans hF7.nx)⟩
     ·exact⟨_,rfl,rfl,by kernel_rfl,rfl,λg hp hx W hW=>ex_move rfl ((fa_eval (by decide)).trans ((hx 9 (by decide)).trans f9))⟩
     ·exact⟨_,rfl,rfl,by kernel_rfl,rfl,λg hp hx W hW=>ex_move rfl ((fa_eval (by decide)).trans ((hx 9 (by decide)).trans f9))⟩
     ·exact⟨_,rfl,rfl,by kernel_rfl,rfl,λg hp hx W hW=>ex_move rfl ((fa_eval (by decide)).trans (hx 11 (by decide)))⟩
     ·exact⟨_,rfl,rfl,by kernel_rfl,rfl,λg hp hx W hW=>ex_addN rfl ((fa_eval (by decide)).trans (hp 4 (by decide))) ((fa_eval (by decide)).trans (hp 5 (by decide))) (by omega)⟩
     ·exact⟨_,rfl,rfl,by kernel_rfl,rfl,λg hp hx W hW=>ex_part (y:=.tmp 38) rfl ((fa_eval (by decide)).trans (hp 2 (by decide))) ((fa_eval (by decide)).trans (hp 3 (by decide))) ((fa_eval (by decide)).trans (hp 6 (by decide))) (by omega) (by omega) hF7.ncp⟩
     ·exact⟨_,rfl,rfl,by kernel_rfl,rfl,λg hp hx W hW=>ex_run rfl ((fa_eval (by decide)).trans (hp 1 (by decide))) ((fa_eval (by decide)).trans (hp 7 (by decide)))⟩
    ·have a0:=h2 0 (by decide);have a8:=h2 8 (by decide);have a1:=h1 8 (by decide) a8 1 (by decide);have a7:=h1 8 (by decide) a8 7 (by decide);have a2:=h1 7 (by decide) a7 2 (by decide);have a3:=h1 7 (by decide) a7 3 (by decide);have a6:=h1 7 (by decide) a7 6 (by decide);have a4:=h1 6 (by decide) a6 4 (by decide);have a5:=h1 6 (by decide) a6 5 (by decide);intro q hq;have hq9:q=0\/q=1\/q=2\/q=3\/q=4\/q=5\/q=6\/q=7\/q=8:=by omega
     rcases hq9 with rfl | rfl | rfl | rfl | rfl | rfl | rfl | rfl | rfl<;>assumption
    have hF8:FSt W8 cch nxb cb ob fd pb Ao An c0 cn old.length old next own:=hF7.keep (λb _=>by rw[hW8]) (by rw[hW8];exact Nat.le_refl _)
    refine .send (by simp) (simSend_at rfl rfl rfl rfl rfl ((fa_eval (by decide)).trans (hg 35)) ((fa_eval (by decide)).trans (hg 43))) ?_;have hJ3:=snd_clo (P:=Tryz.prog) (FN:=FN) cch (List.map (runV An cn) (fnd (lgOf old) next m (i+ln) (i+ln)));have g9:g 9=.int .i64 (i:Int):=(hg 9).trans f9;have g11:g 11=.int .i64 (ln:Int):=(hg 11).trans rfl;have g4:=(hg 4).trans f4;have g5:=(hg 5).trans f5;have g6:=(hg 6).trans f6;have g7:=(hg 7).trans f7;have g8:=(hg 8).trans f8;refine hJ3.region_end (hJ3.seq (hJ3.region ?_));refine hJ3.opf lst rfl rfl (by kernel_rfl) rfl (w':=W8) (λtp=>ex_move rfl ((fa_eval (by decide)).trans g9)) ?_;refine hJ3.opf lst rfl rfl (by kernel_rfl) rfl (w':=W8) (λtp=>ex_move rfl ((fa_eval (by decide)).trans g11)) ?_;refine hJ3.opf lst rfl rfl (by kernel_rfl) rfl (w':=W8) (v:=.int .i64 ((i+ln:Nat):Int)) (λtp=>ex_addN rfl ((fa_eval (by decide)).trans rfl) ((fa_eval (by decide)).trans rfl) (by omega)) ?_;refine hJ3.opf lst rfl rfl (by kernel_rfl) rfl (w':=W8) (λtp=>ex_assign rfl ((fa_eval (by decide)).trans rfl)) ?_;refine hJ3.region_end (hJ3.region ?_);refine hJ3.opf lst rfl rfl (by kernel_rfl) rfl (w':=W8) (λtp=>ex_move rfl ((fa_eval (by decide)).trans rfl)) ?_;refine hJ3.skipf lst rfl rfl (by kernel_rfl) rfl (w':=W8.setCell ⟨ob,0,none⟩ (.int .i64 ((i+ln:Nat):Int))) (λtp=>ex_store3 rfl ((fa_eval (by decide)).trans g7) ((fa_eval (by decide)).trans rfl) hF8.ow hF8.owf) ?_;refine hJ3.region_end (hJ3.inBlock (hJ3.inLoop ?_));refine ih _ _ ?_ ?_ ?_ ?_ ?_ (i+ln) (hF8.set _) (i+ln) ?_ (Nat.le_refl _) (by omega) (by omega)
    ·exact g7
    ·exact g5
    ·exact g4
    ·exact g8
    ·exact g6
    ·rfl
  ·have hd:decide ((i:Int)<(next.length:Int))=false:=by simp;omega
   have e:fnd (lgOf old) next (m+1) i own=sndR own next.length:=by
    show (if i<next.length then _ else _)=_;rw[if_neg hin]
   rw[hd,e];rw[e] at hJ;refine hJ.exit rfl (hJ.region ?_);refine hJ.opf lst rfl rfl (by kernel_rfl) rfl (w':=W5) (λtp=>ex_move rfl ((fa_eval (by decide)).trans f8)) ?_;refine hJ.opf lst rfl rfl (by kernel_rfl) rfl (w':=W5) (λtp=>ex_load22 rfl ((fa_eval (by decide)).trans f4) hF1.nx) ?_;refine hJ.opf lst rfl rfl (by kernel_rfl) rfl (w':=W5) (λtp=>ex_len rfl ((fa_eval (by decide)).trans rfl)) ?_;refine hJ.boundf (ys:=#[.pointer (some ⟨ob,0,none⟩),.pointer (some ⟨cb,0,none⟩),.pointer (some ⟨nxb,0,none⟩)]) rfl rfl rfl ((fa_eval (by decide)).trans rfl) (by kernel_rfl) (by kernel_rfl) #[.int .i64 (next.length:Int),.pointer (some ⟨ob,0,none⟩),.pointer (some ⟨cb,0,none⟩),.pointer (some ⟨nxb,0,none⟩)] (by rw[m1 ((fa_eval (by decide)).trans rfl)];rfl) ?_;rw[←List.append_nil (List.map (runV An cn) (sndR own next.length))];refine find1_snd hF1.ow hF1.ch hF1.nx (by omega) (Nat.le_refl _) hF1.ncp hF1.nl (atOp_at _) λW7 hW7=>?_
   rw[finish_fa rfl rfl];have hJ2:=snd_clo (P:=Tryz.prog) (FN:=FN) cch [];refine hJ2.region_end (hJ2.end_ ?_);exact .close (by simp) (simClose_at rfl rfl rfl Tryz.func45 rfl rfl)
end Go.Proofs.YtkmgcggoemlaaaaGreatDoor
end
section
/- More single operations; an act of 33 temporaries, written out. -/
namespace Go.Proofs.YtkmgcggoemlaaaaGreatDoor
open Go Go.Fw Go.Conc Go.RowKit Go.Fwm
def zR:Value:=.agg #[.int .i64 0,.slice none 0 0]
theorem fa_lit33 (f:Nat->Value)(D:List Deferred):fa 33 f D=⟨#[f 0,f 1,f 2,f 3,f 4,f 5,f 6,f 7,f 8,f 9,f 10,f 11,f 12,f 13,f 14,f 15,f 16,f 17,f 18,f 19,f 20,f 21,f 22,f 23,f 24,f 25,f 26,f 27,f 28,f 29,f 30,f 31,f 32],D⟩:=by kernel_rfl
section
variable {ρ:Operand->Value} {o:Oper} {W:World} {x y:Operand} {v:Value}
theorem ex_recv {c:Nat}(ho:o.op=.recv 131 x true)(hx:ρ x=.chan (some c)):(execOp ρ o).run Tryz.prog W=.ok (.comm #[rcase c zR] true (.recv true)) W/\(execOp ρ o).events Tryz.prog W #[]=#[]:=by
 refine⟨?_,?_⟩
 ·unfold execOp;simp only[ho,hx];go_simp;rfl
 ·unfold execOp;simp only[ho,hx];simp[run_underlying Tryz.underlying131]
theorem info127:(Tryz.prog.info? 127).map (·.bytes)=some 32:=by kernel_rfl
theorem ex_chan (ho:o.op=.makeChan 99 (.const (.int .i64 0)))(h0:ρ (.const (.int .i64 0))=.int .i64 0):(execOp ρ o).run Tryz.prog W=.ok (.value (.chan (some W.heap.size))) (W.alloc (.chan 0 #[] false 0 0 false))/\(execOp ρ o).events Tryz.prog W #[]=#[]:=by
 have hi:∃i,Tryz.prog.info? 127=some i/\i.bytes=32:=by
  have:=info127;cases h:Tryz.prog.info? 127 with
  | none=>rw[h] at this;cases this
  | some i=>rw[h] at this;exact⟨i,rfl,Option.some.inj this⟩
 obtain⟨i,hi,hb⟩:=hi;have hz:(i.bytes:Int)*((0:Nat):Int)<=281474976710544:=by omega
 have e1:(Instr.makeChan 99 (.int .i64 ((0:Nat):Int))).run Tryz.prog W=_:=Go.Conc.run_makeChan Tryz.underlying99 hi .i64 0 (by omega) hz;have e2:(Instr.makeChan 99 (.int .i64 ((0:Nat):Int))).events Tryz.prog W #[]=_:=Go.Conc.events_makeChan Tryz.underlying99 hi .i64 0 (by omega) hz #[];have e:(execOp ρ o)=(Instr.makeChan 99 (.int .i64 ((0:Nat):Int)) >>= λv=>pure (.value v)):=by
  unfold execOp;simp only[ho,h0];rfl
 refine⟨?_,?_⟩
 ·rw[e,Sem.run_bind,e1];rfl
 ·rw[e];simp only[Sem.events_bind,e1,e2];rfl
end
end Go.Proofs.YtkmgcggoemlaaaaGreatDoor
end
section
/- What runs gathers: a row of one's own, while the old world stands. -/
set_option maxHeartbeats 8000000
set_option maxRecDepth 100000
namespace Go.Proofs.YtkmgcggoemlaaaaGreatDoor
open Go Go.Fw Go.Conc Go.RowKit Go.Fwm
structure Rin (w0 w:World) (v:Value) (zs:List UInt8):Prop where
 own:Row w v zs
 size:w0.heap.size<=w.heap.size
 old:∀b,b<w0.heap.size->w.heap[b]? = w0.heap[b]?
 far:∀k,v.ownBlock=some k->w0.heap.size<=k
theorem Rin.nil (w0:World):Rin w0 w0 (.slice none 0 0) []:=⟨Row.nil _,Nat.le_refl _,λ_ _=>rfl,λk e=>by cases e⟩
theorem Rin.alloc {w0 w:World}{v:Value}{zs:List UInt8}(h:Rin w0 w v zs)(o:Obj):Rin w0 (w.alloc o) v zs:=
 ⟨h.own.alloc o,Nat.le_trans h.size (by simp),λb hb=>(heap_alloc_old w o (Nat.lt_of_lt_of_le hb h.size)).trans (h.old b hb),h.far⟩
theorem Rin.drewN {w0 w:World}{v:Value}{zs:List UInt8}(h:Rin w0 w v zs)(k:Nat):Rin w0 (w.drewN k) v zs:=⟨h.own.drewN k,h.size,h.old,h.far⟩
theorem Rin.tpd {w0 w:World}{v:Value}{zs:List UInt8}(h:Rin w0 w v zs)(tp:Tape):Rin w0 (tpd w tp) v zs:=⟨h.own,h.size,h.old,h.far⟩
theorem Rin.app {w0 w w':World}{v v':Value}{zs zs':List UInt8}(h:Rin w0 w v zs)(k:App w w' v v' zs'):Rin w0 w' v' zs':=
 ⟨k.own,Nat.le_trans h.size k.grown.size,λb hb=>(k.grown.block b (Nat.lt_of_lt_of_le hb h.size) λe=>by have:=h.far b e.symm;omega).trans (h.old b hb),λg hg=>by
  rcases k.wh g hg with x|x
  ·exact h.far g x
  ·exact Nat.le_trans h.size x⟩
theorem Rin.keep {w0 w w':World}{v:Value}{zs:List UInt8}(h:Rin w0 w v zs)(hs:w.heap.size<=w'.heap.size)(hk:∀b,b<w.heap.size->w'.heap[b]? = w.heap[b]?):Rin w0 w' v zs:=by
 refine⟨⟨h.own.1,?_⟩,Nat.le_trans h.size hs,λb hb=>(hk b (Nat.lt_of_lt_of_le hb h.size)).trans (h.old b hb),h.far⟩;rcases h.own.2 with x|⟨g,cap,cur,h1,h2,h3,h4⟩
 ·exact .inl x
 ·exact .inr ⟨g,cap,cur,h1,h2,(hk g (Array.getElem?_eq_some_iff.1 h3).1).trans h3,h4⟩
def RnOk (next:List UInt8)(r:Rn):Prop:=r.i<r.j/\r.j<=next.length/\(r.fr = -1\/0<=r.fr/\r.fr<=4096)
theorem sndR_ok {next:List UInt8}{own e:Nat}(he:e<=next.length):∀r∈sndR own e,RnOk next r:=by
 intro r hr;unfold sndR at hr;split at hr
 ·rename_i h;rw[List.mem_singleton.1 hr];exact⟨h,he,.inl rfl⟩
 ·cases hr
theorem fnd_ok {old next:List UInt8}{lg:List UInt8->Nat × Nat}(hg:LgOk old lg)(ho:old.length<=4096):∀(k i own:Nat),own<=i->i<=next.length->∀r∈fnd lg next k i own,RnOk next r:=by
 intro k;induction k with
 | zero=>intro i own _ _ r hr;cases hr
 | succ k ih=>
  intro i own h1 h2 r hr;obtain⟨g1,g2,g3⟩:=hg (next.drop i);simp only[List.length_drop] at g2;unfold fnd at hr;split at hr
  ·rename_i hi;split at hr
   ·exact ih (i+1) own (by omega) (by omega) r hr
   ·rename_i h8;rcases List.mem_append.1 hr with x|x
    ·exact sndR_ok h2 r x
    ·rcases List.mem_cons.1 x with rfl | y
     ·exact⟨by show i<i+_;omega,by show i+_<=_;omega,.inr ⟨Int.natCast_nonneg _,Int.ofNat_le.2 (Nat.le_trans (Nat.le_trans (Nat.le_add_right _ _) g1) ho)⟩⟩
     ·exact ih _ _ (Nat.le_refl _) (by omega) r y
  ·exact sndR_ok (Nat.le_refl _) r hr
theorem part_bytes {w0 w:World}{v:Value}{zs:List UInt8}(h:Rin w0 w v zs){An:Option Addr}{next:List UInt8}{cn:Nat}(hn:Bytes w0 An next)(hc:next.length<=cn){i j:Nat}(hij:i<=j)(hj:j<=next.length) :
  Bytes w (if cn=i then An else Option.map (λp=>p.add i) An) ((next.drop i).take (j-i)):=
 slice_bytes (hn.keep λa _ hlt=>h.old _ hlt) (by omega) hc
theorem res_one {fn:Func}{t:Nat}(h:fn.results=#[.tmp t])(T:Array Value):resV fn T=T.getD t undef:=by
 unfold resV;rw[h];simp[Fw.one]
theorem leave_fa {b:Frame}{n t:Nat}{f:Nat->Value}{k:List Item}{m:FrameMode}(h:t<n):({ b.at (fa n f []) k with mode:=m }:Frame).tmps.getD t undef=f t:=fa_eval (D:=[]) h
theorem leave_fa2 {fn:Func}{b:Frame}{n t:Nat}{f:Nat->Value}{k:List Item}{m:FrameMode}(hr:fn.results=#[.tmp t])(h:t<n){K:List Frame->World->Prop}{cfr:Frame}{cs:List Frame}{W:World}(hk:K (cfr.finish (f t) :: cs) W) :
  K (cfr.finish (resV fn ({ b.at (fa n f []) k with mode:=m }:Frame).tmps) :: cs) W:=by
 rw[res_one hr,leave_fa h];exact hk
theorem runs_rcv {c:Nat}{An:Option Addr}{cn:Nat}{next:List UInt8}{w:World}{cfr:Frame}{cs:List Frame}(hn:Bytes w An next)(hnl:next.length<=4096)(hc:next.length<=cn)(rs:List Rn)(hrs:∀r∈rs,RnOk next r)(hat:AtOp cfr)
  (hlen:(encs (rs.map (Rn.stp next))).length<=10000) {W:World} (hW:Rin w W (.slice none 0 0) [])
  (J:List Frame->World->Prop) (hcl:Clo Tryz.prog FN J) (θ:World->World)
  (hk:∀v W',Rin w W' v (encs (rs.map (Rn.stp next)))->J (cfr.finish v :: cs) (θ W')) :
  Rcv Tryz.prog FN c (λfs W=>J fs (θ W)) (rs.map (runV An cn)) (Frame.enter Tryz.prog 46 #[.chan (some c)] .normal :: cfr :: cs) W:=by
 have hJ:=rcv_clo (P:=Tryz.prog) (FN:=FN) c (λfs W=>J fs (θ W)) (rs.map (runV An cn));rw[enter_fa _ _ 33 Tryz.func46 rfl rfl (by simp)];refine hJ.seq (hJ.region ?_);refine hJ.opf lst rfl rfl (by kernel_rfl) rfl (w':=W) (λtp=>ex_assign rfl rfl) ?_;refine hJ.region_end (hJ.seq (hJ.region ?_));refine hJ.opf lst rfl rfl (by kernel_rfl) rfl (w':=W) (λtp=>ex_assign rfl rfl) ?_;refine hJ.region_end (hJ.seq (hJ.seq (hJ.region ?_)));refine hJ.opf lst rfl rfl (by kernel_rfl) rfl (w':=W) (λtp=>ex_move rfl (fa_eval (by decide))) ?_;refine hJ.region_end (hJ.block (hJ.loop ?_));obtain⟨F,hF⟩:∃F:Nat->Value,F=up (up (up (argf #[.chan (some c)]) 2 (.slice none 0 0)) 3 (.slice none 0 0)) 5 (.chan (some c)):=⟨_,rfl⟩;have f3:F 3=.slice none 0 0:=by rw[hF];rfl
 have f5:F 5=.chan (some c):=by rw[hF];rfl
 change Rcv Tryz.prog FN c (λfs W=>J fs (θ W)) _ ((bas 46 .normal).at (fa 33 (up (up (up (argf #[.chan (some c)]) 2 (.slice none 0 0)) 3 (.slice none 0 0)) 5 (.chan (some c))) _) _ :: _) W;rw[←hF];clear hF hJ;obtain⟨done,hdn⟩:∃done:List Stp,done=[]:=⟨_,rfl⟩;obtain⟨bv,hbv⟩:∃bv:Value,bv=.slice none 0 0:=⟨_,rfl⟩;rw[←hbv] at f3 hW;have hW2:Rin w W bv (encs done):=by rw[hdn];exact hW
 have hk2:∀v W',Rin w W' v (encs (done++rs.map (Rn.stp next)))->J (cfr.finish v :: cs) (θ W'):=by rw[hdn];exact hk
 have hlen2:(encs (done++rs.map (Rn.stp next))).length<=10000:=by rw[hdn];exact hlen
 clear hdn hbv hW hk hlen;generalize hrd:rs=L at *;clear hrd;induction L generalizing F W bv done with
 | nil=>
  have hJ:=rcv_clo (P:=Tryz.prog) (FN:=FN) c (λfs W=>J fs (θ W)) [];refine hJ.seq (hJ.region ?_);refine .shut (by simp) (simRecv_at (z:=zR) rfl rfl rfl rfl ((fa_eval (by decide)).trans f5) (by kernel_rfl) (λA W h=>ex_recv rfl h)) ⟨W.tape,?_⟩;change J ((bas 46 .normal).at ((fa 33 F []).put (some 6) (.tuple #[zR,.bool false])) _ :: _) (θ W);rw[fa_put];refine hcl.opf lst rfl rfl (by kernel_rfl) rfl (w':=θ W) (v:=.bool false) (λtp=>ex_extract rfl ((fa_eval (by decide)).trans rfl) rfl) ?_;refine hcl.region_end (hcl.seq (hcl.cond ((fa_eval (by decide)).trans rfl) ?_));refine hcl.exit rfl (hcl.seq (hcl.region ?_));refine hcl.opf lst rfl rfl (by kernel_rfl) rfl (w':=θ W) (v:=bv) (λtp=>ex_move rfl ((fa_eval (by decide)).trans f3)) ?_;refine hcl.opf lst rfl rfl (by kernel_rfl) rfl (w':=θ W) (v:=bv) (λtp=>ex_assign rfl ((fa_eval (by decide)).trans rfl)) ?_;refine hcl.region_end (hcl.ret (hcl.leave rfl rfl rfl Tryz.func46 (by kernel_rfl) hat ?_));exact leave_fa2 (K:=J) (t:=2) rfl (by decide) (hk2 bv W (by simpa using hW2))
 | cons r rs ih=>
  have hJ:=rcv_clo (P:=Tryz.prog) (FN:=FN) c (λfs W=>J fs (θ W)) (rs.map (runV An cn));refine(rcv_clo (P:=Tryz.prog) (FN:=FN) c (λfs W=>J fs (θ W)) _).seq ((rcv_clo (P:=Tryz.prog) (FN:=FN) c (λfs W=>J fs (θ W)) _).region ?_);refine .recv (by simp) (simRecv_at (z:=zR) rfl rfl rfl rfl ((fa_eval (by decide)).trans f5) (by kernel_rfl) (λA W h=>ex_recv rfl h)) ?_;change Rcv Tryz.prog FN c (λfs W=>J fs (θ W)) (rs.map (runV An cn)) ((bas 46 .normal).at ((fa 33 F []).put (some 6) (.tuple #[runV An cn r,.bool true])) _ :: _) _;rw[fa_put];refine hJ.opf lst rfl rfl (by kernel_rfl) rfl (w':=W) (v:=.bool true) (λtp=>ex_extract rfl ((fa_eval (by decide)).trans rfl) rfl) ?_;refine hJ.region_end (hJ.seq (hJ.cond ((fa_eval (by decide)).trans rfl) ?_));refine hJ.skip (hJ.code lst (by kernel_rfl) rfl rfl (by kernel_rfl) (N:=λa' w'=>a'.tmps.size=33/\a'.defers=[]/\a'.eval (.tmp 5)=.chan (some c)/\Rin w w' (a'.eval (.tmp 3)) (encs (done++[r.stp next]))) (R:=λ_ _=>False) (λtp=>?_) (λa' w' h=>?_) (λ_ _ _ h=>h.elim))
  ·rw[fa_lit33];obtain⟨fr,i,j⟩:=r;obtain⟨r1,r2,r3⟩:=hrs _ List.mem_cons_self;simp only at r1 r2 r3;have hpb:=λ(w1:World) (v:Value) (zs:List UInt8) (h:Rin w w1 v zs)=>part_bytes h hn hc (Nat.le_of_lt r1) r2
   have hrl:((next.drop i).take (j-i)).length=j-i:=by simp only[List.length_take,List.length_drop];omega
   change Code.wp Tryz.prog _ _ ⟨#[F 0,F 1,F 2,F 3,F 4,F 5,.tuple #[.agg #[.int .i64 fr,.slice (if cn=i then An else Option.map (λp=>p.add i) An) (j-i) (cn-i)],.bool true],.bool true,F 8,F 9,F 10,F 11,F 12,F 13,F 14,F 15,F 16,F 17,F 18,F 19,F 20,F 21,F 22,F 23,F 24,F 25,F 26,F 27,F 28,F 29,F 30,F 31,F 32],[]⟩ (Go.Fw.tpd W tp);rw[f3,f5];have hs:Rin w (Go.Fw.tpd W tp) bv (encs done):=hW2.tpd tp;have est:encs (done++[Rn.stp next ⟨fr,i,j⟩])=encs done++(Rn.stp next ⟨fr,i,j⟩).enc:=by rw[encs_app];simp[encs]
   rw[est];have hdl:(encs done).length<=10000:=by
    rw[encs_app,List.length_append] at hlen2;omega
   generalize Go.Fw.tpd W tp=W1 at hs ⊢;generalize (if cn=i then An else Option.map (λp=>p.add i) An)=PA at hpb ⊢;obtain⟨part,hpart⟩:∃part,part=(next.drop i).take (j-i):=⟨_,rfl⟩;rw[←hpart] at hpb hrl;have PART:=Lib.hid hpart.symm;clear hpart;clear f3 f5 hk2 hlen2 hW2 ih hJ hcl hrs;have HPB:=Lib.hid hpb;clear hpb;have HRL:=Lib.hid hrl;clear hrl;have HS:=Lib.hid hs;clear hs;have HN:=Lib.hid hn;clear hn;have EST:=Lib.hid est;clear est;have R3:=Lib.hid r3;clear r3;have HC:=Lib.hid hc;clear hc;clear hat;dsimp only;by_cases hf:fr<0
   ·go_wp2
    have hb1:(W1.alloc (.cells #[.int .i64 fr,.slice PA (j-i) (cn-i)] 127)).cell? ⟨W1.heap.size,1,none⟩=some (.slice PA (j-i) (cn-i)):=(World.cell_blk (heap_alloc_new W1 _)).trans rfl;have hb0:(W1.alloc (.cells #[.int .i64 fr,.slice PA (j-i) (cn-i)] 127)).cell? ⟨W1.heap.size,0,none⟩=some (.int .i64 fr):=(World.cell_blk (heap_alloc_new W1 _)).trans rfl;have hlb:W1.heap.size<(W1.alloc (.cells #[.int .i64 fr,.slice PA (j-i) (cn-i)] 127)).heap.size:=by simp
    have hne:bv.ownBlock≠some W1.heap.size:=λe=>by have:=HS.out.own.lt e;omega
    have HS2:=Lib.hid (HS.out.alloc (.cells #[.int .i64 fr,.slice PA (j-i) (cn-i)] 127));generalize W1.alloc (.cells #[.int .i64 fr,.slice PA (j-i) (cn-i)] 127)=W2 at hb0 hb1 hlb HS2 ⊢;generalize W1.heap.size=b at hb0 hb1 hlb hne ⊢;have HR:=Lib.hid HS2.out.own;clear hb0;have hst:(Rn.stp next ⟨fr,i,j⟩).enc=[0]++num (j-i)++part:=(by
     have:Rn.stp next ⟨fr,i,j⟩=.own ((next.drop i).take (j-i)):=by unfold Rn.stp;rw[if_pos hf]
     rw[this,PART.out];simp[Stp.enc,HRL.out])
    clear hf;have HST:=Lib.hid hst;clear hst;have hnum:∀W v zs,Row W v zs->zs.length<=10000000->Calls Tryz.prog 49 #[v,.int .i64 ((j-i:Nat):Int)] W λe w'=>∃v',e=.returned v'/\App W w' v v' (zs++num (j-i)):=λW v zs h1 h2=>pnumber_ok W v zs h1 h2 (j-i) (by omega)
    have HNUM:=Lib.hid hnum;clear hnum;have hlen0:(encs done).length+1<=100000000:=by omega
    have hlen1:(encs done++[0]).length<=10000000:=by simp;omega
    have hlen2:(encs done++[0]++num (j-i)).length+(j-i)<=100000000:=by
     have:=(num_len (j-i)).1;simp only[List.length_append,List.length_cons,List.length_nil];omega
    have hpos:0<j-i:=by omega
    go_region_held3 (λw'=>w'.cell? ⟨b,1,none⟩=some (.slice PA (j-i) (cn-i)))
     (first | go_keep | exact App.cell ha3 (by assumption) hne2 | exact App.cell ha2 (by assumption) hne1 | exact App.cell ha1 (by assumption) hne)
     (first
      |(refine step_append_row (by rfl) (.tmp 12) (.tmp 13) (by rfl) bv (encs done) [0] _ 1 1 (by rfl) ((HR.out.drewN _).alloc _) (by rfl) (by rfl) Nat.one_pos (bytes_one1 0 (heap_alloc_new _ _)) hlen0 ?_
        intro v1 w1 ha1;have hl1:=ha1.lt (lt_alloc (w:=W2.drewN _) hlb _);have hne1:=ha1.own_ne (lt_alloc (w:=W2.drewN _) hlb _) hne)
      |(go_at_call 49
        refine(HNUM.out _ _ (encs done++[0]) ha1.own hlen1).mono ?_;rintro e w2 ⟨v2,rfl,ha2⟩;have hne2:=ha2.own_ne hl1 hne1)
      |(refine step_append_row (by rfl) (.tmp 18) (.tmp 20) (by rfl) v2 (encs done++[0]++num (j-i)) part PA (j-i) (cn-i) (by rfl) ha2.own (by rfl) HRL.out hpos (HPB.out w2 v2 _ ((((HS2.out.drewN _).alloc _).app ha1).app ha2)) hlen2 ?_
        intro v3 w3 ha3)
      | fail "no arm")
    all_goals
     (have hch:Rin w w3 v3 (encs done++(Rn.stp next ⟨fr,i,j⟩).enc):=by
       rw[HST.out];have:=((((HS2.out.drewN _).alloc _).app ha1).app ha2).app ha3;simpa using this)
    all_goals exact⟨rfl,rfl,rfl,hch⟩
   ·go_wp2
    have hb1:(W1.alloc (.cells #[.int .i64 fr,.slice PA (j-i) (cn-i)] 127)).cell? ⟨W1.heap.size,1,none⟩=some (.slice PA (j-i) (cn-i)):=(World.cell_blk (heap_alloc_new W1 _)).trans rfl;have hb0:(W1.alloc (.cells #[.int .i64 fr,.slice PA (j-i) (cn-i)] 127)).cell? ⟨W1.heap.size,0,none⟩=some (.int .i64 fr):=(World.cell_blk (heap_alloc_new W1 _)).trans rfl;have hlb:W1.heap.size<(W1.alloc (.cells #[.int .i64 fr,.slice PA (j-i) (cn-i)] 127)).heap.size:=by simp
    have hne:bv.ownBlock≠some W1.heap.size:=λe=>by have:=HS.out.own.lt e;omega
    have HS2:=Lib.hid (HS.out.alloc (.cells #[.int .i64 fr,.slice PA (j-i) (cn-i)] 127));generalize W1.alloc (.cells #[.int .i64 fr,.slice PA (j-i) (cn-i)] 127)=W2 at hb0 hb1 hlb HS2 ⊢;generalize W1.heap.size=b at hb0 hb1 hlb hne ⊢;have HR:=Lib.hid HS2.out.own;have hf0:0<=fr/\fr<=4096:=by
     rcases R3.out with rfl|h
     ·exact absurd hf (by decide)
     ·exact h
    have hst:(Rn.stp next ⟨fr,i,j⟩).enc=[1]++num (j-i)++num fr.toNat:=(by
     have:Rn.stp next ⟨fr,i,j⟩=.copy (j-i) fr.toNat:=by unfold Rn.stp;rw[if_neg (show ¬fr<0 by omega)]
     rw[this];simp[Stp.enc])
    have hnum2:∀W v zs,Row W v zs->zs.length<=10000000->Calls Tryz.prog 49 #[v,.int .i64 fr] W λe w'=>∃v',e=.returned v'/\App W w' v v' (zs++num fr.toNat):=λW v zs h1 h2=>by
     have:=pnumber_ok W v zs h1 h2 fr.toNat (by omega);rwa [Int.toNat_of_nonneg hf0.1] at this
    have HNUM2:=Lib.hid hnum2;clear hnum2 hf0;clear hf;have HST:=Lib.hid hst;clear hst;have hnum:∀W v zs,Row W v zs->zs.length<=10000000->Calls Tryz.prog 49 #[v,.int .i64 ((j-i:Nat):Int)] W λe w'=>∃v',e=.returned v'/\App W w' v v' (zs++num (j-i)):=λW v zs h1 h2=>pnumber_ok W v zs h1 h2 (j-i) (by omega)
    have HNUM:=Lib.hid hnum;clear hnum;have hlen0:(encs done).length+1<=100000000:=by omega
    have hlen1:(encs done++[1]).length<=10000000:=by simp;omega
    have hlen2:(encs done++[1]++num (j-i)).length<=10000000:=by
     have:=(num_len (j-i)).1;simp only[List.length_append,List.length_cons,List.length_nil];omega
    go_region_held3 (λw'=>w'.cell? ⟨b,1,none⟩=some (.slice PA (j-i) (cn-i))/\w'.cell? ⟨b,0,none⟩=some (.int .i64 fr))
     (first | go_keep | exact⟨hr3,hq3⟩ | exact⟨hr2,hq2⟩ | exact⟨hr1,hq1⟩)
     (first
      |(refine step_append_row (by rfl) (.tmp 22) (.tmp 23) (by rfl) bv (encs done) [1] _ 1 1 (by rfl) ((HR.out.drewN _).alloc _) (by rfl) (by rfl) Nat.one_pos (bytes_one1 1 (heap_alloc_new _ _)) hlen0 ?_
        intro v1 w1 ha1;have hl1:=ha1.lt (lt_alloc (w:=W2.drewN _) hlb _);have hne1:=ha1.own_ne (lt_alloc (w:=W2.drewN _) hlb _) hne;have hq1:=App.cell ha1 ((World.cell?_of_block (w:=W2) (heap_alloc_old W2 _ hlb)).trans hb0) hne;have hr1:=App.cell ha1 ((World.cell?_of_block (w:=W2) (heap_alloc_old W2 _ hlb)).trans hb1) hne)
      |(go_at_call_of 49 v1
        refine(HNUM.out _ _ (encs done++[1]) ha1.own hlen1).mono ?_;rintro e w2 ⟨v2,rfl,ha2⟩;have hne2:=ha2.own_ne hl1 hne1;have hq2:=App.cell ha2 hq1 hne1;have hr2:=App.cell ha2 hr1 hne1)
      |(go_at_call_of 49 v2
        refine(HNUM2.out _ _ (encs done++[1]++num (j-i)) ha2.own hlen2).mono ?_;rintro e w3 ⟨v3,rfl,ha3⟩;have hq3:=App.cell ha3 hq2 hne2;have hr3:=App.cell ha3 hr2 hne2)
      | fail "no arm")
    all_goals
     (have hch:Rin w w3 v3 (encs done++(Rn.stp next ⟨fr,i,j⟩).enc):=by
       rw[HST.out];have:=((((HS2.out.drewN _).alloc _).app ha1).app ha2).app ha3;simpa using this)
    all_goals exact⟨rfl,rfl,rfl,hch⟩
  ·obtain⟨h1,h2,h3,h4⟩:=h;rw[fa_of h1,h2];rw[fa_of h1,fa_eval (by decide)] at h3 h4;have e:done++List.map (Rn.stp next) (r :: rs)=(done++[r.stp next])++List.map (Rn.stp next) rs:=by simp
   rw[e] at hk2 hlen2;refine hJ.inLoop ?_;exact ih (λt=>a'.tmps.getD t undef) h3 (done++[r.stp next]) _ rfl h4 (λq hq=>hrs q (List.mem_cons_of_mem _ hq)) hk2 hlen2
end Go.Proofs.YtkmgcggoemlaaaaGreatDoor
end
section
/- Appending bytes, of none too; lengths of rows; acts written out. -/
namespace Go.Proofs.YtkmgcggoemlaaaaGreatDoor
open Go Go.Fw Go.Conc Go.RowKit Go.Fwm
theorem append_none (ty:TypeId){w:World}{B A:Option Addr}{l cp c:Nat}(h:l<=cp):(Builtin.append_ #[22,22] ty #[.slice B l cp,.slice A 0 c]).run Tryz.prog w=.ok (.slice B l cp) w:=by
 obtain⟨i0,hi,hz0,hz1,hz2⟩:=info_parts info5;unfold Builtin.append_;cases A<;>cases B<;>simp[run_underlying Tryz.underlying22,sizeOf,typeInfo,hi,hz1,h,Builtin.lenOf,Builtin.firstCells,storeCells,loadCells,loadCellsFrom]
theorem Row.slice {w:World}{v:Value}{zs:List UInt8}(h:Row w v zs):∃B c,v=.slice B zs.length c/\zs.length<=c:=by
 rcases h.2 with⟨rfl,h0⟩|⟨g,cap,cur,rfl,hg,h2,h3,h4,_⟩
 ·have e:zs=[]:=by simpa using h0
  rw[e];exact⟨none,0,rfl,Nat.le_refl _⟩
 ·exact⟨_,_,rfl,by omega⟩
theorem Row.bytes {w:World}{v:Value}{zs:List UInt8}(h:Row w v zs){B:Option Addr}{l c:Nat}(e:v=.slice B l c):Bytes w B zs:=by
 intro i hi;subst e;have h0:=h;rcases h.2 with⟨x,hz⟩|⟨g,cap,cur,x,_⟩
 ·have e:zs=[]:=by simpa using hz
  rw[e] at hi;exact absurd hi (by simp)
 ·cases x;have:=World.ownsRow.cellAt h0 i (by simpa using hi);refine⟨g,0,rfl,?_⟩;simpa[hi,enc] using this
theorem append_all (ty:TypeId){w:World}{v:Value}{zs news:List UInt8}(h:Row w v zs){A:Option Addr}{m c:Nat}(hl:news.length=m)(hx:Bytes w A news)(hb:zs.length+m<=100000000) :
  ∃v' w',(Builtin.append_ #[22,22] ty #[v,.slice A m c]).run Tryz.prog w=.ok v' w'/\App w w' v v' (zs++news):=by
 by_cases h0:0<m
 ·exact append_run ty h hl h0 hx hb
 ·obtain rfl:m=0:=by omega
  obtain rfl:news=[]:=List.length_eq_zero_iff.1 hl;obtain⟨B,cp,rfl,hc⟩:=h.slice;exact⟨_,_,append_none ty hc,by rw[List.append_nil];exact App.refl h⟩
theorem wpList_append_all {w:World}{ops:Array Oper}{rest:List Oper}{o:Oper}{a:Act}{Q:Exit->Act->World->Prop}(hgd:o.guard=none)(s x:Operand)(ho:o.op=.call { callee:=.builtin .append,args:=#[s,x],argTypes:=#[22,22] })
  (v:Value) (zs news:List UInt8) (A:Option Addr) (m c:Nat) (hs:a.eval s=v) (hrow:Row w v zs) (hx:a.eval x=.slice A m c) (hl:news.length=m) (hb:Bytes w A news) (hlen:zs.length+m<=100000000)
  (h:∀v' w',App w w' v v' (zs++news)->wpList Tryz.prog ops Q rest (a.put o.dst v') w'):wpList Tryz.prog ops Q (o :: rest) a w:=
 wpList_plain hgd λ_ hK=>by
  obtain⟨v',w',hr,h2⟩:=append_all o.type hrow (c:=c) hl hb hlen;unfold Oper.wp execOp;simp only[ho,resolve,invoke,builtin,Sem.run_bind,Sem.run_pure,Result.andThen_ok,List.map_toArray,List.map_cons,List.map_nil,hs,hx,hr];exact hK _ _ (h v' w' h2)
theorem fa_lit53 (f:Nat->Value)(D:List Deferred):fa 53 f D=⟨#[f 0,f 1,f 2,f 3,f 4,f 5,f 6,f 7,f 8,f 9,f 10,f 11,f 12,f 13,f 14,f 15,f 16,f 17,f 18,f 19,f 20,f 21,f 22,f 23,f 24,f 25,f 26,f 27,f 28,f 29,f 30,f 31,f 32,f 33,f 34,f 35,f 36,f 37,f 38,f 39,f 40,f 41,f 42,f 43,f 44,f 45,f 46,f 47,f 48,f 49,f 50,f 51,f 52],D⟩:=by kernel_rfl
theorem res_two {fn:Func}{t u:Nat}(h:fn.results=#[.tmp t,.tmp u])(T:Array Value):resV fn T=.tuple #[T.getD t undef,T.getD u undef]:=by
 unfold resV;rw[h];simp[Fw.one]
theorem frz_cell {w:World}{a:Addr}{v:Value}(h:w.cell? a=some v):(frzW w).cell? a=some v:=by
 have hb:=block_lt_of_cell h;have e:=frzW_get w a.block;unfold World.cell? at h ⊢;rw[e];cases ho:w.heap[a.block]? with
 | none=>rw[ho] at h;cases h
 | some o=>
  rw[ho] at h;cases o with
  | cells c t fr=>exact h
  | _=>exact h
theorem frz_bytes {w:World}{A:Option Addr}{zs:List UInt8}(h:Bytes w A zs):Bytes (frzW w) A zs:=λi hi=>by
 obtain⟨b,o,e,hc⟩:=h i hi;exact⟨b,o,e,frz_cell hc⟩
theorem act_fa {a:Act}{n:Nat}(h1:a.tmps.size=n)(h2:a.defers=[]):∃F:Nat->Value,a=fa n F []/\∀t,t<n->(fa n F []).eval (.tmp t)=F t:=
 ⟨λt=>a.tmps.getD t undef,by rw[←h2];exact fa_of h1,λt h=>fa_eval h⟩
theorem Rin.thaw {w W:World}{v:Value}{zs:List UInt8}(h:Rin (frzW w) W v zs):Rin w (thaw w W) v zs:=by
 have hs:w.heap.size<=W.heap.size:=by have:=h.size;rwa [frzW_size] at this
 refine⟨⟨h.own.1,?_⟩,?_,λb hb=>thaw_old hb,λk e=>by have:=h.far k e;rwa [frzW_size] at this⟩
 ·rcases h.own.2 with x | ⟨g,cap,cur,h1,h2,h3,h4⟩
  ·exact .inl x
  ·refine .inr ⟨g,cap,cur,h1,h2,?_,h4⟩;rw[thaw_new (by have:=h.far g (by rw[h1];rfl);rwa [frzW_size] at this)];exact h3
 ·show w.heap.size<=(w.heap++_).size;simp
theorem run_sent {G n:Nat}{g:Nat->Value}{D:List Deferred}{β:Ren G}{A:Array Value}{An:Option Addr}{cn:Nat}{ln:Nat}{t:Nat}(ht:t<n)(hA:ArrR FN β (fa n g D).tmps A)(hg:g t=.slice An ln cn)(r:Rn)(hr:r.i<cn):Sent FN β (runV An cn r):=by
 refine⟨⟨3,?_⟩,?_⟩
 ·have h1:¬cn=r.i:=by omega
  have h2:0<cn-r.i:=by omega
  cases An<;>simp[runV,partV,cleanV,h1,h2]
 have e:(fa n g D).tmps[t]? = some (.slice An ln cn):=by
  rw[←hg];simp[fa,ht]
 obtain⟨X,_,hX⟩:=hA.get e;have hp:∃P,VR FN β (partV An cn r.i r.j) P:=by
  unfold partV;cases An with
  | none=>
   by_cases hc:cn=r.i
   ·rw[if_pos hc];exact⟨_,.slice0 _ _⟩
   ·rw[if_neg hc];exact⟨_,.slice0 _ _⟩
  | some a=>
   cases hX with
   | slice l c hAR=>
    by_cases hc:cn=r.i
    ·rw[if_pos hc];exact⟨_,.slice _ _ hAR⟩
    ·rw[if_neg hc];exact⟨_,.slice _ _ (hAR.add r.i)⟩
   | sliceE _ _=>omega
 obtain⟨P,hP⟩:=hp;refine⟨.agg #[.int .i64 r.fr,P],.agg rfl λi x X hx hX=>?_⟩;rcases i with _|_|i
 ·simp at hx hX;subst hx hX;exact .int _ _
 ·simp at hx hX;subst hx hX;exact hP
 ·simp at hx
theorem Rin.other {w V W:World}{v b:Value}{S zs:List UInt8}(h:Rin w V v S)(k:App V W (.slice none 0 0) b zs):Rin w W b zs:=by
 refine⟨k.own,Nat.le_trans h.size k.grown.size,λx hx=>(k.grown.block x (Nat.lt_of_lt_of_le hx h.size) λe=>by cases e).trans (h.old x hx),λg hg=>?_⟩;rcases k.wh g hg with x|x
 ·cases x
 ·exact Nat.le_trans h.size x
theorem App.keepB {V W:World}{b:Value}{zs S:List UInt8}{A:Option Addr}(k:App V W (.slice none 0 0) b zs)(h:Bytes V A S):Bytes W A S:=
 h.keep λa _ hlt=>k.grown.block _ hlt λe=>by cases e
theorem Row.slice2 {w:World}{v:Value}{zs:List UInt8}(h:Row w v zs):∃B n c,v=.slice B n c/\zs.length=n/\n<=c:=by
 obtain⟨B,c,e,hc⟩:=h.slice;exact⟨B,_,c,e,rfl,hc⟩
end Go.Proofs.YtkmgcggoemlaaaaGreatDoor
end
