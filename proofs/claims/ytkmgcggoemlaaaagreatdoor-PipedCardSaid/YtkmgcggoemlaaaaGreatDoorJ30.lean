/-
  Part 30 of the common ground of this seat: what single parts show stands ahead of each.
  No condition.
-/
import Derived.Test.YtkmgcggoemlaaaaGreatDoorJ29
import Derived.Test.YtkmgcggoemlaaaaGreatDoorJ22
import Derived.Test.YtkmgcggoemlaaaaGreatDoorJ21
import Derived.Test.YtkmgcggoemlaaaaGreatDoorJ16
import Derived.Test.YtkmgcggoemlaaaaGreatDoorJ12
import Derived.Test.YtkmgcggoemlaaaaGreatDoorJ23
import Derived.Deep.Slices
import Derived.Test.YtkmgcggoemlaaaaGreatDoorJ11
import Derived.Test.YtkmgcggoemlaaaaGreatDoorJ19
set_option linter.unusedSimpArgs false
set_option linter.unusedVariables false
set_option linter.constructorNameAsVariable false
section
/- Pipe$1 in a network: it makes the patch, tells that there is no error, sends the pieces, closes the channel, and leaves. -/
set_option maxHeartbeats 4000000
set_option maxRecDepth 100000
namespace Go.Proofs.YtkmgcggoemlaaaaGreatDoor
open Go Go.Fw Go.Conc Go.RowKit Go.Fwm
def rowQ (zs:List UInt8):Msg->Prop:=λm=>∃CC:Array Value,m=.row CC zs.length CC.size/\(∀x∈CC.toList,∃n,x=.int .u8 n)/\CC.toList.take zs.length=zs.map enc/\zs.length<=CC.size/\CC.size<=maxLen/\0<zs.length
theorem rowQ_inh {zs:List UInt8}(h0:0<zs.length)(h1:zs.length<=maxLen):∃m,rowQ zs m:=
 ⟨_,(zs.map enc).toArray,rfl,λx hx=>by obtain⟨z,_,rfl⟩:=List.mem_map.1 (by simpa using hx);exact⟨_,rfl⟩,by simp[List.take_of_length_le],by simp,by simpa using h1,h0⟩
def pcs (n:Nat):Nat->List UInt8->List (List UInt8)
 | 0,_=>[]
 | f+1,zs=>if zs=[] then [] else zs.take n :: pcs n f (zs.drop n)
structure SW (w:World) (pb sb nb yb:Nat) (pa:Addr) (pc c0 r1 n:Nat) (patch:List UInt8):Prop where
 hp:w.cell? ⟨pb,0,none⟩=some (.chan (some c0))
 hs:w.cell? ⟨sb,0,none⟩=some (.slice (some pa) patch.length pc)
 hn:w.cell? ⟨nb,0,none⟩=some (.int .i64 (n:Int))
 hy:w.cell? ⟨yb,0,none⟩=some (yldV r1)
 hx:Bytes w (some pa) patch
theorem SW.old {w w':World}{pb sb nb yb:Nat}{pa:Addr}{pc c0 r1 n:Nat}{patch:List UInt8}(h:SW w pb sb nb yb pa pc c0 r1 n patch)(hk:∀a v,w.cell? a=some v->w'.cell? a=some v):SW w' pb sb nb yb pa pc c0 r1 n patch:=
 ⟨hk _ _ h.hp,hk _ _ h.hs,hk _ _ h.hn,hk _ _ h.hy,λk hk'=>by obtain⟨b,o,e,hc⟩:=h.hx k hk';exact⟨b,o,e,hk _ _ hc⟩⟩
theorem cell_keep {w w':World}(hk:∀b,b<w.heap.size->w'.heap[b]? = w.heap[b]?){a:Addr}{v:Value}(h:w.cell? a=some v):w'.cell? a=some v:=(World.cell?_of_block (hk _ (block_lt_of_cell h))).trans h
theorem alloc2 {w W:World}{v u:Value}{t s:TypeId}(hW:W=(w.alloc (.cells #[v] t)).alloc (.cells #[u] s)):W.heap.size=w.heap.size+2/\W.cell? ⟨w.heap.size,0,none⟩=some v/\W.cell? ⟨w.heap.size+1,0,none⟩=some u/\∀b,b<w.heap.size->W.heap[b]? = w.heap[b]?:=by
 have s1:(w.alloc (.cells #[v] t)).heap.size=w.heap.size+1:=by simp
 subst hW;refine⟨by simp,?_,?_,λb hb=>by rw[heap_alloc_old _ _ (by omega),heap_alloc_old _ _ hb]⟩
 ·refine(World.cell?_alloc_lt (w.alloc (.cells #[v] t)) _ ⟨w.heap.size,0,none⟩ (by show w.heap.size<_;omega)).trans ?_;exact(World.cell_blk (heap_alloc_new w _)).trans rfl
 ·rw[←s1];exact(World.cell_blk (heap_alloc_new (w.alloc (.cells #[v] t)) _)).trans rfl
theorem alloc1 {w W:World}{v:Value}{t:TypeId}(hW:W=w.alloc (.cells #[v] t)):W.heap.size=w.heap.size+1/\W.cell? ⟨w.heap.size,0,none⟩=some v/\∀b,b<w.heap.size->W.heap[b]? = w.heap[b]?:=by
 subst hW;exact⟨by simp,(World.cell_blk (heap_alloc_new w _)).trans rfl,λb hb=>heap_alloc_old _ _ hb⟩
section
variable {ρ:Operand->Value} {o:Oper} {W:World} {x y z:Operand} {v:Value}
theorem ex_min {i j:Int}(ho:o.op=.call { callee:=.builtin .min,args:=#[x,y],argTypes:=#[3,3] })(hx:ρ x=.int .i64 i)(hy:ρ y=.int .i64 j):(execOp ρ o).run Tryz.prog W=.ok (.value (.int .i64 (min i j))) W:=by
 unfold execOp;simp only[ho,resolve,List.map_toArray,List.map_cons,List.map_nil,hx,hy];go_simp
end
theorem pcs_inh {n:Nat}(hn:1<=n):∀(f:Nat) (zs:List UInt8),zs.length<=maxLen->∀Q∈(pcs n f zs).map rowQ,∃m,Q m:=by
 intro f;induction f with
 | zero=>intro zs _ Q hQ;simp[pcs] at hQ
 | succ f ih=>
  intro zs hz Q hQ;unfold pcs at hQ;by_cases e:zs=[]
  ·rw[if_pos e] at hQ;simp at hQ
  ·rw[if_neg e] at hQ;rcases List.mem_cons.1 hQ with rfl|hQ
   ·have:0<zs.length:=List.length_pos_iff.2 e;refine rowQ_inh ?_ ?_<;>rw[List.length_take]<;>omega
   ·exact ih (zs.drop n) (by rw[List.length_drop];omega) Q hQ
theorem pcs_nil (n f:Nat):pcs n f []=[]:=by cases f<;>simp[pcs]
theorem mid41_jc {K:Cfg}{L0:List (Msg->Prop)}(hN:NetC K (valQ .nilIface) L0){ν:Nat->Option Nat}{c0 c1:Nat}(hν0:ν 0=some c0)(hν1:ν 1=some c1){w:World}{pb ob xb mb nb:Nat}{Ao An:Option Addr}{co cn n:Nat}{old next:List UInt8}
  (hpb:w.cell? ⟨pb,0,none⟩=some (.chan (some c0))) (hob:w.cell? ⟨ob,0,none⟩=some (.slice Ao old.length co)) (hxb:w.cell? ⟨xb,0,none⟩=some (.slice An next.length cn)) (hmb:w.cell? ⟨mb,0,none⟩=some (.chan (some c1))) (hnb:w.cell? ⟨nb,0,none⟩=some (.int .i64 (n:Int)))
  (hn1:1<=n) (hn2:n<=100) (ho:Bytes w Ao old) (hn:Bytes w An next) (hol:old.length<=4096) (hoc:old.length<=co) (hnl:next.length<=4096) (hnc:next.length<=cn) (hco:co<=maxLen)
  (hlo:∀a,Ao=some a->a.block<w.heap.size) (hln:∀a,An=some a->a.block<w.heap.size) (hP:Part FN Tryz.prog.globals.size K.X0 K.X0 w) (hXo:InS K.X0 Ao old.length co) (hXn:InS K.X0 An next.length cn)
  (hL0:L0=(pcs n (patchG (lgOf old) old next).length (patchG (lgOf old) old next)).map rowQ) (hG:Tryz.prog.globals.size<=w.heap.size) :
  JC Tryz.prog FN K (Net.MidS (valQ .nilIface) L0) ν 1 (λ_=>none) [Frame.enter Tryz.prog 41 #[.pointer (some ⟨pb,0,none⟩),.pointer (some ⟨ob,0,none⟩),.pointer (some ⟨xb,0,none⟩),.pointer (some ⟨mb,0,none⟩),.pointer (some ⟨nb,0,none⟩)] .deferred,base0 Tryz.prog] w:=by
 have hJm:Clo Tryz.prog FN (JC Tryz.prog FN K (Net.MidS (valQ .nilIface) L0) ν 1 (λ_=>none)):=jc_clo hN.hD (λF h=>.step F h) (midS_inh hN.q1 hN.l0) ν 1 _;have hJp:∀c,Clo Tryz.prog FN (JC Tryz.prog FN K (Net.PutS (valQ .nilIface) L0) (Net.upd ν 2 (some c)) 1 (λ_=>none)):=λc=>jc_clo hN.hD (λF h=>.step F h) (putS_inh hN.q1 hN.l0) _ 1 _
 obtain⟨patch,hpt⟩:∃patch,patch=patchG (lgOf old) old next:=⟨_,rfl⟩
 rw[enter_fa _ _ 23 Tryz.func41 rfl rfl (by simp)];refine hJm.seq (hJm.region ?_);refine hJm.opf lst rfl rfl (by kernel_rfl) rfl (w':=w) (v:=.chan (some c0)) (λtp=>ex_load81 rfl (fa_eval (by decide)) hpb) ?_;refine hJm.deferf rfl rfl rfl ((fa_eval (by decide)).trans rfl) rfl ?_;refine hJm.region_end (hJm.seq (hJm.region ?_));refine hJm.opf lst rfl rfl (by kernel_rfl) rfl (w':=w) (v:=.slice Ao old.length co) (λtp=>ex_load22 rfl ((fa_eval (by decide)).trans rfl) hob) ?_;refine hJm.opf lst rfl rfl (by kernel_rfl) rfl (w':=w) (v:=.slice An next.length cn) (λtp=>ex_load22 rfl ((fa_eval (by decide)).trans rfl) hxb) ?_;refine fa_gen (Jf:=λa=>JC _ _ _ _ _ _ _ ((bas 41 .deferred).at a _ :: _) _) λF hF=>?_
 have f0:F 0=.pointer (some ⟨pb,0,none⟩):=(hF 0).trans rfl;have f3:F 3=.pointer (some ⟨mb,0,none⟩):=(hF 3).trans rfl;have f4:F 4=.pointer (some ⟨nb,0,none⟩):=(hF 4).trans rfl;have f10:F 10=.slice Ao old.length co:=(hF 10).trans rfl;have f11:F 11=.slice An next.length cn:=(hF 11).trans rfl
 clear hF;refine hJm.callop rfl (wanted_plain rfl _) rfl (by kernel_rfl) (by kernel_rfl) ?_;rw[m2 ((fa_eval (by decide)).trans f10) ((fa_eval (by decide)).trans f11)];refine c15j hJm (R:=λJ2 p e w'=>e=.nilIface/\∃c2,J2=JC Tryz.prog FN K (Net.PutS (valQ .nilIface) L0) (Net.upd ν 2 (some c2)) 1 (λ_=>none)/\Rin (frzX K.X0 w) w' p patch) (λcfr cs h1 h2=>gen_jc hN ho hn hol hoc hnl hnc hco hlo hln h1 hP hXo hXn λc pv w' hR=>h2 _ _ _ _ (hJp c) ⟨rfl,c,rfl,by rw[hpt];exact hR⟩) (atOp_at _) ?_;rintro J2 p e w1 hJ2 ⟨rfl,c2,rfl,hR⟩;rw[finish_fa rfl rfl];refine hJ2.opf lst rfl rfl (by kernel_rfl) rfl (w':=w1) (v:=.tuple #[p,.nilIface]) (λtp=>ex_move rfl ((fa_eval (by decide)).trans rfl)) ?_;refine hJ2.opf lst rfl rfl (by kernel_rfl) rfl (w':=w1) (v:=p) (λtp=>ex_extract rfl ((fa_eval (by decide)).trans rfl) rfl) ?_;refine hJ2.opf lst rfl rfl (by kernel_rfl) rfl (w':=w1) (v:=.nilIface) (λtp=>ex_extract rfl ((fa_eval (by decide)).trans rfl) rfl) ?_;refine hJ2.opf lst rfl rfl (by kernel_rfl) rfl (w':=w1) (v:=p) (λtp=>ex_assign rfl ((fa_eval (by decide)).trans rfl)) ?_;refine hJ2.opf lst rfl rfl (by kernel_rfl) rfl (w':=w1) (v:=.nilIface) (λtp=>ex_assign rfl ((fa_eval (by decide)).trans rfl)) ?_;refine hJ2.region_end (hJ2.seq (hJ2.region ?_));obtain⟨F',hF'⟩:∃F':Nat->Value,F'=up (up (up (up (up (up F 12 (.tuple #[p,.nilIface])) 9 (.tuple #[p,.nilIface])) 13 p) 14 .nilIface) 5 p) 6 .nilIface:=⟨_,rfl⟩;have f0':F' 0=.pointer (some ⟨pb,0,none⟩):=by rw[hF'];exact f0
 have f3':F' 3=.pointer (some ⟨mb,0,none⟩):=by rw[hF'];exact f3
 have f4':F' 4=.pointer (some ⟨nb,0,none⟩):=by rw[hF'];exact f4
 have f5:F' 5=p:=by rw[hF'];rfl
 have f6:F' 6=.nilIface:=by rw[hF'];rfl
 refine fa_gen (Jf:=λa=>JC _ _ _ _ _ _ _ ((bas 41 .deferred).at a _ :: _) _) λF2 hF2=>?_
 have e2:F2=F':=by rw[hF'];exact funext hF2
 subst e2;clear hF' hF2 f0 f3 f4 f10 f11;have f0:=f0';have f3:=f3';have f4:=f4';clear f0' f3' f4';have hk1:∀a v,w.cell? a=some v->w1.cell? a=some v:=λa v h=>cell_keep hR.old (frzX_cell h)
 have hpb1:=hk1 _ _ hpb;have hmb1:=hk1 _ _ hmb;have hnb1:=hk1 _ _ hnb;have hG1:Tryz.prog.globals.size<=w1.heap.size:=by have:=hR.size;rw[frzX_size] at this;omega
 have hrow:=hR.own;clear hpb hob hxb hmb hnb ho hn hP hXo hXn hlo hln hR hk1;refine hJ2.opf lst rfl rfl (by kernel_rfl) rfl (w':=w1) (v:=.chan (some c1)) (λtp=>ex_load82 rfl ((fa_eval (by decide)).trans f3) hmb1) ?_;refine hJ2.opf lst rfl rfl (by kernel_rfl) rfl (w':=w1) (v:=.nilIface) (λtp=>ex_move rfl ((fa_eval (by decide)).trans f6)) ?_;refine jc_put_at (C1:=Net.SndS 0 L0) (ch:=1) (c:=c1) rfl rfl rfl rfl (by kernel_rfl) (by kernel_rfl) ((fa_eval (by decide)).trans rfl) ((fa_eval (by decide)).trans rfl) ((Net.upd_ne _ _ (by decide)).trans hν1) (by rw[hN.R];rfl) (by rw[hN.cap];rfl) InX.nilIface (λk hk=>.base ⟨_,k,rfl,rfl,hk⟩) ?_;have hJs:∀lp,Clo Tryz.prog FN (JC Tryz.prog FN K (Net.SndS 0 L0) (Net.upd ν 2 (some c2)) 1 lp):=λlp=>sndS_clo hN.hD hN.l0
 have hν:Net.upd ν 2 (some c2) 0=some c0:=(Net.upd_ne _ _ (by decide)).trans hν0;generalize Net.upd ν 2 (some c2)=ν' at hJs hν ⊢;clear hJ2 hJp hJm;have hJ:=hJs (λ_=>none);refine hJ.region_end (hJ.seq (hJ.region ?_));refine hJ.opf lst rfl rfl (by kernel_rfl) rfl (w':=w1) (v:=p) (λtp=>ex_move rfl ((fa_eval (by decide)).trans f5)) ?_;refine hJ.opf lst rfl rfl (by kernel_rfl) rfl (w':=w1) (v:=.int .i64 (n:Int)) (λtp=>ex_load3 rfl ((fa_eval (by decide)).trans f4) hnb1 ⟨_,rfl⟩) ?_;refine fa_gen (Jf:=λa=>JC _ _ _ _ _ _ _ ((bas 41 .deferred).at a _ :: _) _) λF hF=>?_
 have g0:F 0=.pointer (some ⟨pb,0,none⟩):=(hF 0).trans f0;have g17:F 17=p:=(hF 17).trans rfl;have g18:F 18=.int .i64 (n:Int):=(hF 18).trans rfl;clear hF f0 f3 f4 f5 f6;refine hJ.callop rfl (wanted_plain rfl _) rfl (by kernel_rfl) (by kernel_rfl) ?_;rw[m2 ((fa_eval (by decide)).trans g17) ((fa_eval (by decide)).trans g18)];obtain⟨B,cp,rfl,hcp⟩:=hrow.slice;have hbx:=hrow.bytes rfl;have hplen:=patchG_len old next
 rw[←hpt] at hplen;obtain⟨pa,rfl⟩:∃pa,B=some pa:=by obtain⟨b,o,e,_⟩:=hbx 0 (by omega);exact⟨_,e⟩
 clear hrow g17 g18;refine pieces42 hJ (atOp_at _) ?_;rw[finish_fa rfl rfl];obtain⟨W2,hW2⟩:∃W2,W2=(w1.alloc (.cells #[.slice (some pa) patch.length cp] 22)).alloc (.cells #[.int .i64 (n:Int)] 3):=⟨_,rfl⟩;rw[←hW2];obtain⟨s2,c21,c22,k2⟩:=alloc2 hW2;have hpb2:=cell_keep k2 hpb1;have hbx2:Bytes W2 (some pa) patch:=hbx.keep λa _ hlt=>k2 _ hlt
 have hG2:Tryz.prog.globals.size<=W2.heap.size:=by omega
 clear hW2 hpb1 hmb1 hnb1 hbx k2 hG1;generalize hz1:w1.heap.size=z1 at c21 c22 s2 ⊢;clear hz1;refine fa_gen (Jf:=λa=>JC _ _ _ _ _ _ _ ((bas 41 .deferred).at a _ :: _) _) λF' hF'=>?_
 have f0:F' 0=.pointer (some ⟨pb,0,none⟩):=(hF' 0).trans g0;have f19:F' 19=bnd 56 #[.pointer (some ⟨z1+1,0,none⟩),.pointer (some ⟨z1,0,none⟩)]:=(hF' 19).trans rfl;clear hF' g0;refine hJ.region_end (hJ.block ?_);refine JC.enter' (f:=56) (t:=19) hN.hD (λF h=>.step F h) (sndS_inh hN.l0) ((fa_eval (by decide)).trans f19) (by kernel_rfl) λl1 r1 R1 lp1 hne1 _ _ hs1 hp1 hf1 ht1 hps1 ha1 hb1 hl1 hd1 _=>?_
 rw[show (#[yldV r1]++#[Value.pointer (some ⟨z1+1,0,none⟩),Value.pointer (some ⟨z1,0,none⟩)]:Array Value)=#[yldV r1,.pointer (some ⟨z1+1,0,none⟩),.pointer (some ⟨z1,0,none⟩)] from rfl,enter_fa _ _ 16 Tryz.func56 rfl rfl (by simp)];have hJ1:=hJs lp1;obtain⟨W3,hW3⟩:∃W3,W3=W2.alloc (.cells #[yldV r1] 25):=⟨_,rfl⟩;obtain⟨s3,c3,k3⟩:=alloc1 hW3;refine hJ1.seq (hJ1.region ?_);refine hJ1.opf lst rfl rfl (by kernel_rfl) rfl (w':=W3) (v:=.pointer (some ⟨W2.heap.size,0,none⟩)) (λtp=>by rw[hW3];exact ex_box25 rfl (fa_eval (by decide))) ?_;have c31:=cell_keep k3 c21;have c32:=cell_keep k3 c22;have hpb3:=cell_keep k3 hpb2;have hbx3:Bytes W3 (some pa) patch:=hbx2.keep λa _ hlt=>k3 _ hlt
 have hG3:Tryz.prog.globals.size<=W3.heap.size:=by omega
 clear hW3 k3 c21 c22 hpb2 hbx2;refine hJ1.region_end (hJ1.seq (hJ1.seq (hJ1.region ?_)));refine hJ1.opf lst rfl rfl (by kernel_rfl) rfl (w':=W3) (v:=.int .i64 (n:Int)) (λtp=>ex_load3 rfl ((fa_eval (by decide)).trans rfl) c32 ⟨_,rfl⟩) ?_;refine hJ1.opf lst rfl rfl (by kernel_rfl) rfl (w':=W3) (v:=.bool (decide ((n:Int)<1))) (λtp=>ex_lss rfl ((fa_eval (by decide)).trans rfl) rfl) ?_;have hd:decide ((n:Int)<1)=false:=by simp;omega
 rw[hd];refine hJ1.region_end (hJ1.cond ((fa_eval (by decide)).trans rfl) ?_);refine hJ1.skip (hJ1.seq (hJ1.region ?_));refine hJ1.opf lst rfl rfl (by kernel_rfl) rfl (w':=W3) (v:=.slice (some pa) patch.length cp) (λtp=>ex_load22 rfl ((fa_eval (by decide)).trans rfl) c31) ?_;refine hJ1.opf lst rfl rfl (by kernel_rfl) rfl (w':=W3) (v:=.int .i64 (n:Int)) (λtp=>ex_load3 rfl ((fa_eval (by decide)).trans rfl) c32 ⟨_,rfl⟩) ?_;refine fa_gen (Jf:=λa=>JC _ _ _ _ _ _ _ ((bas 56 .normal).at a _ :: _) _) λG hGf=>?_
 have g3:G 3=.pointer (some ⟨W2.heap.size,0,none⟩):=(hGf 3).trans rfl;have g7:G 7=.slice (some pa) patch.length cp:=(hGf 7).trans rfl;have g8:G 8=.int .i64 (n:Int):=(hGf 8).trans rfl;clear hGf;refine hJ1.callop rfl (wanted_plain rfl _) rfl (by kernel_rfl) (by kernel_rfl) ?_;rw[m2 ((fa_eval (by decide)).trans g7) ((fa_eval (by decide)).trans g8)];refine chunk57 hJ1 hn1 (by omega) (atOp_at _) ?_;rw[finish_fa rfl rfl];obtain⟨W4,hW4⟩:∃W4,W4=(W3.alloc (.cells #[.slice (some pa) patch.length cp] 22)).alloc (.cells #[.int .i64 (n:Int)] 3):=⟨_,rfl⟩;rw[←hW4];obtain⟨s4,c41,c42,k4⟩:=alloc2 hW4;have hSW:SW W4 pb W3.heap.size (W3.heap.size+1) W2.heap.size pa cp c0 r1 n patch:=⟨cell_keep k4 hpb3,c41,c42,cell_keep k4 c3,hbx3.keep λa _ hlt=>k4 _ hlt⟩;have hG4:Tryz.prog.globals.size<=W4.heap.size:=by omega
 clear hW4 k4 c41 c42 c31 c32 c3 hpb3 hbx3 s2 s3 s4 hG2 hG3;generalize W3.heap.size=sb at hSW ⊢;generalize W2.heap.size=yb at hSW g3 ⊢;refine fa_gen (Jf:=λa=>JC _ _ _ _ _ _ _ ((bas 56 .normal).at a _ :: _) _) λG' hGf=>?_
 have g3':G' 3=.pointer (some ⟨yb,0,none⟩):=(hGf 3).trans g3;have g9:G' 9=bnd 67 #[.pointer (some ⟨sb,0,none⟩),.pointer (some ⟨sb+1,0,none⟩)]:=(hGf 9).trans rfl;clear hGf g3 g7 g8;refine hJ1.region_end (hJ1.block ?_);refine JC.enter' (f:=67) (t:=9) hN.hD (λF h=>.step F h) (sndS_inh hN.l0) ((fa_eval (by decide)).trans g9) (by kernel_rfl) λl2 r2 R2 lp2 hne2 hfl hfr hs2 hp2 hf2 ht2 hps2 ha2 hb2 hl2 hd2 hsame=>?_
 rw[show (#[yldV r2]++#[Value.pointer (some ⟨sb,0,none⟩),Value.pointer (some ⟨sb+1,0,none⟩)]:Array Value)=#[yldV r2,.pointer (some ⟨sb,0,none⟩),.pointer (some ⟨sb+1,0,none⟩)] from rfl,enter_fa _ _ 31 Tryz.func67 rfl rfl (by simp)];have n1:l1≠l2:=λe=>by rw[e,hfl] at hd1;cases hd1
 have n2:l1≠r2:=λe=>by rw[e,hfr] at hd1;cases hd1
 have n3:r1≠l2:=λe=>by rw[e,hfl] at hl1;cases hl1
 have n4:r1≠r2:=λe=>by rw[e,hfr] at hl1;cases hl1
 have hl1':lp2 r1=some (.loop R1):=(hsame r1 n3 n4).trans hl1;have hd1':lp2 l1=some (.deferred (some [])):=(hsame l1 n1 n2).trans hd1;clear hsame hfl hfr hl1 hd1;have hJ2:=hJs lp2;refine hJ2.seq (hJ2.region ?_);refine hJ2.opf lst rfl rfl (by kernel_rfl) rfl (w':=W4) (v:=.int .i64 0) (λtp=>ex_assign (x:=.const (.int .i64 0)) rfl rfl) ?_;refine hJ2.region_end (hJ2.block (hJ2.loop ?_));refine fa_gen (Jf:=λa=>JC _ _ _ _ _ _ _ ((bas 67 .normal).at a _ :: _) _) λH hH=>?_
 have h0:H 0=yldV r2:=(hH 0).trans rfl;have h1:H 1=.pointer (some ⟨sb,0,none⟩):=(hH 1).trans rfl;have h2:H 2=.pointer (some ⟨sb+1,0,none⟩):=(hH 2).trans rfl;have h4:H 4=.int .i64 ((0:Nat):Int):=(hH 4).trans rfl;clear hH;have hJL:∀(f i:Nat) lp,Clo Tryz.prog FN (JC Tryz.prog FN K (Net.SndS 0 ((pcs n f (patch.drop i)).map rowQ)) ν' 1 lp):=λf i lp=>sndS_clo hN.hD (pcs_inh hn1 f _ (by rw[List.length_drop];simp only[maxLen];omega))
 obtain⟨i,hi⟩:∃i:Nat,i=0:=⟨_,rfl⟩;obtain⟨f,hf⟩:∃f:Nat,f=patch.length:=⟨_,rfl⟩;have eL:L0=(pcs n f (patch.drop i)).map rowQ:=by rw[hL0,hi,hf,List.drop_zero,hpt]
 have hff:patch.length-i<=f:=by omega
 have hib:i<=patch.length+100:=by omega
 rw[←hi] at h4;rw[eL];clear hL0 hi hf eL hJ hJ1 hJ2 hJs hpt f19 g9;generalize hmz:patch.length-i=m;induction m using Nat.strongRecOn generalizing i f H lp2 W4 with
 | _ m ih=>
  have hJ:=hJL f i lp2;refine hJ.seq (hJ.seq (hJ.region ?_));refine hJ.opf lst rfl rfl (by kernel_rfl) rfl (w':=W4) (v:=.int .i64 (i:Int)) (λtp=>ex_move rfl ((fa_eval (by decide)).trans h4)) ?_;refine hJ.opf lst rfl rfl (by kernel_rfl) rfl (w':=W4) (v:=.slice (some pa) patch.length cp) (λtp=>ex_load22 rfl ((fa_eval (by decide)).trans h1) hSW.hs) ?_;refine hJ.opf lst rfl rfl (by kernel_rfl) rfl (w':=W4) (v:=.int .i64 (patch.length:Int)) (λtp=>ex_len (A:=some pa) (c:=cp) rfl ((fa_eval (by decide)).trans rfl)) ?_;refine hJ.opf lst rfl rfl (by kernel_rfl) rfl (w':=W4) (v:=.bool (decide ((i:Int)<(patch.length:Int)))) (λtp=>ex_lss rfl ((fa_eval (by decide)).trans rfl) ((fa_eval (by decide)).trans rfl)) ?_;refine hJ.region_end (hJ.cond ((fa_eval (by decide)).trans rfl) ?_);by_cases hlt:i<patch.length
  ·have hd:decide ((i:Int)<(patch.length:Int))=true:=by simp;omega
   rw[hd];refine hJ.skip (hJ.seq (hJ.block (hJ.seq ?_)));refine fa_gen (Jf:=λa=>JC _ _ _ _ _ _ _ ((bas 67 .normal).at a _ :: _) _) λH1 hH1=>?_
   have a0:H1 0=yldV r2:=(hH1 0).trans h0;have a1:H1 1=.pointer (some ⟨sb,0,none⟩):=(hH1 1).trans h1;have a2:H1 2=.pointer (some ⟨sb+1,0,none⟩):=(hH1 2).trans h2;have a4:H1 4=.int .i64 (i:Int):=(hH1 4).trans h4;clear hH1;have hcellW:∀(W:World) (a:Addr),W.heap=W4.heap->W.cell? a=W4.cell? a:=λW a hW=>World.cell?_of_block (by rw[hW])
   refine hJ.drawn lst hm_ (m:=6) (val:=λj=>#[Value.int .i64 (n:Int),.slice (some pa) patch.length cp,.int .i64 (i:Int),.slice (if cp=i then some pa else Option.map (λp=>p.add i) (some pa)) (patch.length-i) (cp-i),.int .i64 ((patch.length-i:Nat):Int),.int .i64 (min (n:Int) ((patch.length-i:Nat):Int))].getD j undef) (d:=λj=>#[13,14,15,16,17,18].getD j 0) (pr:=λj=>#[[],[],[],[1,2],[3],[0,4],[5]].getD j []) (ylds_of (by kernel_rfl) (λj hj=>?_) (by decide) (λL q1 q2=>?_)) (λg w' hw hg=>?_)
   ·have hj6:j=0\/j=1\/j=2\/j=3\/j=4\/j=5:=by omega
    rcases hj6 with rfl|rfl|rfl|rfl|rfl|rfl
    ·exact⟨_,rfl,rfl,by kernel_rfl,rfl,λg hp hx W hW=>ex_load3 rfl ((fa_eval (by decide)).trans ((hx 2 (by decide)).trans a2)) ((hcellW W _ hW).trans hSW.hn) ⟨_,rfl⟩⟩
    ·exact⟨_,rfl,rfl,by kernel_rfl,rfl,λg hp hx W hW=>ex_load22 rfl ((fa_eval (by decide)).trans ((hx 1 (by decide)).trans a1)) ((hcellW W _ hW).trans hSW.hs)⟩
    ·exact⟨_,rfl,rfl,by kernel_rfl,rfl,λg hp hx W hW=>ex_move rfl ((fa_eval (by decide)).trans ((hx 4 (by decide)).trans a4))⟩
    ·exact⟨_,rfl,rfl,by kernel_rfl,rfl,λg hp hx W hW=>ex_from (y:=.tmp 15) (z:=.tmp 15) rfl ((fa_eval (by decide)).trans (hp 1 (by decide))) ((fa_eval (by decide)).trans (hp 2 (by decide))) (by omega) hcp⟩
    ·exact⟨_,rfl,rfl,by kernel_rfl,rfl,λg hp hx W hW=>ex_len rfl ((fa_eval (by decide)).trans (hp 3 (by decide)))⟩
    ·exact⟨_,rfl,rfl,by kernel_rfl,rfl,λg hp hx W hW=>ex_min rfl ((fa_eval (by decide)).trans (hp 0 (by decide))) ((fa_eval (by decide)).trans (hp 4 (by decide)))⟩
   ·have b5:=q2 5 (by decide);have b0:=q1 5 (by decide) b5 0 (by decide);have b4:=q1 5 (by decide) b5 4 (by decide);have b3:=q1 4 (by decide) b4 3 (by decide);have b1:=q1 3 (by decide) b3 1 (by decide);have b2:=q1 3 (by decide) b3 2 (by decide);intro j hj;have hj6:j=0\/j=1\/j=2\/j=3\/j=4\/j=5:=by omega
    rcases hj6 with rfl | rfl | rfl | rfl | rfl | rfl<;>assumption
   obtain⟨e,he⟩:∃e:Nat,min (n:Int) ((patch.length-i:Nat):Int)=(e:Int):=⟨min n (patch.length-i),by omega⟩;have heq:e=min n (patch.length-i):=by omega
   have q0:g 0=yldV r2:=(hg 0).trans a0;have q1:g 1=.pointer (some ⟨sb,0,none⟩):=(hg 1).trans a1;have q2:g 2=.pointer (some ⟨sb+1,0,none⟩):=(hg 2).trans a2;have q4:g 4=.int .i64 (i:Int):=(hg 4).trans a4;have q18:g 18=.int .i64 (e:Int):=((hg 18).trans (show _=Value.int .i64 (min (n:Int) ((patch.length-i:Nat):Int)) from rfl)).trans (by rw[he]);clear hg a0 a1 a2 a4;have hSW:=hSW.old (w':=w') λa v h=>(hcellW w' a hw).trans h
   have hG4:Tryz.prog.globals.size<=w'.heap.size:=by rw[hw];exact hG4
   clear hcellW hw;refine hJ.opf lst rfl rfl (by kernel_rfl) rfl (w':=w') (v:=.int .i64 (e:Int)) (λtp=>ex_assign rfl ((fa_eval (by decide)).trans q18)) ?_;refine hJ.region_end (hJ.seq (hJ.region ?_));refine fa_gen (Jf:=λa=>JC _ _ _ _ _ _ _ ((bas 67 .normal).at a _ :: _) _) λH2 hH2=>?_
   have a0:H2 0=yldV r2:=(hH2 0).trans q0;have a1:H2 1=.pointer (some ⟨sb,0,none⟩):=(hH2 1).trans q1;have a2:H2 2=.pointer (some ⟨sb+1,0,none⟩):=(hH2 2).trans q2;have a4:H2 4=.int .i64 (i:Int):=(hH2 4).trans q4;have a5:H2 5=.int .i64 (e:Int):=(hH2 5).trans rfl;clear hH2 q0 q1 q2 q4 q18;have hpe:Value.slice (if i+e=i then some pa else Option.map (λp=>p.add i) (some pa)) (i+e-i) (i+e-i)=.slice (some (pa.add i)) e e:=by
    rw[if_neg (by omega),Nat.add_sub_cancel_left];rfl
   refine hJ.opf lst rfl rfl (by kernel_rfl) rfl (w':=w') (v:=yldV r2) (λtp=>ex_move rfl ((fa_eval (by decide)).trans a0)) ?_;refine hJ.opf lst rfl rfl (by kernel_rfl) rfl (w':=w') (v:=.slice (some pa) patch.length cp) (λtp=>ex_load22 rfl ((fa_eval (by decide)).trans a1) hSW.hs) ?_;refine hJ.opf lst rfl rfl (by kernel_rfl) rfl (w':=w') (v:=.int .i64 (i:Int)) (λtp=>ex_move rfl ((fa_eval (by decide)).trans a4)) ?_;refine hJ.opf lst rfl rfl (by kernel_rfl) rfl (w':=w') (v:=.int .i64 (i:Int)) (λtp=>ex_move rfl ((fa_eval (by decide)).trans a4)) ?_;refine hJ.opf lst rfl rfl (by kernel_rfl) rfl (w':=w') (v:=.int .i64 (e:Int)) (λtp=>ex_move rfl ((fa_eval (by decide)).trans a5)) ?_;refine hJ.opf lst rfl rfl (by kernel_rfl) rfl (w':=w') (v:=.int .i64 ((i+e:Nat):Int)) (λtp=>ex_addN rfl ((fa_eval (by decide)).trans rfl) ((fa_eval (by decide)).trans rfl) (by omega)) ?_;refine hJ.opf lst rfl rfl (by kernel_rfl) rfl (w':=w') (v:=.int .i64 (i:Int)) (λtp=>ex_move rfl ((fa_eval (by decide)).trans a4)) ?_;refine hJ.opf lst rfl rfl (by kernel_rfl) rfl (w':=w') (v:=.int .i64 (e:Int)) (λtp=>ex_move rfl ((fa_eval (by decide)).trans a5)) ?_;refine hJ.opf lst rfl rfl (by kernel_rfl) rfl (w':=w') (v:=.int .i64 ((i+e:Nat):Int)) (λtp=>ex_addN rfl ((fa_eval (by decide)).trans rfl) ((fa_eval (by decide)).trans rfl) (by omega)) ?_;refine fa_gen (Jf:=λa=>JC _ _ _ _ _ _ _ ((bas 67 .normal).at a _ :: _) _) λH3 hH3=>?_
   have b0:H3 0=yldV r2:=(hH3 0).trans a0;have b1:H3 1=.pointer (some ⟨sb,0,none⟩):=(hH3 1).trans a1;have b2:H3 2=.pointer (some ⟨sb+1,0,none⟩):=(hH3 2).trans a2;have b4:H3 4=.int .i64 (i:Int):=(hH3 4).trans a4;have b19:H3 19=yldV r2:=(hH3 19).trans rfl;have b20:H3 20=.slice (some pa) patch.length cp:=(hH3 20).trans rfl;have b21:H3 21=.int .i64 (i:Int):=(hH3 21).trans rfl;have b24:H3 24=.int .i64 ((i+e:Nat):Int):=(hH3 24).trans rfl;have b27:H3 27=.int .i64 ((i+e:Nat):Int):=(hH3 27).trans rfl;clear hH3 a0 a1 a2 a4 a5;refine hJ.opf lst rfl rfl (by kernel_rfl) rfl (w':=w') (v:=.slice (if i+e=i then some pa else Option.map (λp=>p.add i) (some pa)) (i+e-i) (i+e-i)) (λtp=>ex_part3 rfl ((fa_eval (by decide)).trans b20) ((fa_eval (by decide)).trans b21) ((fa_eval (by decide)).trans b24) ((fa_eval (by decide)).trans b27) (by omega) (Nat.le_refl _) (by omega)) ?_;rw[hpe];clear hpe;have he0:0<e:=by omega
   have hpb:=slice_bytes (at_:=i) (n:=e) hSW.hx (by omega) hcp;rw[if_neg (by omega)] at hpb;have hpb:Bytes w' (some (pa.add i)) ((patch.drop i).take e):=hpb;have hple:((patch.drop i).take e).length=e:=by simp only[List.length_take,List.length_drop];omega
   refine JC.yield' (r:=R2) (l:=r2) hN.hD (λF h=>.step F h) (fr:=(bas 67 .normal).at (fa 31 (up H3 28 (.slice (some (pa.add i)) e e)) []) _) rfl rfl rfl rfl rfl ((Frame.eval_at _ _ _ _).trans ((fa_eval (by decide)).trans ((up_ne (by decide)).trans b19))) (by kernel_rfl) ((Frame.eval_at _ _ _ _).trans ((fa_eval (by decide)).trans (up_same _ _ _))) hl2 hf2 ht2 hps2 ha2 hb2 ?_;refine hJ.rregion ?_;refine hJ.rop lst rfl rfl (by kernel_rfl) rfl (λc h=>by cases h) (w':=w') (v:=.slice (some (pa.add i)) e e) (λtp=>ex_assign rfl ((fa_eval (by decide)).trans rfl)) ?_;refine hJ.rregion_end (JC.begin' hN.hD (λF h=>.step F h) hl2 hs2 λlp3 hl3 hsm3=>?_);have hJ3:=hJL f i lp3;refine hJ3.rblock (hJ3.rseq ?_);refine fa_gen (Jf:=λa=>JC _ _ _ _ _ _ _ (rfr r2 56 a _ :: _) _) λG1 hG1=>?_
   have e3:G1 3=.pointer (some ⟨yb,0,none⟩):=(hG1 3).trans g3';have e4:G1 4=.slice (some (pa.add i)) e e:=(hG1 4).trans rfl;clear hG1;refine Clo.rdraw5 hJ3 lst hm_ (g:=38) (R:=λv W=>∃gb CC,v=.slice (some ⟨gb,0,none⟩) e CC.size/\w'.heap.size<=gb/\W.heap[gb]? = some (.cells CC 5 (0,0))/\(∀x∈CC.toList,∃n,x=.int .u8 n)/\CC.toList.take e=((patch.drop i).take e).map enc/\e<=CC.size/\CC.size<=maxLen/\(∀b,b<w'.heap.size->W.heap[b]? = w'.heap[b]?)/\w'.heap.size<=W.heap.size)
    (v0:=yldV r1) (v1:=.slice (some (pa.add i)) e e) (d0:=11) (d1:=12) (d2:=13) rfl (by kernel_rfl) (by kernel_rfl) (by kernel_rfl) (by kernel_rfl) (by kernel_rfl) (by kernel_rfl) (by kernel_rfl) (by decide) (by decide)
    rfl rfl (by kernel_rfl) rfl (λc h=>by cases h) (λq W hq hW=>ex_load25 rfl ((fa_eval (by decide)).trans ((hq 3 (by decide) (by decide) (by decide)).trans e3)) ?_)
    rfl rfl (by kernel_rfl) rfl (λc h=>by cases h) (λq W hq=>ex_move rfl ((fa_eval (by decide)).trans ((hq 4 (by decide) (by decide) (by decide)).trans e4)))
    rfl rfl rfl (by kernel_rfl) (by kernel_rfl) rfl (λW hW=>?_) (λq v W hW q11 q13 qt=>?_)
   ·rcases hW with hW | ⟨v,W',⟨gb,CC,_,_,_,_,_,_,_,hk,_⟩,hW⟩
    ·exact(World.cell?_of_block (by rw[hW])).trans hSW.hy
    ·exact(World.cell?_of_block (by rw[hW])).trans (cell_keep hk hSW.hy)
   ·have hb:Bytes W (some (pa.add i)) ((patch.drop i).take e):=hpb.keep λa _ _=>by rw[hW]
    refine(clone_full W (pa.add i) e e _ hple he0 (by omega) hb).mono ?_;rintro x W' ⟨gb,CC,rfl,c1,c2,c3,c4,c5,c6,c7⟩;exact⟨_,rfl,gb,CC,rfl,by rw[←hW];exact c1,c2,c3,c4,c5,c6,λb hb=>(c7.block b (by rw[hW];exact hb)).trans (by rw[hW]),by rw[←hW];exact c7.size⟩
   obtain⟨W',⟨gb,CC,rfl,c1,c2,c3,c4,c5,c6,c7,c8⟩,hW⟩:=hW;rw[←hW] at c2 c8;replace c7:∀b,b<w'.heap.size->W.heap[b]? = w'.heap[b]?:=λb hb=>by rw[hW];exact c7 b hb
   clear hW;have hSWW:=hSW.old (w':=W) λa v h=>cell_keep c7 h
   have hl1'':lp3 r1=some (.loop R1):=(hsm3 r1 n4).trans hl1';obtain⟨f',rfl⟩:∃f',f=f'+1:=⟨f-1,by omega⟩;have etk:(patch.drop i).take n=(patch.drop i).take e:=by
    by_cases hc:n<=patch.length-i
    ·rw[show e=n by omega]
    ·rw[List.take_of_length_le (by rw[List.length_drop];omega),List.take_of_length_le (by rw[List.length_drop];omega)]
   have eP:(pcs n (f'+1) (patch.drop i)).map rowQ=rowQ ((patch.drop i).take e) :: (pcs n f' (patch.drop (i+n))).map rowQ:=by
    have hne:patch.drop i≠[]:=λh=>by have:=congrArg List.length h;rw[List.length_drop] at this;simp at this;omega
    conv=>lhs;unfold pcs
    rw[if_neg hne,etk,List.drop_drop,List.map_cons]
   refine JC.yield' (r:=R1) (l:=r1) hN.hD (λF h=>.step F h) (fr:=rfr r2 56 (fa 16 q []) _) rfl rfl rfl rfl rfl ((rfr_eval _ _ _).trans ((fa_eval (by decide)).trans q11)) (by kernel_rfl) ((rfr_eval _ _ _).trans ((fa_eval (by decide)).trans q13)) hl1'' hf1 ht1 hps1 ha1 hb1 ?_;refine hJ3.rregion ?_;refine hJ3.rop lst rfl rfl (by kernel_rfl) rfl (λc h=>by cases h) (w':=W) (v:=.slice (some ⟨gb,0,none⟩) e CC.size) (λtp=>ex_assign rfl ((fa_eval (by decide)).trans rfl)) ?_;refine hJ3.rregion_end (JC.begin' hN.hD (λF h=>.step F h) hl1'' hs1 λlp4 hl4 hsm4=>?_);have hJ4:=hJL (f'+1) i lp4;refine hJ4.rblock (hJ4.rregion ?_);refine hJ4.rop lst rfl rfl (by kernel_rfl) rfl (λc h=>by cases h) (w':=W) (v:=.chan (some c0)) (λtp=>ex_load81 rfl ((fa_eval (by decide)).trans f0) hSWW.hp) ?_;refine hJ4.rop lst rfl rfl (by kernel_rfl) rfl (λc h=>by cases h) (w':=W) (v:=.slice (some ⟨gb,0,none⟩) e CC.size) (λtp=>ex_move rfl ((fa_eval (by decide)).trans rfl)) ?_;rw[eP];refine jc_row_r (C1:=Net.SndS 0 ((pcs n f' (patch.drop (i+n))).map rowQ)) (ch:=0) (c:=c0) (g:=gb) (CC:=CC) rfl rfl rfl rfl (by kernel_rfl) (by kernel_rfl) ((fa_eval (by decide)).trans rfl) ((fa_eval (by decide)).trans rfl) hν (by rw[hN.R];rfl) (by rw[hN.cap];rfl) (by omega) (by omega) (by omega) c2 c3 (λk hk=>.send (Q:=rowQ ((patch.drop i).take e)) ⟨CC,by rw[hple],c3,by rw[hple];exact c4,by rw[hple];exact c5,c6,by rw[hple];exact he0⟩ hk) ?_;have hSW5:=hSWW.old (w':=frzX (λb=>b=gb) W) λa v h=>frzX_cell h
   have hG5:Tryz.prog.globals.size<=(frzX (λb=>b=gb) W).heap.size:=by rw[frzX_size];omega
   generalize frzX (λb=>b=gb) W=W5 at hSW5 hG5 ⊢;have hJ5:=hJL f' (i+n) lp4;refine hJ5.rregion_end (hJ5.rinBlock (JC.end' hN.hD (λF h=>.step F h) hl4 hs1 hp1 rfr_atOp λlp5 hl5 hsm5=>?_));rw[rfr_finish_fa rfl rfl];have hJ6:=hJL f' (i+n) lp5;refine hJ6.rop lst rfl rfl (by kernel_rfl) rfl (λc h=>by cases h) (w':=W5) (v:=.bool (!true)) (λtp=>ex_not rfl ((fa_eval (by decide)).trans rfl)) ?_;refine hJ6.rregion_end (hJ6.rcond (v:=false) ((fa_eval (by decide)).trans rfl) (hJ6.rskip (hJ6.rinBlock ?_)));have hl5r2:lp5 r2=some (.loop { R2 with state:=.busy }):=(hsm5 r2 (Ne.symm n4)).trans ((hsm4 r2 (Ne.symm n4)).trans hl3);refine JC.end' hN.hD (λF h=>.step F h) hl5r2 hs2 hp2 (atOp_at _) λlp6 hl6 hsm6=>?_
   rw[finish_fa rfl rfl];have hJ7:=hJL f' (i+n) lp6;refine hJ7.opf lst rfl rfl (by kernel_rfl) rfl (w':=W5) (v:=.bool (!true)) (λtp=>ex_not rfl ((fa_eval (by decide)).trans rfl)) ?_;refine hJ7.region_end (hJ7.cond (v:=false) ((fa_eval (by decide)).trans rfl) (hJ7.skip (hJ7.inBlock (hJ7.region ?_))));refine hJ7.opf lst rfl rfl (by kernel_rfl) rfl (w':=W5) (v:=.int .i64 (i:Int)) (λtp=>ex_move rfl ((fa_eval (by decide)).trans b4)) ?_;refine hJ7.opf lst rfl rfl (by kernel_rfl) rfl (w':=W5) (v:=.int .i64 (n:Int)) (λtp=>ex_load3 rfl ((fa_eval (by decide)).trans b2) hSW5.hn ⟨_,rfl⟩) ?_;refine hJ7.opf lst rfl rfl (by kernel_rfl) rfl (w':=W5) (v:=.int .i64 ((i+n:Nat):Int)) (λtp=>ex_addN rfl ((fa_eval (by decide)).trans rfl) ((fa_eval (by decide)).trans rfl) (by omega)) ?_;refine hJ7.opf lst rfl rfl (by kernel_rfl) rfl (w':=W5) (v:=.int .i64 ((i+n:Nat):Int)) (λtp=>ex_assign rfl ((fa_eval (by decide)).trans rfl)) ?_;refine hJ7.region_end (hJ7.inLoop ?_);refine fa_gen (Jf:=λa=>JC _ _ _ _ _ _ _ ((bas 67 .normal).at a _ :: _) _) λH9 hH9=>?_
   have k2:∀x,x≠r1->x≠r2->lp6 x=lp2 x:=λx h1 h2=>(hsm6 x h2).trans ((hsm5 x h1).trans ((hsm4 x h1).trans (hsm3 x h2)))
   exact ih (patch.length-(i+n)) (by omega) W5 hG5 hSW5 lp6 hl6 ((k2 l2 (Ne.symm n3) hne2).trans hd2) ((hsm6 r1 n4).trans hl5) ((k2 l1 hne1 n2).trans hd1') H9 ((hH9 0).trans b0) ((hH9 1).trans b1) ((hH9 2).trans b2) (i+n) ((hH9 4).trans rfl) f' (by omega) (by omega) rfl
  ·have hd:decide ((i:Int)<(patch.length:Int))=false:=by simp;omega
   rw[hd];have eL:(pcs n f (patch.drop i)).map rowQ=[]:=by rw[List.drop_of_length_le (by omega),pcs_nil];rfl
   refine hJ.exit rfl (hJ.end_ (hJ.leaveR rfl rfl rfl Tryz.func67 (by kernel_rfl) ?_));rw[eL];have hJ0:∀lp,Clo Tryz.prog FN (JC Tryz.prog FN K (Net.SndS 0 []) ν' 1 lp):=λlp=>sndS_clo hN.hD (λQ hQ=>by cases hQ)
   refine JC.over' hN.hD (λF h=>.step F h) hl2 hs2 hp2 λlp3 hsm3=>?_
   refine(hJ0 lp3).inBlock ((hJ0 lp3).end_ (JC.take' hN.hD (λF h=>.step F h) rfl rfl ((hsm3 l2 hne2).trans hd2) λlp4 hsm4=>?_));refine(hJ0 lp4).leaveR rfl rfl rfl Tryz.func56 (by kernel_rfl) ?_;refine JC.over' hN.hD (λF h=>.step F h) ((hsm4 r1 n3).trans ((hsm3 r1 n4).trans hl1')) hs1 hp1 λlp5 hsm5=>?_
   refine(hJ0 lp5).inBlock ((hJ0 lp5).end_ (JC.take' hN.hD (λF h=>.step F h) rfl rfl ((hsm5 l1 hne1).trans ((hsm4 l1 n1).trans ((hsm3 l1 n2).trans hd1'))) λlp6 hsm6=>?_));exact jc_close (c:=c0) (C:=Net.SndS 0 []) .close (by rw[hN.R];rfl) (by decide) (by rw[hN.cap];rfl) hν (by simp) (simClose_at rfl rfl rfl Tryz.func41 (by kernel_rfl) (by kernel_rfl))
end Go.Proofs.YtkmgcggoemlaaaaGreatDoor
end
section
/- Single operations of Pipe; boxes. -/
namespace Go.Proofs.YtkmgcggoemlaaaaGreatDoor
open Go Go.Fw Go.Conc Go.RowKit Go.Fwm
section
variable {ρ:Operand->Value} {o:Oper} {W:World} {x y:Operand} {v:Value}
theorem info22:(Tryz.prog.info? 22).map (·.bytes)=some 24:=by kernel_rfl
theorem info27:(Tryz.prog.info? 27).map (·.bytes)=some 16:=by kernel_rfl
theorem ex_chan81 (ho:o.op=.makeChan 81 (.const (.int .i64 0)))(h0:ρ (.const (.int .i64 0))=.int .i64 0):(execOp ρ o).run Tryz.prog W=.ok (.value (.chan (some W.heap.size))) (W.alloc (.chan 0 #[] false 0 0 false))/\(execOp ρ o).events Tryz.prog W #[]=#[]:=by
 have hi:∃i,Tryz.prog.info? 22=some i/\i.bytes=24:=by
  have:=info22;cases h:Tryz.prog.info? 22 with
  | none=>rw[h] at this;cases this
  | some i=>rw[h] at this;exact⟨i,rfl,Option.some.inj this⟩
 obtain⟨i,hi,hb⟩:=hi;have hz:(i.bytes:Int)*((0:Nat):Int)<=281474976710544:=by omega
 have e1:(Instr.makeChan 81 (.int .i64 ((0:Nat):Int))).run Tryz.prog W=_:=Go.Conc.run_makeChan Tryz.underlying81 hi .i64 0 (by omega) hz;have e2:(Instr.makeChan 81 (.int .i64 ((0:Nat):Int))).events Tryz.prog W #[]=_:=Go.Conc.events_makeChan Tryz.underlying81 hi .i64 0 (by omega) hz #[];have e:(execOp ρ o)=(Instr.makeChan 81 (.int .i64 ((0:Nat):Int)) >>= λv=>pure (.value v)):=by
  unfold execOp;simp only[ho,h0];rfl
 refine⟨?_,?_⟩
 ·rw[e,Sem.run_bind,e1];rfl
 ·rw[e];simp only[Sem.events_bind,e1,e2];rfl
theorem ex_chan82 (ho:o.op=.makeChan 82 (.const (.int .i64 1)))(h0:ρ (.const (.int .i64 1))=.int .i64 1):(execOp ρ o).run Tryz.prog W=.ok (.value (.chan (some W.heap.size))) (W.alloc (.chan 1 #[] false 0 0 false))/\(execOp ρ o).events Tryz.prog W #[]=#[]:=by
 have hi:∃i,Tryz.prog.info? 27=some i/\i.bytes=16:=by
  have:=info27;cases h:Tryz.prog.info? 27 with
  | none=>rw[h] at this;cases this
  | some i=>rw[h] at this;exact⟨i,rfl,Option.some.inj this⟩
 obtain⟨i,hi,hb⟩:=hi;have hz:(i.bytes:Int)*((1:Nat):Int)<=281474976710544:=by omega
 have e1:(Instr.makeChan 82 (.int .i64 ((1:Nat):Int))).run Tryz.prog W=_:=Go.Conc.run_makeChan Tryz.underlying82 hi .i64 1 (by omega) hz;have e2:(Instr.makeChan 82 (.int .i64 ((1:Nat):Int))).events Tryz.prog W #[]=_:=Go.Conc.events_makeChan Tryz.underlying82 hi .i64 1 (by omega) hz #[];have e:(execOp ρ o)=(Instr.makeChan 82 (.int .i64 ((1:Nat):Int)) >>= λv=>pure (.value v)):=by
  unfold execOp;simp only[ho,h0];rfl
 refine⟨?_,?_⟩
 ·rw[e,Sem.run_bind,e1];rfl
 ·rw[e];simp only[Sem.events_bind,e1,e2];rfl
theorem ex_recv81 {c:Nat}(ho:o.op=.recv 81 x true)(hx:ρ x=.chan (some c)):(execOp ρ o).run Tryz.prog W=.ok (.comm #[rcase c (.slice none 0 0)] true (.recv true)) W/\(execOp ρ o).events Tryz.prog W #[]=#[]:=by
 refine⟨?_,?_⟩
 ·unfold execOp;simp only[ho,hx];go_simp;rfl
 ·unfold execOp;simp only[ho,hx];simp[run_underlying Tryz.underlying81]
theorem ex_recv82 {c:Nat}(ho:o.op=.recv 82 x false)(hx:ρ x=.chan (some c)):(execOp ρ o).run Tryz.prog W=.ok (.comm #[rcase c .nilIface] true (.recv false)) W/\(execOp ρ o).events Tryz.prog W #[]=#[]:=by
 refine⟨?_,?_⟩
 ·unfold execOp;simp only[ho,hx];go_simp;rfl
 ·unfold execOp;simp only[ho,hx];simp[run_underlying Tryz.underlying82]
theorem ex_alloc81 (ho:o.op=.alloc 81):(execOp ρ o).run Tryz.prog W=.ok (.value (.pointer (some ⟨W.heap.size,0,none⟩))) (W.alloc (.cells #[.chan none] 81)):=by
 unfold execOp;simp only[ho];go_simp
theorem ex_alloc82 (ho:o.op=.alloc 82):(execOp ρ o).run Tryz.prog W=.ok (.value (.pointer (some ⟨W.heap.size,0,none⟩))) (W.alloc (.cells #[.chan none] 82)):=by
 unfold execOp;simp only[ho];go_simp
theorem ex_store81 {a:Addr}{c:Nat}{u:Value}(ho:o.op=.store 81 x y)(hx:ρ x=.pointer (some a))(hy:ρ y=.chan (some c))(hc:W.cell? a=some u)(hf:W.frozen? a=false):(execOp ρ o).run Tryz.prog W=.ok .skip (W.setCell a (.chan (some c))):=by
 unfold execOp;simp only[ho,hx,hy];go_simp
theorem ex_store82 {a:Addr}{c:Nat}{u:Value}(ho:o.op=.store 82 x y)(hx:ρ x=.pointer (some a))(hy:ρ y=.chan (some c))(hc:W.cell? a=some u)(hf:W.frozen? a=false):(execOp ρ o).run Tryz.prog W=.ok .skip (W.setCell a (.chan (some c))):=by
 unfold execOp;simp only[ho,hx,hy];go_simp
end
theorem m5 {ρ:Operand->Value}{x y z u t:Operand}{a b c d e:Value}(h1:ρ x=a)(h2:ρ y=b)(h3:ρ z=c)(h4:ρ u=d)(h5:ρ t=e):(#[x,y,z,u,t]:Array Operand).map ρ=#[a,b,c,d,e]:=by simp[h1,h2,h3,h4,h5]
theorem box1 {w W:World}{v:Value}{t:TypeId}(hW:W=w.alloc (.cells #[v] t)):W.heap.size=w.heap.size+1/\W.heap[w.heap.size]? = some (.cells #[v] t (0,0))/\∀b,b<w.heap.size->W.heap[b]? = w.heap[b]?:=by
 subst hW;exact⟨by simp,heap_alloc_new w _,λb hb=>heap_alloc_old _ _ hb⟩
theorem setbox {w W:World}{g:Nat}{u v:Value}{t:TypeId}(h:w.heap[g]? = some (.cells #[u] t (0,0)))(hW:W=w.setCell ⟨g,0,none⟩ v):W.heap.size=w.heap.size/\W.heap[g]? = some (.cells #[v] t (0,0))/\∀b,b≠g->W.heap[b]? = w.heap[b]?:=by
 subst hW;refine⟨by simp[World.setCell],?_,λb hb=>Below.heap_setCell w ⟨g,0,none⟩ v b hb⟩;simp only[World.setCell,Array.getElem?_modify,if_pos,h,Option.map_some];simp
theorem box_cell {w:World}{g:Nat}{v:Value}{t:TypeId}{fr:Nat × Nat}(h:w.heap[g]? = some (.cells #[v] t fr)):w.cell? ⟨g,0,none⟩=some v:=by
 unfold World.cell?;rw[h];rfl
theorem box_free {w:World}{g:Nat}{v:Value}{t:TypeId}(h:w.heap[g]? = some (.cells #[v] t (0,0))):w.frozen? ⟨g,0,none⟩=false:=World.frozen_blk h 0
end Go.Proofs.YtkmgcggoemlaaaaGreatDoor
end
section
/- Several appliers beside each other. -/
namespace Go.Proofs.YtkmgcggoemlaaaaGreatDoor
open Go.RowKit Go.Fwm
section
variable {w w' w'':World} {G G':Nat->Prop} {pa pf bf be be':Nat} {a:Ap} {f:Fl}
end
structure Cr where
 pa:Nat
 pf:Nat
 bf:Nat
 be:Nat
 x:AF
section
variable {w w':World} {R R':Nat->Prop} {n:Nat} {c:Nat->Cr}
theorem ARep.aolt {G:Nat->Prop}{pa pf bf be:Nat}{a:Ap}{f:Fl}(h:ARep w G pa pf bf be a f)(b:Nat)(hb:AO pa pf bf be b):b<w.heap.size:=by
 obtain⟨vf,A,c,h1,_⟩:=h.blk;rcases hb with rfl|rfl|rfl|rfl
 ·exact h1.lt
 ·obtain⟨_,_,_,_,g1,_⟩:=h.fl.blk;exact g1.lt
 ·exact h.fl.fresh.lt
 ·exact h.fl.belt
end
end Go.Proofs.YtkmgcggoemlaaaaGreatDoor
end
section
/- Rows of a law's own, beside each other. -/
namespace Go.Proofs.YtkmgcggoemlaaaaGreatDoor
open Go.RowKit Go.Fwm
section
variable {w w':World} {L L':List Nat} {m:Nat} {E:Nat->TypeId} {V:Nat->Value} {X:Nat->List Value}
end
end Go.Proofs.YtkmgcggoemlaaaaGreatDoor
end
section
/- The start of a row whose arguments hold slices: what stands in their memory. -/
set_option maxRecDepth 100000
namespace Go.Proofs.YtkmgcggoemlaaaaGreatDoor
open Go Go.Fw Go.Conc Go.RowKit Go.Fwm

end Go.Proofs.YtkmgcggoemlaaaaGreatDoor
end
section
/- Arguments that hold slices: rows of bytes, of pieces, of turns. -/
set_option maxRecDepth 100000
namespace Go.Proofs.YtkmgcggoemlaaaaGreatDoor
open Go Go.Fw Go.Conc Go.RowKit Go.Fwm Go.ChangeShapes Go.WideShapes Go.ChangeAt

/- Arguments that are rows of bytes, and turns. -/

end Go.Proofs.YtkmgcggoemlaaaaGreatDoor
end
section
/- The law Turns: what lies there between two turns. -/
namespace Go.Proofs.YtkmgcggoemlaaaaGreatDoor
open Go Go.Fw Go.Conc Go.RowKit Go.Fwm
section
variable {w0 w w':World} {L M:List Nat} {n:Nat} {V:Nat->Value} {X:Nat->List Value} {c:Nat->Cr} {old new rest:Nat->List UInt8} {e:Nat->Bool} {ok:Nat->Prop}
end
end Go.Proofs.YtkmgcggoemlaaaaGreatDoor
end
section
/- The model: a patch that is cut off; one that goes on. -/
namespace Go.Fwm
open Go.Proofs.YtkmgcggoemlaaaaGreatDoor
theorem over_byte {x:AF}(hf:x.a.fault=.none)(hs:x.a.st=.over)(b:UInt8):(x.byte b).a.fault=.wrapped 6:=by
 unfold AF.byte;rw[if_neg (by rw[hf];simp)];unfold Ap.stepB;rw[hs];simp
theorem short_fed (f:Fl)(hw:f.wait<0)(h1:f.old.length<=4096)(h2:f.pages<=64)(new:List UInt8)(l:List Stp)(hl:Leads f.old new [] l)(hn:new.length<=f.pages*64)(k:Nat)(hk:k<(patchOf f.old new.length l).length) :
  (AF.feed { a:=Ap.init,f } ((patchOf f.old new.length l).take k)).a.fault=.none/\(f.apply ((patchOf f.old new.length l).take k)).fault=.errno 5:=by
 obtain⟨hI,hs⟩:=patch_fed f hw h1 h2 new l hl hn;obtain⟨b,rest,hd⟩:∃b rest,(patchOf f.old new.length l).drop k=b :: rest:=by
  cases hd:(patchOf f.old new.length l).drop k with
  | nil=>have:=congrArg List.length hd;simp at this;omega
  | cons b rest=>exact⟨b,rest,rfl⟩
 have e:AF.feed { a:=Ap.init,f } (patchOf f.old new.length l)=(AF.feed { a:=Ap.init,f } ((patchOf f.old new.length l).take k)).feed (b :: rest):=by
  rw[←feed_app,←hd,List.take_append_drop]
 have hS:=(init_stt f h1 h2).feed ((patchOf f.old new.length l).take k);have hnf:(AF.feed { a:=Ap.init,f } ((patchOf f.old new.length l).take k)).a.fault=.none:=by
  cases hS with
  | ok out h=>exact h.nofault
  | bad e' hf h=>
   exfalso;have h3:=hI.nofault;have hne:(AF.feed { a:=Ap.init,f } ((patchOf f.old new.length l).take k)).a.fault≠.none:=by rw[hf];split<;>simp
   rw[e,feed_bad hne] at h3;exact hne h3
 refine⟨hnf,?_⟩;cases hS.finish with
 | done out h hs' hf ha hfl hw'=>
  exfalso;have h6:=over_byte hnf hs' b;have h3:=hI.nofault;rw[e,feed_cons,feed_bad (by rw[h6];simp),h6] at h3;cases h3
 | short out h hs' hf ha hfl=>exact hf
 | pow out h hw' hw0 hf ha hfl=>omega
 | bad e' hx h hf hy=>exfalso;rw[hnf] at hx;split at hx<;>cases hx
end Go.Fwm
namespace Go.Proofs.YtkmgcggoemlaaaaGreatDoor
open Go.Fwm
theorem init_le (old:List UInt8)(h:old.length<=4096)(pages:Int):(Fl.init old pages).pages<=64:=by rw[init_pages];exact newPages_le old h pages
end Go.Proofs.YtkmgcggoemlaaaaGreatDoor
end
section
/- The model: when the power is cut: a call answers so, or does what it does with power. -/
namespace Go.Fwm

/- The model: what is done to the new slot, whatever is fed; a patch that is right, when the power may be cut. -/

end Go.Fwm
end
section
/- The law Turns: what a patch does, fed in part or whole. -/
namespace Go.Proofs.YtkmgcggoemlaaaaGreatDoor
open Go Go.Fw Go.Conc Go.RowKit Go.Fwm
theorem fit64 (old:List UInt8)(h:old.length<=4096):4096<=newPages old 64*64:=by
 unfold newPages;omega
section
variable {old new:List UInt8} (ho:old.length<=4096) (hn:new.length<=4096)
include ho hn
theorem whole_ap:((Fl.init old 64).apply (patchG (lgOf old) old new)).fault=.none/\((Fl.init old 64).apply (patchG (lgOf old) old new)).x.f.committed=true/\((Fl.init old 64).apply (patchG (lgOf old) old new)).x.f.length=new.length/\((Fl.init old 64).apply (patchG (lgOf old) old new)).x.f.fresh.take new.length=new/\((Fl.init old 64).apply (patchG (lgOf old) old new)).x.f.old=old:=by
 have h:=patch_applied (Fl.init old 64) (by show (-1:Int)<0;omega) ho (init_le old ho 64) new (steps (lgOf old) old new) (steps_leads (lgOf_ok old) new) (by rw[init_pages];exact Nat.le_trans hn (fit64 old ho));obtain⟨g1,g2,g3,g4,g5,_⟩:=h;exact⟨g1,g2,g3,g4,g5⟩
theorem part_feed (k:Nat):(AF.feed ⟨Ap.init,Fl.init old 64⟩ ((patchG (lgOf old) old new).take k)).a.fault=.none:=by
 have hs:=short_fed (Fl.init old 64) (by show (-1:Int)<0;decide) ho (init_le old ho 64) new (steps (lgOf old) old new) (steps_leads (lgOf_ok old) new) (by rw[init_pages];exact Nat.le_trans hn (fit64 old ho));by_cases hk:k<(patchG (lgOf old) old new).length
 ·exact(hs k hk).1
 ·rw[List.take_of_length_le (by omega)];by_cases hf:(AF.feed ⟨Ap.init,Fl.init old 64⟩ (patchG (lgOf old) old new)).a.fault=.none
  ·exact hf
  ·have h1:=(whole_ap ho hn).1;unfold Fl.apply at h1;rw[fin_bad hf] at h1;exact absurd h1 hf
end
theorem feed_more (x:AF)(l:List UInt8)(m n:Nat):(x.feed (l.take m)).feed ((l.drop m).take n)=x.feed (l.take (m+n)):=by
 rw[←feed_app,List.take_add]
end Go.Proofs.YtkmgcggoemlaaaaGreatDoor
end
