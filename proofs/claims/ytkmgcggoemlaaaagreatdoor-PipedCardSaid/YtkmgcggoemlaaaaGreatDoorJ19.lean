/-
  Part 19 of the common ground of this seat: what single parts show stands ahead of each.
  No condition.
-/
import Derived.Test.YtkmgcggoemlaaaaGreatDoorJ13
import Derived.Test.YtkmgcggoemlaaaaGreatDoorJ12
import Derived.Test.YtkmgcggoemlaaaaGreatDoorJ10
import Derived.Test.YtkmgcggoemlaaaaGreatDoorJ11
import Derived.BigQuiet
import Derived.Test.YtkmgcggoemlaaaaGreatDoorJ18
import Derived.Lib.Bytealg
import Derived.Laws.Externs
import Derived.Shelf.SlSortCmp.NoneTotal
import Derived.Shelf.SlCmpFuncs.BinarySearchFunc
import Derived.Shelf.SlCmpFuncs.None
import Derived.Test.YtkmgcggoemlaaaaGreatDoorProg
set_option linter.unusedSimpArgs false
set_option linter.unusedVariables false
set_option linter.constructorNameAsVariable false
section
/- patch.number, patch.fixed: bytes are appended to a row of one's own. -/
set_option maxHeartbeats 4000000
set_option maxRecDepth 100000
namespace Go.Proofs.YtkmgcggoemlaaaaGreatDoor
open Go.RowKit Go.Fwm
theorem wrap_i64 (n:Nat)(h:n<9223372036854775808):IntKind.i64.wrap (n:Int)=(n:Int):=IntWalk.i64_in _ (by omega)
theorem ofInt_i64 (a:Nat)(ha:a<18446744073709551616):(BitVec.ofInt 64 (a:Int)).toNat=a:=by
 rw[BitVec.ofInt_natCast,BitVec.toNat_ofNat];exact Nat.mod_eq_of_lt (by omega)
theorem i64_and_nat (a b:Nat)(ha:a<9223372036854775808)(hb:b<9223372036854775808):bits .and .i64 (a:Int) (b:Int)=((a &&& b:Nat):Int):=by
 have hx:a &&& b<2 ^ 63:=Nat.and_lt_two_pow _ (by omega);show IntKind.i64.wrap ((BitVec.ofInt 64 (a:Int) &&& BitVec.ofInt 64 (b:Int)).toNat:Int)=_;rw[BitVec.toNat_and,ofInt_i64 a (by omega),ofInt_i64 b (by omega)];exact wrap_i64 _ (by omega)
theorem i64_or_nat (a b:Nat)(ha:a<9223372036854775808)(hb:b<9223372036854775808):bits .or .i64 (a:Int) (b:Int)=((a ||| b:Nat):Int):=by
 have hx:a ||| b<2 ^ 63:=Nat.or_lt_two_pow (by omega) (by omega);show IntKind.i64.wrap ((BitVec.ofInt 64 (a:Int) ||| BitVec.ofInt 64 (b:Int)).toNat:Int)=_;rw[BitVec.toNat_or,ofInt_i64 a (by omega),ofInt_i64 b (by omega)];exact wrap_i64 _ (by omega)
def Row (w:World)(v:Value)(zs:List UInt8):Prop:=w.ownsRow 0 5 1 v zs.length (zs.map enc)
theorem Row.nil (w:World):Row w (.slice none 0 0) []:=⟨rfl,.inl ⟨rfl,rfl⟩⟩
structure App (w w':World) (v v':Value) (zs:List UInt8):Prop where
 own:Row w' v' zs
 grown:w.grownBy w' v.ownBlock
 wh:∀k,v'.ownBlock=some k->v.ownBlock=some k\/w.heap.size<=k
theorem App.trans {w w' w'':World}{v v' v'':Value}{zs zs':List UInt8}(h:App w w' v v' zs)(k:App w' w'' v' v'' zs'):App w w'' v v'' zs':=by
 have hle:=h.grown.size;refine⟨k.own,⟨k.grown.os.trans h.grown.os,k.grown.tape.trans h.grown.tape,k.grown.output.trans h.grown.output,Nat.le_trans hle k.grown.size,λb hb hne=>?_⟩,λg hg=>?_⟩
 ·rw[k.grown.block b (Nat.lt_of_lt_of_le hb hle) λe=>?_]
  ·exact h.grown.block b hb hne
  ·rcases h.wh b e.symm with x | x
   ·exact hne x.symm
   ·omega
 ·rcases k.wh g hg with x | x
  ·exact h.wh g x
  ·exact .inr (Nat.le_trans hle x)
theorem Row.alloc {w:World}{v:Value}{zs:List UInt8}(h:Row w v zs)(o:Obj):Row (w.alloc o) v zs:=by
 refine⟨h.1,?_⟩;rcases h.2 with x|⟨g,cap,cur,h1,h2,h3,h4⟩
 ·exact .inl x
 ·exact .inr ⟨g,cap,cur,h1,h2,(heap_alloc_old w o (Array.getElem?_eq_some_iff.1 h3).1).trans h3,h4⟩
theorem Row.drewN {w:World}{v:Value}{zs:List UInt8}(h:Row w v zs)(k:Nat):Row (w.drewN k) v zs:=h
theorem App.refl {w:World}{v:Value}{zs:List UInt8}(h:Row w v zs):App w w v v zs:=⟨h,⟨rfl,rfl,rfl,Nat.le_refl _,λ_ _ _=>rfl⟩,λ_ e=>.inl e⟩
theorem App.allocd {w:World}{v:Value}{zs:List UInt8}(h:Row w v zs)(o:Obj):App w (w.alloc o) v v zs:=
 ⟨h.alloc o,⟨rfl,rfl,rfl,by simp,λb hb _=>heap_alloc_old w o hb⟩,λ_ e=>.inl e⟩
theorem append_run (ty:TypeId){w:World}{v:Value}{zs news:List UInt8}(h:Row w v zs){A:Option Addr}{m c:Nat}(hl:news.length=m)(h0:0<m)(hx:Bytes w A news)(hb:zs.length+m<=100000000) :
  ∃v' w',(Builtin.append_ #[22,22] ty #[v,.slice A m c]).run Tryz.prog w=.ok v' w'/\App w w' v v' (zs++news):=by
 obtain⟨i0,hi,hz0,hz1,hz2⟩:=info_parts info5;obtain⟨b,o,rfl,_⟩:=hx 0 (by omega);have hcell:∀j u,(news.map enc)[j]? = some u->w.cell? ((⟨b,o,none⟩:Addr).add j)=some u:=λj u hj=>by
  have hjl:j<news.length:=by have:=(List.getElem?_eq_some_iff.1 hj).1;simpa using this
  obtain⟨b',o',hA',hc⟩:=hx j hjl;cases hA';have hv:u=.int .u8 (news[j].toNat:Int):=by simp[hjl,enc] at hj;exact hj.symm
  rw[hv,show (⟨b,o,none⟩:Addr).add j=⟨b,o+j,none⟩ by unfold Addr.add;split<;>simp_all];exact hc
 obtain⟨v',w',h1,h2,h3,h4⟩:=append_where (P:=Tryz.prog) w 22 ty 5 i0 (Value.int .u8 0) 1 1 Tryz.underlying22 hi hz0 hz1 hz2 rfl Nat.one_pos v zs.length (zs.map enc) h ⟨b,o,none⟩ m c (news.map enc) (by simp[hl]) hcell (by intro u hu;obtain⟨z,_,rfl⟩:=List.mem_map.1 hu;rfl) (by simp only[maxLen];omega) (by omega);refine⟨v',w',h1,⟨?_,h3,h4⟩⟩;unfold Row;rw[List.length_append,hl,List.map_append];exact h2
theorem wpList_append_row {w:World}{ops:Array Oper}{rest:List Oper}{o:Oper}{a:Act}{Q:Exit->Act->World->Prop}(hgd:o.guard=none)(s x:Operand)(ho:o.op=.call { callee:=.builtin .append,args:=#[s,x],argTypes:=#[22,22] })
  (v:Value) (zs news:List UInt8) (A:Option Addr) (m c:Nat) (hs:a.eval s=v) (hrow:Row w v zs) (hx:a.eval x=.slice A m c) (hl:news.length=m) (h0:0<m) (hb:Bytes w A news) (hlen:zs.length+m<=100000000)
  (h:∀v' w',App w w' v v' (zs++news)->wpList Tryz.prog ops Q rest (a.put o.dst v') w'):wpList Tryz.prog ops Q (o :: rest) a w:=
 wpList_plain hgd λ_ hK=>by
  obtain⟨v',w',hr,h2⟩:=append_run o.type hrow (c:=c) hl h0 hb hlen;unfold Oper.wp execOp;simp only[ho,resolve,invoke,builtin,Sem.run_bind,Sem.run_pure,Result.andThen_ok,List.map_toArray,List.map_cons,List.map_nil,hs,hx,hr];exact hK _ _ (h v' w' h2)
theorem bytes_new (w:World)(zs:List UInt8):Bytes (w.alloc (.cells (zs.map enc).toArray 5)) (some ⟨w.heap.size,0,none⟩) zs:=by
 have:Blk (w.alloc (.cells (zs.map enc).toArray 5)) w.heap.size 5 (zs.map enc++[]):=by rw[List.append_nil];exact heap_alloc_new w _
 exact Bytes.of_blk this
theorem pnumber_ok (w:World)(v:Value)(zs:List UInt8)(h:Row w v zs)(hz:zs.length<=10000000)(n:Nat)(hn:n<=4096) :
  Calls Tryz.prog 49 #[v,.int .i64 (n:Int)] w λe w'=>∃v',e=.returned v'/\App w w' v v' (zs++num n):=by
 by_cases hlt:n<128
 ·have e1:num n=[UInt8.ofNat n]:=by unfold num;rw[if_pos hlt]
  have hb:(UInt8.ofNat n).toNat=n:=by rw[toNat_ofNat];omega
  have hx:=bytes_new w [UInt8.ofNat n];have hx:Bytes (w.alloc (.cells #[.int .u8 (n:Int)] 5)) (some ⟨w.heap.size,0,none⟩) [UInt8.ofNat n]:=by simpa[enc,hb] using hx
  have H:=Lib.hid h;clear h;have HX:=Lib.hid hx;clear hx;have hi:(n:Int)<128:=by omega
  rw[e1];clear e1 hlt;go_enter Tryz.func49,Tryz.ntmps49
  go_wp2_with (at_builtin;refine wpList_append_row rfl (.tmp 7) (.tmp 10) rfl v zs [UInt8.ofNat n] (some ⟨w.heap.size,0,none⟩) 1 1 rfl (H.out.alloc _) rfl rfl Nat.one_pos HX.out (by omega) ?_;intro v1 w1 ha;have HA:=Lib.hid ha;clear ha)
  go_ret
  exact⟨_,rfl,(App.allocd H.out _).trans HA.out⟩
 ·have e1:num n=[UInt8.ofNat (n%128+128),UInt8.ofNat (n/128)]:=by unfold num;rw[if_neg hlt]
  have hb:(UInt8.ofNat (n%128+128)).toNat=n%128+128:=by rw[toNat_ofNat];omega
  have hb2:(UInt8.ofNat (n/128)).toNat=n/128:=by rw[toNat_ofNat];omega
  rw[e1];have hi:¬((n:Int)<128):=by omega
  obtain⟨q,hq⟩:∃q,n%128+128=q:=⟨_,rfl⟩;obtain⟨r,hr⟩:∃r,n/128=r:=⟨_,rfl⟩;have hand:bits .and .i64 (n:Int) 127=((n%128:Nat):Int):=by
   have:=i64_and_nat n 127 (by omega) (by omega);have h7:(127:Nat)=2 ^ 7-1:=rfl;rw[h7,Nat.and_two_pow_sub_one_eq_mod] at this;exact this
  have hor:bits .or .i64 ((n%128:Nat):Int) 128=(q:Int):=by
   have:=i64_or_nat (n%128) 128 (by omega) (by omega);have h7:=or_mul128 (n%128) 1 (by omega);rw[show 1*128=128 from rfl] at h7;rw[h7] at this;rw[←hq];exact this.trans (by omega)
  have hor2:bits .or .i64 (bits .and .i64 (n:Int) 127) 128%256=(q:Int):=by rw[hand,hor];omega
  have hdiv:(n:Int)/128=(r:Int):=by omega
  rw[hq,hr];rw[hq] at hb;rw[hr] at hb2;have hx:=bytes_new w [UInt8.ofNat q,UInt8.ofNat r];have e3:[UInt8.ofNat q,UInt8.ofNat r].map enc=[.int .u8 (q:Int),.int .u8 (r:Int)]:=by simp only[List.map_cons,List.map_nil,enc,hb,hb2]
  rw[e3] at hx;have H:=Lib.hid h;clear h;have HX:=Lib.hid hx;clear hx;clear e1 e3 hlt hb hb2 hand hor;go_enter Tryz.func49,Tryz.ntmps49
  go_wp2_with (at_builtin;refine wpList_append_row rfl (.tmp 12) (.tmp 20) rfl v zs [UInt8.ofNat q,UInt8.ofNat r] (some ⟨w.heap.size,0,none⟩) 2 2 rfl (H.out.alloc _) rfl rfl Nat.two_pos HX.out (by omega) ?_;intro v1 w1 ha;have HA:=Lib.hid ha;clear ha)
  go_ret
  exact⟨_,rfl,(App.allocd H.out _).trans HA.out⟩
theorem pfixed_ok (w:World)(v:Value)(zs:List UInt8)(h:Row w v zs)(hz:zs.length<=10000000)(S:Nat)(hS:S<4294967296) :
  Calls Tryz.prog 48 #[v,.int .u32 (S:Int)] w λe w'=>∃v',e=.returned v'/\App w w' v v' (zs++be32 S):=by
 have h1:(UInt8.ofNat (S/16777216)).toNat=S/16777216:=by rw[toNat_ofNat];omega
 have h2:(UInt8.ofNat (S/65536)).toNat=S/65536%256:=by rw[toNat_ofNat]
 have h3:(UInt8.ofNat (S/256)).toNat=S/256%256:=by rw[toNat_ofNat]
 have h4:(UInt8.ofNat S).toNat=S%256:=by rw[toNat_ofNat]
 have e3:(be32 S).map enc=[.int .u8 ((S/16777216:Nat):Int),.int .u8 ((S/65536%256:Nat):Int),.int .u8 ((S/256%256:Nat):Int),.int .u8 ((S%256:Nat):Int)]:=by simp only[be32,List.map_cons,List.map_nil,enc,h1,h2,h3,h4]
 have hx:=bytes_new w (be32 S);rw[e3] at hx;obtain⟨a,ha⟩:∃a,S/16777216=a:=⟨_,rfl⟩;obtain⟨b,hb⟩:∃b,S/65536%256=b:=⟨_,rfl⟩;obtain⟨c,hc⟩:∃c,S/256%256=c:=⟨_,rfl⟩;obtain⟨d,hd⟩:∃d,S%256=d:=⟨_,rfl⟩;rw[ha,hb,hc,hd] at hx;have q1:(S:Int)/16777216=(a:Int):=by omega
 have q2:(S:Int)/65536%256=(b:Int):=by omega
 have q3:(S:Int)/256%256=(c:Int):=by omega
 have q4:(S:Int)%256=(d:Int):=by omega
 have l1:a<256:=by omega
 have H:=Lib.hid h;clear h;have HX:=Lib.hid hx;clear hx;clear h1 h2 h3 h4 e3 ha hb hc hd;go_enter Tryz.func48,Tryz.ntmps48
 go_wp2_with (at_builtin;refine wpList_append_row rfl (.tmp 5) (.tmp 17) rfl v zs (be32 S) (some ⟨w.heap.size,0,none⟩) 4 4 rfl (H.out.alloc _) rfl rfl (by omega) HX.out (by omega) ?_;intro v1 w1 ha;have HA:=Lib.hid ha;clear ha)
 go_ret
 exact⟨_,rfl,(App.allocd H.out _).trans HA.out⟩
end Go.Proofs.YtkmgcggoemlaaaaGreatDoor
end
section
/- alike.common; bytes.Compare; what a place of the old image is to the bytes that are sought. -/
set_option maxHeartbeats 1000000
namespace Go.Fwm
def lcp:List UInt8->List UInt8->Nat
 | x :: a,y :: b=>if x=y then lcp a b+1 else 0
 | _,_=>0
theorem lcp_le_l (a:List UInt8):∀b,lcp a b<=a.length:=by
 induction a with
 | nil=>intro b;simp[lcp]
 | cons x a ih=>
  intro b;cases b with
  | nil=>simp[lcp]
  | cons y b=>have:=ih b;unfold lcp;split<;>simp only[List.length_cons]<;>omega
theorem lcp_le_r (a:List UInt8):∀b,lcp a b<=b.length:=by
 induction a with
 | nil=>intro b;simp[lcp]
 | cons x a ih=>
  intro b;cases b with
  | nil=>simp[lcp]
  | cons y b=>have:=ih b;unfold lcp;split<;>simp only[List.length_cons]<;>omega
theorem lcp_take (a:List UInt8):∀b k,k<=lcp a b->a.take k=b.take k:=by
 induction a with
 | nil=>intro b k h;simp[lcp] at h;subst h;simp
 | cons x a ih=>
  intro b k h;cases b with
  | nil=>simp[lcp] at h;subst h;simp
  | cons y b=>
   unfold lcp at h;split at h
   ·rename_i e;cases k with
    | zero=>simp
    | succ k=>simp[e,ih b k (by omega)]
   ·obtain rfl:k=0:=by omega
    simp
theorem lcp_step (a:List UInt8):∀b k,k<=lcp a b->∀(h1:k<a.length) (h2:k<b.length),a[k]=b[k]->k+1<=lcp a b:=by
 induction a with
 | nil=>intro b k _ h;cases h
 | cons x a ih=>
  intro b k h h1 h2 e;cases b with
  | nil=>cases h2
  | cons y b=>
   unfold lcp at h ⊢;cases k with
   | zero=>simp at e;rw[if_pos e];omega
   | succ k=>
    split at h
    ·rename_i e2;rw[if_pos e2];have:=ih b k (by omega) (by simpa using h1) (by simpa using h2) (by simpa using e);omega
    ·omega
theorem lcp_ne (a:List UInt8):∀b k,k<lcp a b->∀(h1:k<a.length) (h2:k<b.length),a[k]=b[k]:=by
 intro b k h h1 h2;have:=lcp_take a b (k+1) (by omega);have e:(a.take (k+1))[k]? = (b.take (k+1))[k]?:=by rw[this]
 simpa[List.getElem?_take,h1,h2] using e
end Go.Fwm
namespace Go.Proofs.YtkmgcggoemlaaaaGreatDoor
open Go.RowKit Go.Fwm
theorem common_ok (w:World)(A B:Option Addr)(cn cm n m:Nat)(a b:List UInt8)(hl:a.length=n)(hm:b.length=m)(hn:n<=maxLen)(hmm:m<=maxLen)(hx:Bytes w A a)(hy:Bytes w B b) :
  Calls Tryz.prog 78 #[.slice A n cn,.slice B m cm] w λe w'=>e=.returned (.int .i64 (lcp a b:Nat))/\∃k,w'=w.drewN k:=by
 unfold maxLen at hn hmm;obtain⟨L,hL⟩:∃L,lcp a b=L:=⟨_,rfl⟩;rw[hL];have h1:L<=n:=by rw[←hL,←hl];exact lcp_le_l a b
 have h2:L<=m:=by rw[←hL,←hm];exact lcp_le_r a b
 go_enter Tryz.func78,Tryz.ntmps78
 go_wp2
 go_loopw [5] (λi wr=>∃k d:Nat,k<=L/\i=.int .i64 k/\wr=w.drewN d) (λi _=>n-(intOf i).toNat)
 case atStart=>exact⟨0,0,Nat.zero_le _,rfl,rfl⟩
 case round=>
  obtain⟨k,d,hk,rfl,rfl⟩:=hrel;by_cases hkn:k<n
  ·have hkn':decide ((k:Int)<(n:Int))=true:=by simp;omega
   by_cases hkm:k<m
   ·have hkm':decide ((k:Int)<(m:Int))=true:=by simp;omega
    obtain⟨bb,o,rfl,hc⟩:=hx k (by omega);obtain⟨bb',o',rfl,hc'⟩:=hy k (by omega);by_cases he:a[k]=b[k]
    ·have hb:((a[k].toNat:Int) == (b[k].toNat:Int))=true:=by rw[he];simp
     have hst:k+1<=L:=by rw[←hL] at hk ⊢;exact lcp_step a b k hk (by omega) (by omega) he
     go_wp2
     go_quiet (fail)
     go_wp2
     go_roundw
     case rel=>exact⟨k+1,_,by omega,by go_num,rfl⟩
     case measure=>simp[intOf];omega
    ·have hb:((a[k].toNat:Int) == (b[k].toNat:Int))=false:=by
      simp only[beq_eq_false_iff_ne,ne_eq];intro x;exact he (UInt8.toNat_inj.1 (by omega))
     have hst:k=L:=by
      rcases Nat.lt_or_eq_of_le hk with x|x
      ·exact absurd (lcp_ne a b k (by omega) (by omega) (by omega)) he
      ·exact x
     have HST:=Lib.hid hst;clear hst;go_wp2
     go_quiet (fail)
     go_wp2
     go_ret
     exact⟨by rw[←HST.out];rfl,_,drewN_add _ _ _⟩
   ·have hkm':decide ((k:Int)<(m:Int))=false:=by simp;omega
    have hst:k=L:=by omega
    have HST:=Lib.hid hst;clear hst;go_wp2
    go_quiet (fail)
    go_wp2
    go_ret
    exact⟨by rw[←HST.out];rfl,_,drewN_add _ _ _⟩
  ·have hkn':decide ((k:Int)<(n:Int))=false:=by simp;omega
   have hst:k=L:=by omega
   have HST:=Lib.hid hst;clear hst;go_wp2
   go_quiet (fail)
   go_wp2
   go_ret
   exact⟨by rw[←HST.out];rfl,_,drewN_add _ _ _⟩
end Go.Proofs.YtkmgcggoemlaaaaGreatDoor
end
section
/- The model: the places are one row alone; what 'longest' tells. -/
namespace Go.Fwm
def ltS (f g:Nat->Nat):Prop:=∃j,(∀i,i<j->f i=g i)/\f j<g j
theorem ltS.trans {f g h:Nat->Nat}(a:ltS f g)(b:ltS g h):ltS f h:=by
 obtain⟨i,h1,h2⟩:=a;obtain⟨j,k1,k2⟩:=b;rcases Nat.lt_trichotomy i j with x|x|x
 ·exact⟨i,λt ht=>(h1 t ht).trans (k1 t (by omega)),by rw[←k1 i x];exact h2⟩
 ·subst x;exact⟨i,λt ht=>(h1 t ht).trans (k1 t ht),by omega⟩
 ·exact⟨j,λt ht=>(h1 t (by omega)).trans (k1 t ht),by rw[h1 j x];exact k2⟩
theorem ltS.irrefl {f:Nat->Nat}:¬ltS f f:=by rintro⟨j,_,h⟩;omega
theorem sy_cons_zero (x:UInt8)(a:List UInt8):sy (x :: a) 0=x.toNat+1:=rfl
theorem sy_nil (i:Nat):sy [] i=0:=rfl
theorem sy_drop (l:List UInt8)(p i:Nat):sy (l.drop p) i=sy l (p+i):=by unfold sy;rw[List.getElem?_drop]
theorem cmp_lt:∀(a b:List UInt8),Lib.compareBytes a b<0↔ltS (sy a) (sy b)
 | [],[]=>by
  simp only[Lib.compareBytes];constructor
  ·intro h;omega
  ·intro h;exact absurd h ltS.irrefl
 | [],y :: b=>by
  simp only[Lib.compareBytes];exact⟨λ_=>⟨0,λi hi=>by omega,by rw[sy_cons_zero,sy_nil];omega⟩,λ_=>by omega⟩
 | x :: a,[]=>by
  simp only[Lib.compareBytes];constructor
  ·intro h;omega
  ·rintro⟨j,_,h⟩;rw[sy_nil] at h;omega
 | x :: a,y :: b=>by
  have ih:=cmp_lt a b;simp only[Lib.compareBytes];by_cases h1:x<y
  ·rw[if_pos h1];exact⟨λ_=>⟨0,λi hi=>by omega,by rw[sy_cons_zero,sy_cons_zero];have:x.toNat<y.toNat:=h1;omega⟩,λ_=>by omega⟩
  ·rw[if_neg h1];by_cases h2:y<x
   ·rw[if_pos h2];constructor
    ·intro h;omega
    ·rintro⟨j,h3,h4⟩;have h5:y.toNat<x.toNat:=h2;cases j with
     | zero=>rw[sy_cons_zero,sy_cons_zero] at h4;omega
     | succ j=>have:=h3 0 (by omega);rw[sy_cons_zero,sy_cons_zero] at this;omega
   ·rw[if_neg h2,ih];have e:x.toNat=y.toNat:=by
     have a1:¬x.toNat<y.toNat:=h1;have a2:¬y.toNat<x.toNat:=h2;omega
    constructor
    ·rintro⟨j,h3,h4⟩;refine⟨j+1,λi hi=>?_,h4⟩;cases i with
     | zero=>rw[sy_cons_zero,sy_cons_zero,e]
     | succ i=>exact h3 i (by omega)
    ·rintro⟨j,h3,h4⟩;cases j with
     | zero=>rw[sy_cons_zero,sy_cons_zero] at h4;omega
     | succ j=>exact⟨j,λi hi=>h3 (i+1) (by omega),h4⟩
theorem cmp_drop (old b:List UInt8)(p:Nat):Lib.compareBytes (old.drop p) b<0↔ltS (λi=>sy old (p+i)) (sy b):=by
 rw[cmp_lt];have:sy (old.drop p)=λi=>sy old (p+i):=funext λi=>sy_drop old p i
 rw[this]
theorem ltK.ltS {s:Nat->Nat}{L p q:Nat}(h:ltK s L p q):ltS (λi=>s (p+i)) (λi=>s (q+i)):=by obtain⟨j,_,h1,h2⟩:=h;exact⟨j,h1,h2⟩
theorem Srt.unique {s:Nat->Nat}{n L L':Nat}(hs:Ends_ s n){ps qs:Nat->Nat}(h:Srt s n L ps)(k:Srt s n L' qs)(hL:n<=L)(hL':n<=L'):∀i,i<n->ps i=qs i:=by
 intro i;induction i using Nat.strongRecOn with
 | _ i ih=>
  intro hi;obtain⟨a,ha,hae⟩:=k.onto (ps i) (h.lt i hi);obtain⟨b,hb,hbe⟩:=h.onto (qs i) (k.lt i hi);rcases Nat.lt_trichotomy a i with x|x|x
  ·have:=ih a x ha;have:=h.inj a i ha hi (by omega);omega
  ·subst x;exact hae.symm
  ·rcases Nat.lt_trichotomy b i with y | y | y
   ·have:=ih b y hb;have:=k.inj b i hb hi (by omega);omega
   ·subst y;exact hbe
   ·have h1:=h.strict hs hL y hb;have h2:=k.strict hs hL' x ha;rw[hae] at h2;rw[hbe] at h1;exact absurd (h1.ltS.trans h2.ltS) ltS.irrefl
open Classical in
noncomputable def saOf (old:List UInt8):Nat->Nat:=if h:∃ps,Srt (sy old) old.length old.length ps then Classical.choose h else id
theorem Srt.down {s:Nat->Nat}{n L:Nat}(hs:Ends_ s n){ps:Nat->Nat}(h:Srt s n L ps)(hL:n<=L):Srt s n n ps:=
 ⟨h.lt,h.onto,h.inj,λi j hij hj x=>h.srt i j hij hj (x.mono hL)⟩
theorem saOf_srt {old:List UInt8}{L:Nat}{ps:Nat->Nat}(h:Srt (sy old) old.length L ps)(hL:old.length<=L):Srt (sy old) old.length old.length (saOf old)/\∀i,i<old.length->ps i=saOf old i:=by
 have hd:=h.down (sy_ends old) hL;have hex:∃ps,Srt (sy old) old.length old.length ps:=⟨ps,hd⟩;have e:saOf old=Classical.choose hex:=by unfold saOf;rw[dif_pos hex]
 have hc:=Classical.choose_spec hex;rw[←e] at hc;exact⟨hc,hd.unique (sy_ends old) hc (Nat.le_refl _) (Nat.le_refl _)⟩
noncomputable def cntL (old b:List UInt8):Nat:=((List.range old.length).map (saOf old)).countP λp=>decide (Lib.compareBytes (old.drop p) b<0)
def lg1 (old b:List UInt8)(p:Nat)(r:Nat × Nat):Nat × Nat:=if r.2<lcp (old.drop p) b then (p,lcp (old.drop p) b) else r
noncomputable def lgA (old b:List UInt8):Nat × Nat:=if 1<=cntL old b then lg1 old b (saOf old (cntL old b-1)) (0,0) else (0,0)
noncomputable def lgOf (old b:List UInt8):Nat × Nat:=if cntL old b<old.length then lg1 old b (saOf old (cntL old b)) (lgA old b) else lgA old b
theorem lg1_ok {old b:List UInt8}{p:Nat}{r:Nat × Nat}(h:r.1+r.2<=old.length/\r.2<=b.length/\(old.drop r.1).take r.2=b.take r.2) :
  (lg1 old b p r).1+(lg1 old b p r).2<=old.length/\(lg1 old b p r).2<=b.length/\(old.drop (lg1 old b p r).1).take (lg1 old b p r).2=b.take (lg1 old b p r).2:=by
 unfold lg1;split
 ·rename_i hlt;refine⟨?_,lcp_le_r _ _,lcp_take _ _ _ (Nat.le_refl _)⟩;have h1:=lcp_le_l (old.drop p) b;simp only[List.length_drop] at h1;show p+lcp (old.drop p) b<=old.length;omega
 ·exact h
theorem lgOf_ok (old:List UInt8):LgOk old (lgOf old):=by
 intro b;have h0:(0,0).1+(0,0).2<=old.length/\(0,0).2<=b.length/\(old.drop (0,0).1).take (0,0).2=b.take (0,0).2:=⟨Nat.zero_le _,Nat.zero_le _,rfl⟩;have hA:(lgA old b).1+(lgA old b).2<=old.length/\(lgA old b).2<=b.length/\(old.drop (lgA old b).1).take (lgA old b).2=b.take (lgA old b).2:=by
  unfold lgA;split
  ·exact lg1_ok h0
  ·exact h0
 unfold lgOf;split
 ·exact lg1_ok hA
 ·exact hA
end Go.Fwm
end
section
/- bytes.Compare; the comparison of a place of the old image with the bytes that are sought. -/
set_option maxHeartbeats 1000000
set_option maxRecDepth 100000
namespace Go.Proofs.YtkmgcggoemlaaaaGreatDoor
open Go.RowKit Go.Fwm Go.Extern
theorem run_loadBytes {P:Program}(w:World)(b:Nat):∀(zs:List UInt8) (o:Nat) (acc:ByteArray),(∀k (h:k<zs.length),w.cell? ⟨b,o+k,none⟩=some (.int .u8 (zs[k].toNat:Int)))->
  ∃r:ByteArray,(Bytes.loadBytes ⟨b,o,none⟩ zs.length acc).run P w=.ok r w/\r.data.toList=acc.data.toList++zs:=by
 intro zs;induction zs with
 | nil=>intro o acc _;exact⟨acc,rfl,by simp⟩
 | cons x zs ih=>
  intro o acc h;have h0:=h 0 (by simp);simp only[Nat.add_zero,List.getElem_cons_zero] at h0;obtain⟨r,h1,h2⟩:=ih (o+1) (acc.push x) (λk hk=>by
   have:=h (k+1) (by simpa using hk);simpa[Nat.add_assoc,Nat.add_comm 1 k] using this)
  refine⟨r,?_,by rw[h2];simp[ByteArray.push]⟩;change Sem.run P (Bytes.loadBytes ⟨b,o,none⟩ (zs.length+1) acc) w=_;unfold Bytes.loadBytes;have hx:(x.toNat:Int).toNat.toUInt8=x:=by simp
  have hx2:Int.toNat (x.toNat:Int)=x.toNat:=by simp
  simp only[Sem.run_bind,run_load,h0,Result.andThen_ok];have e:(⟨b,o,none⟩:Addr).add 1=⟨b,o+1,none⟩:=by unfold Addr.add;split<;>simp_all
  rw[e];simpa using h1
theorem run_bytesOf {P:Program}(w:World)(A:Option Addr)(n c:Nat)(zs:List UInt8)(hl:zs.length=n)(hx:Bytes w A zs):∃r:ByteArray,(Bytes.bytesOf (.slice A n c)).run P w=.ok r w/\r.data.toList=zs:=by
 subst hl;cases A with
 | none=>
  cases zs with
  | nil=>exact⟨.empty,rfl,rfl⟩
  | cons x zs=>obtain⟨b,o,e,_⟩:=hx 0 (by simp);cases e
 | some a=>
  cases zs with
  | nil=>exact⟨.empty,rfl,rfl⟩
  | cons x zs=>
   obtain⟨b,o,e,_⟩:=hx 0 (by simp);cases e;obtain⟨r,h1,h2⟩:=run_loadBytes (P:=P) w b (x :: zs) o .empty λk hk=>by
    obtain⟨b',o',e,hc⟩:=hx k hk;cases e;exact hc
   exact⟨r,h1,by simpa using h2⟩
theorem run_compareSlices {P:Program}(w:World)(A B:Option Addr)(n c m d:Nat)(a b:List UInt8)(hl:a.length=n)(hm:b.length=m)(hx:Bytes w A a)(hy:Bytes w B b) :
  (BytealgCompare.compare #[.slice A n c,.slice B m d]).run P w=.ok (.int .i64 (Lib.compareBytes a b)) w:=by
 obtain⟨r,h1,h2⟩:=run_bytesOf (P:=P) w A n c a hl hx;obtain⟨s,k1,k2⟩:=run_bytesOf (P:=P) w B m d b hm hy;change Sem.run P (do pure (goInt (Extern.BytealgCompare.cmp (←Extern.Bytes.bytesOf (.slice A n c)) (←Extern.Bytes.bytesOf (.slice B m d))))) w=_;simp only[Sem.run_bind,Sem.run_pure,h1,k1,Result.andThen];rw[Lib.cmp_eq,h2,k2];rfl
theorem compare_ok (w:World)(A B:Option Addr)(n c m d:Nat)(a b:List UInt8)(hl:a.length=n)(hm:b.length=m)(hx:Bytes w A a)(hy:Bytes w B b) :
  Calls Tryz.prog 77 #[.slice A n c,.slice B m d] w λe w'=>e=.returned (.int .i64 (Lib.compareBytes a b))/\w'=w:=by
 go_enter Tryz.func77,Tryz.ntmps77
 go_wp2
 rw[run_callFunc_extern Tryz.func83 (by kernel_rfl) (by kernel_rfl) (by kernel_rfl) (e:=BytealgCompare.compare) (by kernel_rfl),run_compareSlices w A B n c m d a b hl hm hx hy];simp only[Result.andThen];rw[Oper.upon_value];go_wp2
 go_ret
 exact⟨rfl,rfl⟩
end Go.Proofs.YtkmgcggoemlaaaaGreatDoor
end
section
/- The layings of slices.SortFunc and slices.BinarySearchFunc at this program (written by the kit's lay-plain.mjs). -/
namespace Go.Proofs
open Go.Shelf
def Tryz.sortL_ren:Go.Shelf.Ren:=⟨λ| 6=>74 | 15=>82 | 14=>81 | 28=>95 | 29=>96 | 20=>87 | 21=>88 | 22=>89 | 23=>90 | 24=>91 | 25=>92 | 26=>93 | 27=>94 | 46=>100 | 47=>101 | 48=>102 | 49=>103 | 50=>104 | 57=>111 | n=>n,λ| 22=>23 | 24=>3 | 25=>150 | 3=>3 | 39=>42 | 0=>0 | 53=>88 | 55=>169 | 4=>4 | 46=>162 | 45=>161 | 50=>152 | 5=>5 | 9=>9 | 66=>170 | 70=>174 | 76=>177 | 77=>129 | n=>n,λ| n=>n⟩
theorem Tryz.sortL:Go.Proofs.SlLaysF.n6 Tryz.prog Tryz.sortL_ren:={
 mixed:=by kernel_rfl
 f6:=⟨Tryz.f74.name,by decide,Tryz.func74.trans (congrArg some (by kernel_rfl))⟩
 f14:=⟨Tryz.f81.name,by decide,Tryz.func81.trans (congrArg some (by kernel_rfl))⟩
 f15:=Tryz.func82.trans (congrArg some (by kernel_rfl))
 f20:=⟨Tryz.f87.name,by decide,Tryz.func87.trans (congrArg some (by kernel_rfl))⟩
 f21:=⟨Tryz.f88.name,by decide,Tryz.func88.trans (congrArg some (by kernel_rfl))⟩
 f22:=⟨Tryz.f89.name,by decide,Tryz.func89.trans (congrArg some (by kernel_rfl))⟩
 f23:=⟨Tryz.f90.name,by decide,Tryz.func90.trans (congrArg some (by kernel_rfl))⟩
 f24:=⟨Tryz.f91.name,by decide,Tryz.func91.trans (congrArg some (by kernel_rfl))⟩
 f25:=⟨Tryz.f92.name,by decide,Tryz.func92.trans (congrArg some (by kernel_rfl))⟩
 f26:=⟨Tryz.f93.name,by decide,Tryz.func93.trans (congrArg some (by kernel_rfl))⟩
 f27:=⟨Tryz.f94.name,by decide,Tryz.func94.trans (congrArg some (by kernel_rfl))⟩
 f28:=Tryz.func95.trans (congrArg some (by kernel_rfl))
 f29:=Tryz.func96.trans (congrArg some (by kernel_rfl))
 f46:=⟨Tryz.f100.name,by decide,Tryz.func100.trans (congrArg some (by kernel_rfl))⟩
 f47:=Tryz.func101.trans (congrArg some (by kernel_rfl))
 f48:=Tryz.func102.trans (congrArg some (by kernel_rfl))
 f49:=⟨Tryz.f103.name,by decide,Tryz.func103.trans (congrArg some (by kernel_rfl))⟩
 f50:=⟨Tryz.f104.name,by decide,Tryz.func104.trans (congrArg some (by kernel_rfl))⟩
 f57:=⟨Tryz.f111.name,by decide,Tryz.func111.trans (congrArg some (by kernel_rfl))⟩
 t0:=Tryz.underlying0
 a0:=Tryz.isAgg0
 z0:=Tryz.sizeOf0
 v0:=Tryz.zeroValue0
 t3:=Tryz.underlying3
 a3:=Tryz.isAgg3
 z3:=Tryz.sizeOf3
 v3:=Tryz.zeroValue3
 t4:=Tryz.underlying4
 a4:=Tryz.isAgg4
 z4:=Tryz.sizeOf4
 v4:=Tryz.zeroValue4
 t5:=Tryz.underlying5
 a5:=Tryz.isAgg5
 z5:=Tryz.sizeOf5
 v5:=Tryz.zeroValue5
 t9:=Tryz.underlying9
 a9:=Tryz.isAgg9
 z9:=Tryz.sizeOf9
 v9:=Tryz.zeroValue9
 t22:=Tryz.underlying23
 a22:=Tryz.isAgg23
 z22:=Tryz.sizeOf23
 v22:=Tryz.zeroValue23
 a24:=Tryz.isAgg3
 z24:=Tryz.sizeOf3
 t25:=Tryz.underlying150
 a25:=Tryz.isAgg150
 z25:=Tryz.sizeOf150
 v25:=Tryz.zeroValue150
 t39:=Tryz.underlying42
 a39:=Tryz.isAgg42
 z39:=Tryz.sizeOf42
 v39:=Tryz.zeroValue42
 t45:=Tryz.underlying161
 a45:=Tryz.isAgg161
 z45:=Tryz.sizeOf161
 v45:=Tryz.zeroValue161
 t46:=Tryz.underlying162
 a46:=Tryz.isAgg162
 z46:=Tryz.sizeOf162
 v46:=Tryz.zeroValue162
 t50:=Tryz.underlying152
 a50:=Tryz.isAgg152
 z50:=Tryz.sizeOf152
 v50:=Tryz.zeroValue152
 t53:=Tryz.underlying88
 a53:=Tryz.isAgg88
 z53:=Tryz.sizeOf88
 v53:=Tryz.zeroValue88
 t55:=Tryz.underlying169
 a55:=Tryz.isAgg169
 z55:=Tryz.sizeOf169
 v55:=Tryz.zeroValue169
 t66:=Tryz.underlying170
 a66:=Tryz.isAgg170
 z66:=Tryz.sizeOf170
 v66:=Tryz.zeroValue170
 t70:=Tryz.underlying174
 a70:=Tryz.isAgg174
 z70:=Tryz.sizeOf174
 v70:=Tryz.zeroValue174
 t76:=Tryz.underlying177
 a76:=Tryz.isAgg177
 z76:=Tryz.sizeOf177
 v76:=Tryz.zeroValue177
 t77:=Tryz.underlying129
 a77:=Tryz.isAgg129
 z77:=Tryz.sizeOf129
 v77:=Tryz.zeroValue129 }
def Tryz.searchL_ren:Go.Shelf.Ren:=⟨λ| 14=>75 | n=>n,λ| 22=>23 | 24=>3 | 29=>22 | 32=>155 | 3=>3 | 4=>4 | 35=>42 | 0=>0 | n=>n,λ| n=>n⟩
theorem Tryz.searchL:Go.Proofs.SlLaysG2.n14 Tryz.prog Tryz.searchL_ren:={
 mixed:=by kernel_rfl
 f14:=⟨Tryz.f75.name,by decide,Tryz.func75.trans (congrArg some (by kernel_rfl))⟩
 t0:=Tryz.underlying0
 a0:=Tryz.isAgg0
 z0:=Tryz.sizeOf0
 v0:=Tryz.zeroValue0
 t3:=Tryz.underlying3
 a3:=Tryz.isAgg3
 z3:=Tryz.sizeOf3
 v3:=Tryz.zeroValue3
 t4:=Tryz.underlying4
 a4:=Tryz.isAgg4
 z4:=Tryz.sizeOf4
 v4:=Tryz.zeroValue4
 t22:=Tryz.underlying23
 a22:=Tryz.isAgg23
 z22:=Tryz.sizeOf23
 v22:=Tryz.zeroValue23
 a24:=Tryz.isAgg3
 z24:=Tryz.sizeOf3
 a29:=Tryz.isAgg22
 z29:=Tryz.sizeOf22
 t32:=Tryz.underlying155
 a32:=Tryz.isAgg155
 z32:=Tryz.sizeOf155
 v32:=Tryz.zeroValue155
 t35:=Tryz.underlying42
 a35:=Tryz.isAgg42
 z35:=Tryz.sizeOf42
 v35:=Tryz.zeroValue42 }
end Go.Proofs
end
section
/- The comparison in longest; the search of the places; longest. -/
set_option maxHeartbeats 1000000
set_option maxRecDepth 100000
namespace Go.Proofs.YtkmgcggoemlaaaaGreatDoor
open Go.RowKit Go.Fwm Go.Sort Go.Lib
structure Fdr (w:World) (fd:Nat) (A:Option Addr) (c:Nat) (pb cp:Nat) (old:List UInt8) (ps:Nat->Nat):Prop where
 h0:w.cell? ⟨fd,0,none⟩=some (.slice A old.length c)
 h1:w.cell? ⟨fd,1,none⟩=some (.slice (some ⟨pb,0,none⟩) old.length cp)
 old_:Bytes w A old
 le:old.length<=4096
 cap:old.length<=c
 pl:∀i,i<old.length->w.cell? ⟨pb,i,none⟩=some (.int .i64 (ps i:Nat))/\w.frozen? ⟨pb,i,none⟩=false
theorem Fdr.below {w w':World}{fd:Nat}{A:Option Addr}{c pb cp:Nat}{old:List UInt8}{ps:Nat->Nat}(h:Fdr w fd A c pb cp old ps)(k:Below w.heap.size w w'):Fdr w' fd A c pb cp old ps:=by
 have hk:∀a:Addr,∀v,w.cell? a=some v->w'.cell? a=w.cell? a:=λa v hv=>World.cell?_of_block (k.block _ (block_lt_of_cell hv))
 have hfz:∀b i,b<w.heap.size->w'.frozen? ⟨b,i,none⟩=w.frozen? ⟨b,i,none⟩:=λb i hb=>World.frozen?_of_block (a:=⟨b,i,none⟩) (k.block _ hb)
 refine⟨(hk _ _ h.h0).trans h.h0,(hk _ _ h.h1).trans h.h1,h.old_.keep λa e hlt=>k.block _ hlt,h.le,h.cap,λi hi=>?_⟩;obtain⟨a1,a2⟩:=h.pl i hi;exact⟨(hk _ _ a1).trans a1,(hfz _ _ (block_lt_of_cell (a:=⟨pb,i,none⟩) a1)).trans a2⟩
theorem lng1_ok (w:World)(fb fd:Nat)(A:Option Addr)(c:Nat)(old:List UInt8)(h0:w.cell? ⟨fd,0,none⟩=some (.slice A old.length c))(hold:Bytes w A old)(hle:old.length<=4096)(hcap:old.length<=c)(hf:w.cell? ⟨fb,0,none⟩=some (.pointer (some ⟨fd,0,none⟩)))(p:Nat)(hp:p<=old.length)(B:Option Addr)(m d:Nat)(b:List UInt8)(hm:b.length=m)(hy:Bytes w B b) :
  Calls Tryz.prog 76 #[.int .i64 (p:Int),.slice B m d,.pointer (some ⟨fb,0,none⟩)] w λe w'=>e=.returned (.int .i64 (Lib.compareBytes (old.drop p) b))/\w'=w:=by
 have hsl:=slice_bytes (at_:=p) (n:=old.length-p) hold (by omega) hcap;rw[List.take_of_length_le (by simp)] at hsl;have hcon:=λcc=>compare_ok w _ B (old.length-p) cc m d (old.drop p) b (by simp) hm hsl hy
 obtain⟨n,hn⟩:∃n,old.length=n:=⟨_,rfl⟩;rw[hn] at h0 hp hcap hcon hle;generalize Lib.compareBytes (old.drop p) b=r at hcon;have HC:=Lib.hid hcon;clear hcon hsl;clear hn hy hold;go_enter Tryz.func76,Tryz.ntmps76
 go_wp2_with (go_at_call 77;refine(HC.out _).mono ?_;rintro e w' ⟨rfl,rfl⟩)
 all_goals (go_ret;exact⟨rfl,rfl⟩)
theorem sortWorld_block {α:Type}[Inhabited α](enc:α->Value)(w:World)(blk off m:Nat)(dk:Array α)(os:Array Obj){b:Nat}(hb:b<w.heap.size)(hne:b≠blk):(sortWorld enc w blk off m dk os).heap[b]? = w.heap[b]?:=by
 unfold sortWorld;rw[heap_grow_old _ _ (by simp[putRow,mapBlock,Sort.ahead];exact hb)];simp[putRow,mapBlock,Array.getElem?_modify,Ne.symm hne,Sort.ahead]
theorem sortWorld_le {α:Type}[Inhabited α](enc:α->Value)(w:World)(blk off m:Nat)(dk:Array α)(os:Array Obj):w.heap.size<=(sortWorld enc w blk off m dk os).heap.size:=by
 unfold sortWorld;rw[size_grow];simp[putRow,mapBlock,Sort.ahead]
theorem sortWorld_cell {α:Type}[Inhabited α](enc:α->Value)(w:World)(blk off m:Nat)(dk:Array α)(os:Array Obj){a:Addr}{v:Value}(hne:a.block≠blk)(h:w.cell? a=some v):(sortWorld enc w blk off m dk os).cell? a=some v:=
 (World.cell?_of_block (sortWorld_block enc w blk off m dk os (block_lt_of_cell h) hne)).trans h
theorem sortWorld_bytes {α:Type}[Inhabited α](enc:α->Value)(w:World)(blk off m:Nat)(dk:Array α)(os:Array Obj){A:Option Addr}{zs:List UInt8}(hne:Away (λb=>b=blk) A)(h:Bytes w A zs):Bytes (sortWorld enc w blk off m dk os) A zs:=
 h.keep λa e hlt=>sortWorld_block enc w blk off m dk os hlt (hne a e)
theorem sw_below {α:Type}[Inhabited α]{enc:α->Value}{w w':World}{blk off:Nat}{d:Array α}(hH:Holds enc w blk off d)(h:SW enc w blk off d w'):Below w.heap.size w w':=by
 obtain⟨m,os,rfl⟩:=h;have h0:=sortWorld_start enc w blk off d hH;have e0:(putRow enc w blk off d).heap=w.heap:=by
  have:=congrArg World.heap h0;simpa[sortWorld,grow,putRow,mapBlock,Sort.ahead] using this
 refine⟨rfl,rfl,rfl,sortWorld_le enc w blk off m d os,λb hb=>?_⟩;unfold sortWorld;rw[heap_grow_old _ _ (by simp[putRow,mapBlock,Sort.ahead];exact hb)];show (putRow enc w blk off d).heap[b]? = _;rw[e0]
def encF {n:Nat}(p:Fin n):Value:=.int .i64 (p.val:Int)
def arrF (m:Nat)(ps:Nat->Nat):Array (Fin (m+1)):=Array.ofFn λi:Fin (m+1)=>⟨ps i.val%(m+1),Nat.mod_lt _ (Nat.succ_pos m)⟩
theorem arrF_size (m:Nat)(ps:Nat->Nat):(arrF m ps).size=m+1:=by simp[arrF]
theorem arrF_get {m:Nat}{ps:Nat->Nat}{i:Nat}(hi:i<m+1)(hp:ps i<m+1):((arrF m ps)[i]!).val=ps i:=by
 rw[getElem!_pos _ i (by rw[arrF_size];exact hi)];simp[arrF,Nat.mod_eq_of_lt hp]
theorem arrF_map {m:Nat}{ps:Nat->Nat}(hp:∀i,i<m+1->ps i<m+1):(arrF m ps).toList.map Fin.val=(List.range (m+1)).map ps:=by
 apply List.ext_getElem
 ·simp[arrF]
 ·intro i h1 h2;have hi:i<m+1:=by simpa[arrF] using h1
  rw[List.getElem_map,List.getElem_map,Array.getElem_toList,List.getElem_range];simp only[arrF,Array.getElem_ofFn];exact Nat.mod_eq_of_lt (hp i hi)
theorem arrF_holds {w:World}{pb m:Nat}{ps:Nat->Nat}(hp:∀i,i<m+1->ps i<m+1)(h:∀i,i<m+1->w.cell? ⟨pb,i,none⟩=some (.int .i64 (ps i:Nat))/\w.frozen? ⟨pb,i,none⟩=false):Holds encF w pb 0 (arrF m ps):=by
 intro j hj;rw[arrF_size] at hj;obtain⟨h1,h2⟩:=h j hj;rw[Nat.zero_add];refine⟨?_,h2⟩;rw[h1];unfold encF;rw[arrF_get hj (hp j hj)]
def cntP (old b:List UInt8)(ps:Nat->Nat):Nat:=((List.range old.length).map ps).countP λp=>decide (Lib.compareBytes (old.drop p) b<0)
theorem search_ok (w:World)(fb fd:Nat)(A:Option Addr)(c pb cp:Nat)(old:List UInt8)(ps:Nat->Nat)(h:Fdr w fd A c pb cp old ps)(hp:∀i,i<old.length->ps i<old.length)(hf:w.cell? ⟨fb,0,none⟩=some (.pointer (some ⟨fd,0,none⟩)))
  (n1:fd≠pb) (n2:fb≠pb) (n3:Away (λb=>b=pb) A) (B:Option Addr) (m d:Nat) (b:List UInt8) (hm:b.length=m) (hy:Bytes w B b) (n4:Away (λb=>b=pb) B)
  (hs:∀i j,i<=j->j<old.length->Lib.compareBytes (old.drop (ps j)) b<0->Lib.compareBytes (old.drop (ps i)) b<0) :
  Calls Tryz.prog 75 #[.slice (some ⟨pb,0,none⟩) old.length cp,.slice B m d,.func (.func 76) #[] #[.pointer (some ⟨fb,0,none⟩)]] w λe w'=>∃bo,e=.returned (.tuple #[.int .i64 (cntP old b ps:Nat),.bool bo])/\Below w.heap.size w w':=by
 obtain⟨N,hN⟩:∃N,old.length=N:=⟨_,rfl⟩;cases N with
 | zero=>
  have hc:cntP old b ps=0:=by unfold cntP;rw[hN];rfl
  rw[hc,hN];exact(Any.slices_BinarySearchFunc_none Tryz.searchL (some ⟨pb,0,none⟩) cp (.slice B m d) (.func (.func 76) #[] #[.pointer (some ⟨fb,0,none⟩)]) w).mono λe w' ⟨h1,h2⟩=>⟨false,h1,by rw[h2];exact Below.refl _ w⟩
 | succ N=>
  have hpl:=h.pl;rw[hN] at hp hpl;have hH:=arrF_holds hp hpl;have hblk:pb<w.heap.size:=block_lt_of_cell (hpl 0 (by omega)).1;have hcmp:CmpLaysT Tryz.prog 76 #[.pointer (some ⟨fb,0,none⟩)] encF (.slice B m d) (λx:Fin (N+1)=>Lib.compareBytes (old.drop x.val) b) pb 0 (arrF N ps).size w:=by
   intro k os dk _ x;refine(lng1_ok _ fb fd A c old (sortWorld_cell _ _ _ _ _ _ _ n1 h.h0) (sortWorld_bytes _ _ _ _ _ _ _ n3 h.old_) h.le h.cap (sortWorld_cell _ _ _ _ _ _ _ n2 hf) x.val (by have:=x.isLt;omega) B m d b hm (sortWorld_bytes _ _ _ _ _ _ _ n4 hy)).mono ?_;rintro e w' ⟨h1,h2⟩;exact⟨h1,0,#[],by rw[h2];simp[World.drewN]⟩
  have eg:∀args w,(callFunc 76 args).run Tryz.prog w=.ok (.enter 76 args) w:=enters_of Tryz.func76 (by kernel_rfl) rfl;have hle:=h.le;have hmono:∀i j,i<=j->j<(arrF N ps).size->Lib.compareBytes (old.drop ((arrF N ps)[j]!).val) b<0->Lib.compareBytes (old.drop ((arrF N ps)[i]!).val) b<0:=by
   intro i j hij hj;rw[arrF_size] at hj;rw[arrF_get hj (hp j hj),arrF_get (by omega) (hp i (by omega))];exact hs i j hij (by omega)
  have H:=Any.slices_BinarySearchFunc Tryz.searchL encF (λ_=>rfl) (.slice B m d) (λx:Fin (N+1)=>Lib.compareBytes (old.drop x.val) b) 76 #[.pointer (some ⟨fb,0,none⟩)] pb 0 cp (arrF N ps) w eg hcmp hH hblk (by rw[arrF_size];omega) hmono;have e1:(arrF N ps).toList.countP (λx:Fin (N+1)=>decide (Lib.compareBytes (old.drop x.val) b<0))=cntP old b ps:=by
   unfold cntP;rw[hN,←arrF_map hp,List.countP_map];rfl
  rw[e1,arrF_size] at H;rw[hN];exact H.mono λe w' ⟨k1,k2⟩=>⟨_,k1,sw_below hH k2⟩
end Go.Proofs.YtkmgcggoemlaaaaGreatDoor
end
section
/- alike's longest. -/
set_option maxHeartbeats 4000000
set_option maxRecDepth 100000
namespace Go.Proofs.YtkmgcggoemlaaaaGreatDoor
open Go.RowKit Go.Fwm Go.Lib
theorem quiet_more {P:Program}{f:FuncId}{args:Array Value}{W:World}{a x:Nat}{v:Value}(h:Calls P f args (W.drewN (a+x)) λe w'=>e=.returned v/\∃k,w'=(W.drewN (a+x)).drewN k) :
  Calls P f args (W.drewN (a+x)) λe w''=>e=.returned v/\∃n,w''=W.drewN (a+n):=h.mono λ_ _ ⟨h1,k,h2⟩=>⟨h1,x+k,by rw[h2,drewN_add,Nat.add_assoc]⟩
def lgK (old b:List UInt8)(ps:Nat->Nat)(I:Nat):Nat->Nat × Nat
 | 0=>(0,0)
 | 1=>if 1<=I then lg1 old b (ps (I-1)) (0,0) else (0,0)
 | _=>if I<old.length then lg1 old b (ps I) (if 1<=I then lg1 old b (ps (I-1)) (0,0) else (0,0)) else if 1<=I then lg1 old b (ps (I-1)) (0,0) else (0,0)
theorem longest_ok (w:World)(fd:Nat)(A:Option Addr)(c pb cp:Nat)(old:List UInt8)(ps:Nat->Nat)(h:Fdr w fd A c pb cp old ps)(hp:∀i,i<old.length->ps i<old.length)
  (n1:fd≠pb) (n3:Away (λb=>b=pb) A) (B:Option Addr) (m d:Nat) (b:List UInt8) (hm:b.length=m) (hml:m<=4096) (hy:Bytes w B b) (n4:Away (λb=>b=pb) B) (hpb:pb<w.heap.size)
  (hs:∀i j,i<=j->j<old.length->Lib.compareBytes (old.drop (ps j)) b<0->Lib.compareBytes (old.drop (ps i)) b<0) :
  Calls Tryz.prog 63 #[.pointer (some ⟨fd,0,none⟩),.slice B m d] w λe w'=>e=.returned (.tuple #[.int .i64 ((lgK old b ps (cntP old b ps) 2).1:Nat),.int .i64 ((lgK old b ps (cntP old b ps) 2).2:Nat)])/\Below w.heap.size w w':=by
 have hb0:Below w.heap.size w (w.alloc (.cells #[.pointer (some ⟨fd,0,none⟩)] 124)):=(Below.refl _ w).alloc (Nat.le_refl _) _;have hF1:=h.below hb0;have hy1:Bytes (w.alloc (.cells #[.pointer (some ⟨fd,0,none⟩)] 124)) B b:=hy.keep λa e hlt=>hb0.block _ hlt
 have hsr:=search_ok (w.alloc (.cells #[.pointer (some ⟨fd,0,none⟩)] 124)) w.heap.size fd A c pb cp old ps hF1 hp (by simp) n1 (by omega) n3 B m d b hm hy1 n4 hs;have hfd:fd<w.heap.size:=block_lt_of_cell h.h0;have hc1:=hF1.h1;obtain⟨I,hI⟩:∃I,cntP old b ps=I:=⟨_,rfl⟩;have hIl:I<=old.length:=by
  rw[←hI];have:=List.countP_le_length (p:=λp=>decide (Lib.compareBytes (old.drop p) b<0)) (l:=(List.range old.length).map ps);simpa[cntP] using this
 rw[hI] at hsr ⊢;obtain⟨R,hR⟩:∃R:Nat->Nat × Nat,R=lgK old b ps I:=⟨_,rfl⟩;rw[←hR];have HR:=Lib.hid hR;clear hR;have hle:=h.le;obtain⟨n,hn⟩:∃n,old.length=n:=⟨_,rfl⟩;have HF:=Lib.hid h;clear h hF1;have HY:=Lib.hid hy;clear hy hy1;have HB:=Lib.hid hb0;clear hb0;have HI:=Lib.hid hI;clear hI;rw[hn] at hsr hc1 hIl hle;have HN:=Lib.hid hn;clear hn;have HP:=Lib.hid hp;clear hp hs;have HS:=Lib.hid hsr;clear hsr;clear n4;go_enter Tryz.func63,Tryz.ntmps63
 go_wp2_with (go_at_call 75;refine HS.out.mono ?_;rintro e w1 ⟨bo,rfl,hb1⟩)
 have HB1:=Lib.hid hb1;clear hb1;obtain⟨W,hW⟩:∃W,w1.alloc (.cells #[.int .i64 ((I:Int)-1),.int .i64 (I:Int)] 3)=W:=⟨_,rfl⟩;have hsz1:w.heap.size+1<=w1.heap.size:=by have:=HB1.out.size;simpa using this
 have hbw:Below w.heap.size w W:=by
  rw[←hW];exact(HB.out.trans (HB1.out.mono (by simp))).alloc (by omega) _
 have hFW:=HF.out.below hbw;have g0:W.cell? ⟨w.heap.size,0,none⟩=some (.pointer (some ⟨fd,0,none⟩)):=by
  rw[←hW];refine(World.cell?_alloc_lt w1 _ ⟨w.heap.size,0,none⟩ (by show w.heap.size<_;omega)).trans ?_;refine(HB1.out.cell (p:=⟨w.heap.size,0,none⟩) (by show w.heap.size<_;simp)).trans ?_;exact(World.cell_blk (heap_alloc_new w _)).trans rfl
 have key:∀k,k<2->∃z:Int,W.cell? ⟨w1.heap.size,k,none⟩=some (.int .i64 z)/\(z<0\/(n:Int)<=z->lgK old b ps I (k+1)=lgK old b ps I k)/\(∀q:Nat,z=(q:Int)->q<n->lgK old b ps I (k+1)=lg1 old b (ps q) (lgK old b ps I k))/\-1<=z/\z<=n:=by
  intro k hk;have hn:=HN.out;rcases Nat.lt_or_ge k 1 with x|x
  ·obtain rfl:k=0:=by omega
   refine⟨(I:Int)-1,by rw[←hW];exact(World.cell_blk (heap_alloc_new w1 _)).trans rfl,λh=>?_,λq h1 h2=>?_,by omega,by omega⟩
   ·show (if 1<=I then _ else _)=(0,0);rw[if_neg (by omega)]
   ·show (if 1<=I then _ else _)=lg1 old b (ps q) (0,0);rw[if_pos (by omega),show I-1=q by omega]
  ·obtain rfl:k=1:=by omega
   refine⟨(I:Int),by rw[←hW];exact(World.cell_blk (heap_alloc_new w1 _)).trans rfl,λh=>?_,λq h1 h2=>?_,by omega,by omega⟩
   ·show (if I<old.length then _ else _)=(if 1<=I then _ else _);rw[if_neg (by omega)]
   ·show (if I<old.length then _ else _)=lg1 old b (ps q) (if 1<=I then _ else _);rw[if_pos (by omega),show I=q by omega]
 have hsz:w1.heap.size<W.heap.size:=by rw[←hW];simp
 generalize w1.alloc (.cells #[.int .i64 ((I:Int)-1),.int .i64 (I:Int)] 3)=W' at hW;subst hW;have h0:=hFW.h0;have h1:=hFW.h1;have hyW:Bytes W' B b:=HY.out.keep λa e hlt=>hbw.block _ hlt
 have hcon:∀q,q<n->∀nq,Calls Tryz.prog 78 #[.slice (if c=ps q then A else Option.map (λx=>x.add (ps q)) A) (n-ps q) (c-ps q),.slice B m d] (W'.drewN nq) λe w'=>e=.returned (.int .i64 (lcp (old.drop (ps q)) b:Nat))/\∃k,w'=(W'.drewN nq).drewN k:=by
  intro q hq nq;have hpq:=HP.out q (by rw[HN.out];exact hq);have hn:=HN.out;have hsl:=slice_bytes (at_:=ps q) (n:=old.length-ps q) hFW.old_ (by omega) hFW.cap;rw[List.take_of_length_le (by simp)] at hsl;exact common_ok (W'.drewN nq) _ B (c-ps q) d (n-ps q) m (old.drop (ps q)) b (by simp;omega) hm (by unfold maxLen;omega) (by unfold maxLen;omega) hsl hyW
 have hpl:∀q,q<n->W'.cell? ⟨pb,q,none⟩=some (.int .i64 (ps q:Nat)):=λq hq=>(hFW.pl q (by rw[HN.out];exact hq)).1
 have hpn:∀q,q<n->ps q<n/\n<=c:=λq hq=>by have:=HP.out q (by rw[HN.out];exact hq);have:=hFW.cap;have:=HN.out;omega
 rw[HN.out] at h0 h1;clear hFW hyW hc1;have HK:=Lib.hid key;clear key;have HC:=Lib.hid hcon;clear hcon;have HPL:=Lib.hid hpl;clear hpl;have HPN:=Lib.hid hpn;clear hpn;have HBW:=Lib.hid hbw;clear hbw;rw[←HR.out] at HK;have hR0:R 0=(0,0):=by rw[HR.out];rfl
 have HR0:=Lib.hid hR0;clear hR0;have hlb:∀q,lcp (old.drop (ps q)) b<=4096:=λq=>Nat.le_trans (lcp_le_r _ _) (by omega)
 go_loopw [4,5,26] (λf nn i wr=>∃k dd:Nat,k<=2/\i=.int .i64 k/\f=.int .i64 ((R k).1:Nat)/\nn=.int .i64 ((R k).2:Nat)/\wr=W'.drewN dd) (λ_ _ i _=>2-(intOf i).toNat)
 case atStart=>exact⟨0,0,by omega,rfl,by rw[HR0.out];rfl,by rw[HR0.out];rfl,rfl⟩
 case round=>
  obtain⟨k,dd,hk,rfl,rfl,rfl,rfl⟩:=hrel;by_cases hk2:k<2
  ·obtain⟨z,hz,z1,z2,z3,z4⟩:=HK.out k hk2;have Z1:=Lib.hid z1;clear z1;have Z2:=Lib.hid z2;clear z2;by_cases hz0:0<=z
   ·by_cases hzn:z<n
    ·obtain⟨q,rfl⟩:∃q:Nat,z=q:=⟨z.toNat,by omega⟩;have hpq:=HPL.out q (by omega);obtain⟨pn,pc⟩:=HPN.out q (by omega);have hcc:=HC.out q (by omega);have hst:=Z2.out q rfl (by omega);have hl:=hlb q;unfold lg1 at hst;obtain⟨P,hP⟩:∃P,ps q=P:=⟨_,rfl⟩;rw[hP] at hpq pn hcc hst hl;obtain⟨L,hL⟩:∃L,lcp (old.drop P) b=L:=⟨_,rfl⟩;rw[hL] at hcc hst hl;clear hL hP;have hcP:¬c=P:=by omega
     have hPn:P<=n:=by omega
     rw[if_neg hcP] at hcc;have HCC:=Lib.hid hcc;clear hcc;obtain⟨f0,hf0⟩:∃f0,(R k).1=f0:=⟨_,rfl⟩;obtain⟨m0,hm0⟩:∃m0,(R k).2=m0:=⟨_,rfl⟩;rw[hf0,hm0];by_cases hlt:m0<L
     ·have e:R (k+1)=(P,L):=by rw[hst,if_pos (by omega)]
      have HE:=Lib.hid e;clear e hst hf0 hm0;go_wp2
      go_quiet ((go_at_call 78;exact quiet_more (HCC.out _)))
      go_wp2
      go_roundw
      case rel=>exact⟨k+1,_,by omega,by go_num,by rw[HE.out],by rw[HE.out],rfl⟩
      case measure=>simp[intOf];omega
     ·have e:(R (k+1)).1=f0/\(R (k+1)).2=m0:=by rw[hst,if_neg (by omega)];exact⟨hf0,hm0⟩
      have HE:=Lib.hid e;clear e hst hf0 hm0;go_wp2
      go_quiet ((go_at_call 78;exact quiet_more (HCC.out _)))
      go_wp2
      go_roundw
      case rel=>exact⟨k+1,_,by omega,by go_num,by rw[HE.out.1],by rw[HE.out.2],rfl⟩
      case measure=>simp[intOf];omega
    ·have e:=Z1.out (.inr (by omega));have HE:=Lib.hid e;clear e;go_wp2
     go_roundw
     case rel=>exact⟨k+1,_,by omega,by go_num,by rw[HE.out],by rw[HE.out],rfl⟩
     case measure=>simp[intOf];omega
   ·have e:=Z1.out (.inl (by omega));have HE:=Lib.hid e;clear e;go_wp2
    go_roundw
    case rel=>exact⟨k+1,_,by omega,by go_num,by rw[HE.out],by rw[HE.out],rfl⟩
    case measure=>simp[intOf];omega
  ·have hk2:k=2:=by omega
   subst hk2;go_wp2
   go_ret2
   exact⟨rfl,HBW.out.os,HBW.out.tape,HBW.out.output,HBW.out.size,HBW.out.block⟩
end Go.Proofs.YtkmgcggoemlaaaaGreatDoor
end
section
/- The order of two places, as newFinder's closures tell it. -/
set_option maxHeartbeats 1000000
set_option maxRecDepth 100000
namespace Go.Proofs.YtkmgcggoemlaaaaGreatDoor
open Go.RowKit Go.Fwm Go.Lib
structure Env (w:World) (nb rb ab hb R:Nat) (n half:Nat) (rank:Nat->Nat):Prop where
 n_:w.cell? ⟨nb,0,none⟩=some (.int .i64 (n:Int))
 r_:w.cell? ⟨rb,0,none⟩=some (.slice (some ⟨R,0,none⟩) n n)
 a_:w.cell? ⟨ab,0,none⟩=some (.func (.func 72) #[] #[.pointer (some ⟨nb,0,none⟩),.pointer (some ⟨rb,0,none⟩)])
 h_:w.cell? ⟨hb,0,none⟩=some (.int .i64 (half:Int))
 rk:∀i,i<n->w.cell? ⟨R,i,none⟩=some (.int .i64 (rank i:Int))
 rl:∀i,i<n->rank i<=100000
 nl:n<=4096
 hl:half<=100000
theorem at_ok (w:World)(nb rb ab hb R:Nat)(n half:Nat)(rank:Nat->Nat)(h:Env w nb rb ab hb R n half rank)(i:Nat)(hi:i<=1000000) :
  Calls Tryz.prog 72 #[.int .i64 (i:Int),.pointer (some ⟨nb,0,none⟩),.pointer (some ⟨rb,0,none⟩)] w λe w'=>e=.returned (.int .i64 (atv rank n i))/\w'=w:=by
 have h1:=h.n_;have h2:=h.r_;have hnl:=h.nl;by_cases hlt:i<n
 ·have h3:=h.rk i hlt;have h4:=h.rl i hlt;have e:atv rank n i=(rank i:Int)+1:=by unfold atv;rw[if_pos hlt]
  rw[e];generalize rank i=r at h3 h4;clear e h;go_enter Tryz.func72,Tryz.ntmps72
  go_wp2
  go_ret
  exact⟨rfl,rfl⟩
 ·have e:atv rank n i=0:=by unfold atv;rw[if_neg hlt]
  rw[e];clear e h;go_enter Tryz.func72,Tryz.ntmps72
  go_wp2
  go_ret
  exact⟨rfl,rfl⟩
theorem atv_le {rank:Nat->Nat}{n i:Nat}(h:∀i,i<n->rank i<=100000):0<=atv rank n i/\atv rank n i<=100001:=by
 unfold atv;split
 ·have:=h i (by assumption);omega
 ·omega
theorem order_ok (w:World)(nb rb ab hb R:Nat)(n half:Nat)(rank:Nat->Nat)(h:Env w nb rb ab hb R n half rank)(a b:Nat)(ha:a<n)(hb':b<n) :
  Calls Tryz.prog 73 #[.int .i64 (a:Int),.int .i64 (b:Int),.pointer (some ⟨rb,0,none⟩),.pointer (some ⟨ab,0,none⟩),.pointer (some ⟨hb,0,none⟩)] w λe w'=>e=.returned (.int .i64 (cfv rank n half a b))/\∃q,w'=w.drewN q:=by
 have h2:=h.r_;have h5:=h.a_;have h6:=h.h_;have hnl:=h.nl;have hhl:=h.hl;have h3:=h.rk a ha;have h3':=h.rk b hb';have h4:=h.rl a ha;have h4':=h.rl b hb';have hc1:=λq=>at_ok (w.drewN q) nb rb ab hb R n half rank ⟨h.n_,h.r_,h.a_,h.h_,h.rk,h.rl,h.nl,h.hl⟩ (a+half) (by omega)
 have hc2:=λq=>at_ok (w.drewN q) nb rb ab hb R n half rank ⟨h.n_,h.r_,h.a_,h.h_,h.rk,h.rl,h.nl,h.hl⟩ (b+half) (by omega)
 simp only[Int.natCast_add] at hc1 hc2;have hb1:=atv_le (i:=a+half) h.rl;have hb2:=atv_le (i:=b+half) h.rl;have e:cfv rank n half a b=if (rank a:Int)-(rank b:Int)≠0 then (rank a:Int)-(rank b:Int) else atv rank n (a+half)-atv rank n (b+half):=rfl
 generalize cfv rank n half a b=C at e;generalize rank a=ra at h3 h4 e;generalize rank b=rb' at h3' h4' e;generalize atv rank n (a+half)=va at hc1 hb1 e;generalize atv rank n (b+half)=vb at hc2 hb2 e;have j1:IntKind.i64.wrap ((ra:Int)-(rb':Int))=(ra:Int)-(rb':Int):=IntWalk.i64_in _ (by omega);have HC1:=Lib.hid hc1;clear hc1;have HC2:=Lib.hid hc2;clear hc2;clear h;by_cases hne:(ra:Int)-(rb':Int)≠0
 ·rw[if_pos hne] at e;have HE:=Lib.hid e;clear e;go_enter Tryz.func73,Tryz.ntmps73
  go_wp2
  go_quiet (fail)
  go_wp2
  go_ret
  exact⟨by rw[HE.out];rfl,_,rfl⟩
 ·rw[if_neg hne] at e;have HE:=Lib.hid e;clear e;have hz:(ra:Int)-(rb':Int)=0:=by omega
  have j2:IntKind.i64.wrap (va-vb)=va-vb:=IntWalk.i64_in _ (by omega);have j3:IntKind.i64.wrap ((a:Int)+(half:Int))=(a:Int)+(half:Int):=IntWalk.i64_in _ (by omega);have j4:IntKind.i64.wrap ((b:Int)+(half:Int))=(b:Int)+(half:Int):=IntWalk.i64_in _ (by omega);go_enter Tryz.func73,Tryz.ntmps73
  go_wp2
  go_quiet (fail)
  go_wp2
  go_quiet ((first | (go_at_call_of 72 (Value.int .i64 ((a:Int)+(half:Int)));exact quiet_more ((HC1.out _).mono λ_ _ h=>⟨h.1,0,h.2⟩)) | (go_at_call_of 72 (Value.int .i64 ((b:Int)+(half:Int)));exact quiet_more ((HC2.out _).mono λ_ _ h=>⟨h.1,0,h.2⟩))))
  go_wp2
  go_ret
  exact⟨by rw[HE.out];rfl,_,drewN_add _ _ _⟩
end Go.Proofs.YtkmgcggoemlaaaaGreatDoor
end
section
/- The places are sorted. -/
namespace Go.Proofs.YtkmgcggoemlaaaaGreatDoor
open Go.RowKit Go.Fwm Go.Lib Go.Sort
structure Pm (n:Nat) (ps:Nat->Nat):Prop where
 lt:∀i,i<n->ps i<n
 onto:∀p,p<n->∃i,i<n/\ps i=p
 inj:∀i j,i<n->j<n->ps i=ps j->i=j
def iCells (n:Nat)(ps:Nat->Nat):List Value:=(List.range n).map λi=>.int .i64 (ps i:Int)
theorem iCells_get {n:Nat}{ps:Nat->Nat}{i:Nat}(h:i<n):(iCells n ps)[i]? = some (.int .i64 (ps i:Int)):=by simp[iCells,h]
theorem iCells_set {n:Nat}{ps:Nat->Nat}{i v:Nat}(h:i<n):(iCells n ps).set i (.int .i64 (v:Int))=iCells n (λj=>if j=i then v else ps j):=by
 apply List.ext_getElem?;intro j;rw[List.getElem?_set];by_cases hj:j<n
 ·rw[iCells_get hj];by_cases e:i=j
  ·subst e;simp[iCells,h]
  ·rw[if_neg e,iCells_get hj,if_neg (Ne.symm e)]
 ·have h1:(iCells n ps)[j]? = none:=List.getElem?_eq_none (by simp[iCells];omega);have h2:(iCells n λj=>if j=i then v else ps j)[j]? = none:=List.getElem?_eq_none (by simp[iCells];omega);rw[h1,h2,if_neg (by omega)]
theorem iCells_congr {n:Nat}{ps qs:Nat->Nat}(h:∀i,i<n->ps i=qs i):iCells n ps=iCells n qs:=by
 unfold iCells;apply List.map_congr_left;intro i hi;rw[h i (List.mem_range.1 hi)]
theorem swo_tells {s:Nat->Nat}{m L:Nat}{cf:Nat->Nat->Int}(h:Tells s (m+1) L cf):SWO (ltOf λx y:Fin (m+1)=>cf x.val y.val) where
 irrefl x:=by
  have:=(h.lt x.val x.val x.isLt x.isLt);unfold ltOf;exact decide_eq_false λk=>ltK.irrefl (this.1 k)
 trans x y z a b:=by
  unfold ltOf at a b ⊢;have a:=(h.lt _ _ x.isLt y.isLt).1 (of_decide_eq_true a);have b:=(h.lt _ _ y.isLt z.isLt).1 (of_decide_eq_true b);exact decide_eq_true ((h.lt _ _ x.isLt z.isLt).2 (a.trans b))
 ntrans x y z a b:=by
  unfold ltOf at a b ⊢;have a:=λk=>of_decide_eq_false a ((h.lt _ _ x.isLt y.isLt).2 k)
  have b:=λk=>of_decide_eq_false b ((h.lt _ _ y.isLt z.isLt).2 k)
  exact decide_eq_false λk=>ltK.ntrans a b ((h.lt _ _ x.isLt z.isLt).1 k)
theorem perm_pm {m:Nat}{ps:Nat->Nat}(h:Pm (m+1) ps){d':Array (Fin (m+1))}(hp:PermIn 0 (arrF m ps).size (arrF m ps) d'):Pm (m+1) (λi=>d'[i]!.val)/\d'.size=m+1:=by
 obtain⟨h1,_,h3⟩:=hp;rw[arrF_size] at h1;have e1:(d'.extract 0 (arrF m ps).size).toList=d'.toList:=by rw[arrF_size,Array.toList_extract];simp only[List.extract,List.drop_zero,Nat.sub_zero];exact List.take_of_length_le (by simp[h1])
 have e2:((arrF m ps).extract 0 (arrF m ps).size).toList=(arrF m ps).toList:=by simp
 rw[e1,e2] at h3;have hg:∀i,(hi:i<m+1)->d'[i]!.val=(d'.toList[i]'(by simpa[h1] using hi)).val:=λi hi=>by
  rw[getElem!_pos d' i (by omega),Array.getElem_toList]
 have hnd0:(arrF m ps).toList.Nodup:=by
  unfold List.Nodup;rw[List.pairwise_iff_getElem];intro i j hi0 hj0 hlt hij;have hi:i<m+1:=by simpa[arrF] using hi0
  have hj:j<m+1:=by simpa[arrF] using hj0
  have e:=congrArg Fin.val hij;rw[Array.getElem_toList,Array.getElem_toList] at e;simp only[arrF,Array.getElem_ofFn] at e;rw[Nat.mod_eq_of_lt (h.lt _ hi),Nat.mod_eq_of_lt (h.lt _ hj)] at e;have:=h.inj _ _ hi hj e;omega
 have hnd:d'.toList.Nodup:=h3.nodup_iff.2 hnd0;refine⟨⟨λi hi=>(d'[i]!).isLt,λp hp=>?_,λi j hi hj e=>?_⟩,h1⟩
 ·obtain⟨i,hi,hpi⟩:=h.onto p hp;have hm:(⟨p,hp⟩:Fin (m+1))∈(arrF m ps).toList:=by
   rw[List.mem_iff_getElem];refine⟨i,by simpa[arrF] using hi,?_⟩;rw[Array.getElem_toList];simp only[arrF,Array.getElem_ofFn];exact Fin.ext (by show ps i%(m+1)=p;rw[Nat.mod_eq_of_lt (h.lt _ hi),hpi])
  have hm':=h3.mem_iff.2 hm;obtain⟨j,hj,hje⟩:=List.mem_iff_getElem.1 hm';have hj':j<m+1:=by
   have:j<d'.size:=by simpa using hj
   omega
  exact⟨j,hj',by show d'[j]!.val=p;rw[hg j hj',hje]⟩
 ·have e':d'[i]!.val=d'[j]!.val:=e;rw[hg i hi,hg j hj] at e';unfold List.Nodup at hnd;rw[List.pairwise_iff_getElem] at hnd;rcases Nat.lt_trichotomy i j with x|x|x
  ·exact absurd (Fin.ext e') (hnd i j (by simpa[h1] using hi) (by simpa[h1] using hj) x)
  ·exact x
  ·exact absurd (Fin.ext e'.symm) (hnd j i (by simpa[h1] using hj) (by simpa[h1] using hi) x)
structure Sorted_ (w w':World) (pb n L:Nat) (s:Nat->Nat) (ps':Nat->Nat):Prop where
 srt:Srt s n L ps'
 blk:Blk w' pb 3 (iCells n ps')
 on:Only (λb=>b=pb) w w'
 os:w'.os=w.os
 tape:w'.tape=w.tape
 output:w'.output=w.output
theorem Env.sortWorld {w:World}{nb rb ab hb R n half:Nat}{rank:Nat->Nat}(h:Env w nb rb ab hb R n half rank){α:Type}[Inhabited α](enc:α->Value)(pb m:Nat)(dk:Array α)(os:Array Obj)(n1:nb≠pb)(n2:rb≠pb)(n3:ab≠pb)(n4:hb≠pb)(n5:R≠pb) :
  Env (sortWorld enc w pb 0 m dk os) nb rb ab hb R n half rank:=
 ⟨sortWorld_cell _ _ _ _ _ _ _ n1 h.n_,sortWorld_cell _ _ _ _ _ _ _ n2 h.r_,sortWorld_cell _ _ _ _ _ _ _ n3 h.a_,sortWorld_cell _ _ _ _ _ _ _ n4 h.h_,λi hi=>sortWorld_cell _ _ _ _ _ _ _ n5 (h.rk i hi),h.rl,h.nl,h.hl⟩
theorem sort_ok (w:World)(nb rb ab hb R pb:Nat)(n half L:Nat)(rank:Nat->Nat)(s:Nat->Nat)(ps:Nat->Nat)(h:Env w nb rb ab hb R n half rank)(n1:nb≠pb)(n2:rb≠pb)(n3:ab≠pb)(n4:hb≠pb)(n5:R≠pb)
  (ht:Tells s n L (cfv rank n half)) (hp:Pm n ps) (hb_:Blk w pb 3 (iCells n ps)) :
  Calls Tryz.prog 74 #[.slice (some ⟨pb,0,none⟩) n n,.func (.func 73) #[] #[.pointer (some ⟨rb,0,none⟩),.pointer (some ⟨ab,0,none⟩),.pointer (some ⟨hb,0,none⟩)]] w λe w'=>e=.returned (.tuple #[])/\∃ps',Sorted_ w w' pb n L s ps':=by
 cases n with
 | zero=>
  refine(AnyF.slices_SortFunc_none (P:=Tryz.prog) (ρ:=Tryz.sortL_ren) { Tryz.sortL with } (some ⟨pb,0,none⟩) 0 (.func (.func 73) #[] #[.pointer (some ⟨rb,0,none⟩),.pointer (some ⟨ab,0,none⟩),.pointer (some ⟨hb,0,none⟩)]) w).mono ?_;rintro e w' ⟨h1,h2⟩;subst h2;exact⟨h1,ps,⟨λi hi=>by omega,λi hi=>by omega,λi j hi=>by omega,λi j hi hj=>by omega⟩,hb_,Only.refl _ _,rfl,rfl,rfl⟩
 | succ m=>
  have hH:Holds encF w pb 0 (arrF m ps):=arrF_holds hp.lt λi hi=>⟨hb_.cell (iCells_get hi),hb_.free i⟩
  have hblk:pb<w.heap.size:=hb_.lt;have eg:∀args w,(callFunc 73 args).run Tryz.prog w=.ok (.enter 73 args) w:=enters_of Tryz.func73 (by kernel_rfl) rfl;have hnl:=h.nl;have hcmp:CmpLays1 Tryz.prog 73 #[.pointer (some ⟨rb,0,none⟩),.pointer (some ⟨ab,0,none⟩),.pointer (some ⟨hb,0,none⟩)] encF (λx y:Fin (m+1)=>cfv rank (m+1) half x.val y.val) pb 0 (arrF m ps).size w:=by
   intro k os dk _ x y;exact(order_ok _ nb rb ab hb R (m+1) half rank (h.sortWorld encF pb k dk os n1 n2 n3 n4 n5) x.val y.val x.isLt y.isLt).mono λe w' ⟨h1,q,h2⟩=>⟨h1,q,#[],by rw[h2,grow_empty]⟩
  have H:=Any.slices_SortFunc Tryz.sortL encF (λ_=>rfl) (λx y:Fin (m+1)=>cfv rank (m+1) half x.val y.val) (swo_tells ht) 73 #[.pointer (some ⟨rb,0,none⟩),.pointer (some ⟨ab,0,none⟩),.pointer (some ⟨hb,0,none⟩)] pb 0 (m+1) (arrF m ps) w eg hcmp hH hblk (by rw[arrF_size];omega);have e0:(arrF m ps).size=m+1:=arrF_size m ps;change Calls Tryz.prog 74 _ _ _ at H;rw[e0] at H;refine H.mono ?_;rintro e w' ⟨h1,d',k,os,hpm,hsd,rfl⟩;obtain⟨hpm',hsz⟩:=perm_pm hp (by rw[e0];exact hpm);refine⟨h1,λi=>d'[i]!.val,⟨hpm'.lt,hpm'.onto,hpm'.inj,λi j hij hj hlt=>?_⟩,?_,⟨sortWorld_le _ _ _ _ _ _ _,λb hb hne=>sortWorld_block _ _ _ _ _ _ _ hb hne⟩,rfl,rfl,rfl⟩
  ·have:=hsd i j (Nat.zero_le _) hij hj;unfold ltOf at this;exact of_decide_eq_false this ((ht.lt _ _ (d'[j]!).isLt (d'[i]!).isLt).2 hlt)
  ·unfold Blk Go.Proofs.sortWorld;rw[heap_grow_old _ _ (by simp[putRow,mapBlock,Sort.ahead];exact hblk)];have hb0:w.heap[pb]? = some (.cells (iCells (m+1) ps).toArray 3 (0,0)):=hb_;simp only[putRow,mapBlock,Sort.ahead,Array.getElem?_modify,if_true,hb0,Option.map_some,onCells];congr 2;apply Array.ext_getElem?;intro i;simp only[putCells,Array.getElem?_mapIdx];by_cases hi:i<m+1
   ·rw[show (iCells (m+1) ps).toArray[i]? = some (.int .i64 (ps i:Int)) by simpa using iCells_get hi,show (iCells (m+1) λi=>d'[i]!.val).toArray[i]? = some (.int .i64 (d'[i]!.val:Int)) by simpa using iCells_get (ps:=λi=>d'[i]!.val) hi];rw[Option.map_some,if_pos ⟨Nat.zero_le _,by omega⟩];rfl
   ·rw[Array.getElem?_eq_none (by simp[iCells];omega),Array.getElem?_eq_none (by simp[iCells];omega)];rfl
end Go.Proofs.YtkmgcggoemlaaaaGreatDoor
end
