/-
  Part 20 of the common ground of this seat: what single parts show stands ahead of each.
  No condition.
-/
import Derived.Test.YtkmgcggoemlaaaaGreatDoorJ19
import Derived.BigRegion
import Derived.Laws.EntriesVeiled
import Derived.Test.YtkmgcggoemlaaaaGreatDoorJ18
import Derived.Deep.RegionHeld3
import Derived.BigQuiet
import Derived.IntWalk
import Derived.Test.YtkmgcggoemlaaaaGreatDoorJ08
import Derived.Test.YtkmgcggoemlaaaaGreatDoorJ07
set_option linter.unusedSimpArgs false
set_option linter.unusedVariables false
set_option linter.constructorNameAsVariable false
section
/- newFinder: what lies in memory, between two rounds. -/
namespace Go.Proofs.YtkmgcggoemlaaaaGreatDoor
open Go.RowKit Go.Fwm Go.Lib Go.Sort
theorem info3:(Tryz.prog.info? 3).map (λi=>(i.zero,i.size,i.bytes))=some (some (Value.int .i64 0),1,8):=by kernel_rfl
theorem info_parts3:∃i,Tryz.prog.info? 3=some i/\i.zero=some (Value.int .i64 0)/\i.size=1/\i.bytes=8:=by
 have h:=info3;obtain⟨i,hi,e⟩:=Option.map_eq_some_iff.1 h;simp only[Prod.mk.injEq] at e;exact⟨i,hi,e.1,e.2.1,e.2.2⟩
theorem made_i64 (n:Nat):madeCells (Value.int .i64 0).cells n=(iCells n λ_=>0).toArray:=by
 apply Array.ext
 ·simp[madeCells,iCells]
 ·intro i h1 h2;simp[madeCells,Value.cells,Nat.mod_one,iCells]
theorem run_make_int (n:Nat)(hn:n<=1000000)(w:World) :
  (Instr.makeSlice 23 (.int .i64 (n:Int)) (.int .i64 (n:Int))).run Tryz.prog w=.ok (.slice (some ⟨w.heap.size,0,none⟩) n n) (w.alloc (.cells (iCells n λ_=>0).toArray 3)):=by
 obtain⟨i,hi,hz,hs,hb⟩:=info_parts3;rw[run_make_rowN 23 3 i (Value.int .i64 0) Tryz.underlying23 hi hz .i64 .i64 n n (Nat.le_refl _) (by rw[hb];omega) (by omega) w,hs,Nat.mul_one,made_i64]
structure NF (w wr:World) (s:Nat) (A:Option Addr) (c n:Nat) (R X:Nat) (rank ps nx:Nat->Nat):Prop where
 below:Below s w wr
 sz:s+6<=wr.heap.size
 n_:Blk wr s 3 [.int .i64 (n:Int)]
 pl:Blk wr (s+1) 3 (iCells n ps)
 fd:Blk wr (s+2) 148 [.slice A n c,.slice (some ⟨s+1,0,none⟩) n n]
 rk:Blk wr R 3 (iCells n rank)
 rb:Blk wr (s+4) 23 [.slice (some ⟨R,0,none⟩) n n]
 nx:Blk wr X 3 (iCells n nx)
 rx:(R=s+3/\X=s+5)\/(R=s+5/\X=s+3)
section
variable {w wr:World} {s:Nat} {A:Option Addr} {c n R X:Nat} {rank ps nx:Nat->Nat}
theorem NF.drewN (h:NF w wr s A c n R X rank ps nx)(k:Nat):NF w (wr.drewN k) s A c n R X rank ps nx:=
 ⟨⟨h.below.os,h.below.tape,h.below.output,h.below.size,h.below.block⟩,h.sz,h.n_,h.pl,h.fd,h.rk,h.rb,h.nx,h.rx⟩
theorem NF.alloc (h:NF w wr s A c n R X rank ps nx)(o:Obj):NF w (wr.alloc o) s A c n R X rank ps nx:=
 ⟨h.below.alloc (by have:=h.sz;omega) o,by have:=h.sz;simp;omega,h.n_.alloc o,h.pl.alloc o,h.fd.alloc o,h.rk.alloc o,h.rb.alloc o,h.nx.alloc o,h.rx⟩
theorem NF.setPl (h:NF w wr s A c n R X rank ps nx){i v:Nat}(hi:i<n):NF w (wr.setCell ⟨s+1,i,none⟩ (.int .i64 (v:Int))) s A c n R X rank (λj=>if j=i then v else ps j) nx:=by
 have hx:=h.rx;refine⟨h.below.setCell (p:=⟨s+1,i,none⟩) (by show s<=s+1;omega) _,by simpa[World.setCell] using h.sz,h.n_.setNe _ ?_,?_,h.fd.setNe _ ?_,h.rk.setNe _ ?_,h.rb.setNe _ ?_,h.nx.setNe _ ?_,hx⟩
 case refine_2=>rw[←iCells_set hi];exact h.pl.set i _
 all_goals (show _≠s+1;omega)
theorem NF.setRk (h:NF w wr s A c n R X rank ps nx){i v:Nat}(hi:i<n):NF w (wr.setCell ⟨R,i,none⟩ (.int .i64 (v:Int))) s A c n R X (λj=>if j=i then v else rank j) ps nx:=by
 have hx:=h.rx;refine⟨h.below.setCell (p:=⟨R,i,none⟩) (by show s<=R;omega) _,by simpa[World.setCell] using h.sz,h.n_.setNe _ ?_,h.pl.setNe _ ?_,h.fd.setNe _ ?_,?_,h.rb.setNe _ ?_,h.nx.setNe _ ?_,hx⟩
 case refine_4=>rw[←iCells_set hi];exact h.rk.set i _
 all_goals (show _≠R;omega)
theorem NF.setNx (h:NF w wr s A c n R X rank ps nx){i v:Nat}(hi:i<n):NF w (wr.setCell ⟨X,i,none⟩ (.int .i64 (v:Int))) s A c n R X rank ps (λj=>if j=i then v else nx j):=by
 have hx:=h.rx;refine⟨h.below.setCell (p:=⟨X,i,none⟩) (by show s<=X;omega) _,by simpa[World.setCell] using h.sz,h.n_.setNe _ ?_,h.pl.setNe _ ?_,h.fd.setNe _ ?_,h.rk.setNe _ ?_,h.rb.setNe _ ?_,?_,hx⟩
 case refine_6=>rw[←iCells_set hi];exact h.nx.set i _
 all_goals (show _≠X;omega)
theorem NF.swap (h:NF w wr s A c n R X rank ps nx):NF w (wr.setCell ⟨s+4,0,none⟩ (.slice (some ⟨X,0,none⟩) n n)) s A c n X R nx ps rank:=by
 have hx:=h.rx;refine⟨h.below.setCell (p:=⟨s+4,0,none⟩) (by show s<=s+4;omega) _,by simpa[World.setCell] using h.sz,h.n_.setNe _ ?_,h.pl.setNe _ ?_,h.fd.setNe _ ?_,h.nx.setNe _ ?_,?_,h.rk.setNe _ ?_,hx.symm.imp (λh=>⟨h.2,h.1⟩) λh=>⟨h.2,h.1⟩⟩
 case refine_5=>exact h.rb.set 0 _
 all_goals (show _≠s+4;omega)
theorem NF.sorted {w2:World}{L:Nat}{sy':Nat->Nat}{ps':Nat->Nat}(h:NF w wr s A c n R X rank ps nx)(k:Sorted_ wr w2 (s+1) n L sy' ps'):NF w w2 s A c n R X rank ps' nx:=by
 have hx:=h.rx;have hsz:=h.sz;have hk:∀b,b≠s+1->b<wr.heap.size->w2.heap[b]? = wr.heap[b]?:=λb hne hb=>k.on.keep b hb hne
 refine⟨⟨k.os.trans h.below.os,k.tape.trans h.below.tape,k.output.trans h.below.output,Nat.le_trans h.below.size k.on.le,λb hb=>(hk b (by omega) (by omega)).trans (h.below.block b hb)⟩,Nat.le_trans hsz k.on.le,h.n_.keep (hk _ ?_ ?_),k.blk,h.fd.keep (hk _ ?_ ?_),h.rk.keep (hk _ ?_ ?_),h.rb.keep (hk _ ?_ ?_),h.nx.keep (hk _ ?_ ?_),hx⟩;all_goals omega
end
def abV (s:Nat):Value:=.func (.func 72) #[] #[.pointer (some ⟨s,0,none⟩),.pointer (some ⟨s+4,0,none⟩)]
structure LC (w wr:World) (s:Nat) (A:Option Addr) (c n:Nat) (R X:Nat) (rank ps nx:Nat->Nat) (hb half:Nat):Prop where
 nf:NF w wr s A c n R X rank ps nx
 ab:Blk wr (s+6) 149 [abV s]
 hbk:Blk wr hb 3 [.int .i64 (half:Int)]
 hge:s+7<=hb
section
variable {w wr:World} {s:Nat} {A:Option Addr} {c n R X:Nat} {rank ps nx:Nat->Nat} {hb half:Nat}
theorem LC.drewN (h:LC w wr s A c n R X rank ps nx hb half)(k:Nat):LC w (wr.drewN k) s A c n R X rank ps nx hb half:=⟨h.nf.drewN k,h.ab,h.hbk,h.hge⟩
theorem LC.setNx (h:LC w wr s A c n R X rank ps nx hb half){i v:Nat}(hi:i<n):LC w (wr.setCell ⟨X,i,none⟩ (.int .i64 (v:Int))) s A c n R X rank ps (λj=>if j=i then v else nx j) hb half:=by
 have hx:=h.nf.rx;have hg:=h.hge;exact⟨h.nf.setNx hi,h.ab.setNe _ (by show s+6≠X;omega),h.hbk.setNe _ (by show hb≠X;omega),hg⟩
theorem LC.env (h:LC w wr s A c n R X rank ps nx hb half)(h1:n<=4096)(h2:∀i,i<n->rank i<=100000)(h3:half<=100000):Env wr s (s+4) (s+6) hb R n half rank:=
 ⟨h.nf.n_.cell rfl,h.nf.rb.cell rfl,h.ab.cell rfl,h.hbk.cell rfl,λi hi=>h.nf.rk.cell (iCells_get hi),h2,h1,h3⟩
theorem LC.sorted {w2:World}{L:Nat}{sy':Nat->Nat}{ps':Nat->Nat}(h:LC w wr s A c n R X rank ps nx hb half)(k:Sorted_ wr w2 (s+1) n L sy' ps'):LC w w2 s A c n R X rank ps' nx hb half:=by
 have hg:=h.hge;exact⟨h.nf.sorted k,h.ab.keep (k.on.keep _ h.ab.lt (by show ¬s+6=s+1;omega)),h.hbk.keep (k.on.keep _ h.hbk.lt (by show ¬hb=s+1;omega)),hg⟩
end
structure Nx (sy':Nat->Nat) (L:Nat) (ps nx:Nat->Nat) (j:Nat):Prop where
 first:0<j->nx (ps 0)=0
 step:∀t,t+1<j->(ltK sy' L (ps t) (ps (t+1))->nx (ps (t+1))=nx (ps t)+1)/\(¬ltK sy' L (ps t) (ps (t+1))->nx (ps (t+1))=nx (ps t))
 le:∀t,t<j->nx (ps t)<=t
theorem Nx.upd {sy':Nat->Nat}{L n:Nat}{ps nx:Nat->Nat}{j v:Nat}(hp:Pm n ps)(h:Nx sy' L ps nx j)(hj:j<n)(h0:j=0->v=0)(h1:0<j->(ltK sy' L (ps (j-1)) (ps j)->v=nx (ps (j-1))+1)/\(¬ltK sy' L (ps (j-1)) (ps j)->v=nx (ps (j-1)))) :
  Nx sy' L ps (λi=>if i=ps j then v else nx i) (j+1):=by
 have hne:∀t,t<j->ps t≠ps j:=λt ht e=>by have:=hp.inj t j (by omega) hj e;omega
 refine⟨λ_=>?_,λt ht=>?_,λt ht=>?_⟩
 ·show (if ps 0=ps j then v else nx (ps 0))=0;by_cases e:j=0
  ·subst e;rw[if_pos rfl];exact h0 rfl
  ·rw[if_neg (hne 0 (by omega))];exact h.first (by omega)
 ·show (_->(if ps (t+1)=ps j then v else nx (ps (t+1)))=(if ps t=ps j then v else nx (ps t))+1)/\(_->(if ps (t+1)=ps j then v else nx (ps (t+1)))=(if ps t=ps j then v else nx (ps t)));by_cases e:t+1=j
  ·subst e;rw[if_pos rfl,if_neg (hne t (by omega))];have:=h1 (by omega);simpa using this
  ·rw[if_neg (hne (t+1) (by omega)),if_neg (hne t (by omega))];exact h.step t (by omega)
 ·show (if ps t=ps j then v else nx (ps t))<=t;by_cases e:t=j
  ·subst e;rw[if_pos rfl];by_cases z:t=0
   ·rw[h0 z];omega
   ·obtain⟨a1,a2⟩:=h1 (by omega);have:=h.le (t-1) (by omega);by_cases y:ltK sy' L (ps (t-1)) (ps t)
    ·rw[a1 y];omega
    ·rw[a2 y];omega
  ·rw[if_neg (hne t (by omega))];exact h.le t (by omega)
theorem iCells_zero_upd (f:Nat->Nat)(k:Nat):(λj=>if j=k then f k else if j<k then f j else 0)=λj=>if j<k+1 then f j else 0:=by
 funext j
 by_cases h:j=k
 ·subst h;rw[if_pos rfl,if_pos (by omega)]
 ·rw[if_neg h];by_cases h2:j<k
  ·rw[if_pos h2,if_pos (by omega)]
  ·rw[if_neg h2,if_neg (by omega)]
end Go.Proofs.YtkmgcggoemlaaaaGreatDoor
end
section
/- newFinder. -/
set_option maxHeartbeats 8000000
set_option maxRecDepth 100000
namespace Go.Proofs.YtkmgcggoemlaaaaGreatDoor
open Go.RowKit Go.Fwm Go.Lib Go.Sort
theorem NF.start (w:World)(A:Option Addr)(c n:Nat)(zs:List Value)(hz:zs=iCells n λ_=>0) :
  NF w ((((((w.alloc (.cells #[.int .i64 (n:Int)] 3)).alloc (.cells zs.toArray 3)).alloc (.cells #[.slice A n c,.slice (some ⟨w.heap.size+1,0,none⟩) n n] 148)).alloc (.cells zs.toArray 3)).alloc (.cells #[.slice (some ⟨w.heap.size+1+1+1,0,none⟩) n n] 23)).alloc (.cells zs.toArray 3))
   w.heap.size A c n (w.heap.size+3) (w.heap.size+5) (λ_=>0) (λ_=>0) (λ_=>0):=by
 subst hz;have hb:=Below.refl w.heap.size w;have nw:∀(v:World) (cs:List Value) (t:TypeId) (b:Nat),b=v.heap.size->Blk (v.alloc (.cells cs.toArray t)) b t cs:=λv cs t b e=>by subst e;exact heap_alloc_new v _
 refine⟨((((((hb.alloc (Nat.le_refl _) _).alloc ?_ _).alloc ?_ _).alloc ?_ _).alloc ?_ _).alloc ?_ _),by simp,?_,?_,?_,?_,?_,?_,.inl ⟨rfl,rfl⟩⟩
 ·simp
 ·simp;omega
 ·simp;omega
 ·simp;omega
 ·simp;omega
 ·exact(((((nw w _ 3 _ rfl).alloc _).alloc _).alloc _).alloc _).alloc _
 ·exact((((nw _ _ 3 _ (by simp)).alloc _).alloc _).alloc _).alloc _
 ·exact(((nw _ _ 148 _ (by simp)).alloc _).alloc _).alloc _
 ·exact((nw _ _ 3 _ (by simp)).alloc _).alloc _
 ·exact(nw _ _ 23 _ (by simp)).alloc _
 ·exact nw _ _ 3 _ (by simp)
structure LB (w wr:World) (s:Nat) (A:Option Addr) (c n:Nat) (old:List UInt8) (R X:Nat) (rank ps nx:Nat->Nat) (k:Nat):Prop where
 nf:NF w wr s A c n R X rank ps nx
 ab:Blk wr (s+6) 149 [abV s]
 sz:s+7<=wr.heap.size
 pm:Pm n ps
 rl:∀i,i<n->rank i<=100000
 k1:1<=k
 k2:k<=2*n+1
 ok:(k=1/\RankOk (sy old) n rank 1)\/∃K,k=K+K/\0<K/\RankOk (sy old) n rank K
theorem LB.half {w wr:World}{s:Nat}{A:Option Addr}{c n:Nat}{old:List UInt8}{R X:Nat}{rank ps nx:Nat->Nat}{k:Nat}(h:LB w wr s A c n old R X rank ps nx k)(hl:old.length=n)(hn:n<=4096) :
  ∃half,half<=100000/\Tells (sy old) n k (cfv rank n half)/\((k=1/\half=n)\/(k≠1/\k=half+half)):=by
 have h2:=h.k2;rcases h.ok with⟨rfl,hr⟩|⟨K,rfl,h0,hr⟩
 ·exact⟨n,by omega,tells_one hr,.inl ⟨rfl,rfl⟩⟩
 ·exact⟨K,by omega,tells_two (by rw[←hl];exact sy_ends old) h0 hr,.inr ⟨by omega,rfl⟩⟩
theorem upd_upd (f:Nat->Nat)(p u v:Nat):(λj=>if j=p then v else (λj=>if j=p then u else f j) j)=λj=>if j=p then v else f j:=by
 funext j
 by_cases h:j=p
 ·simp[h]
 ·simp[h]
theorem NF.congr {w wr:World}{s:Nat}{A:Option Addr}{c n R X:Nat}{rank ps ps' nx:Nat->Nat}(h:NF w wr s A c n R X rank ps nx)(e:∀i,i<n->ps i=ps' i):NF w wr s A c n R X rank ps' nx:=
 ⟨h.below,h.sz,h.n_,by rw[←iCells_congr e];exact h.pl,h.fd,h.rk,h.rb,h.nx,h.rx⟩
theorem LC.next {w wr:World}{s:Nat}{A:Option Addr}{c n:Nat}{old:List UInt8}{R X:Nat}{rank ps' nx:Nat->Nat}{hb half k:Nat}(h:LC w wr s A c n R X rank ps' nx hb half)(hs:Srt (sy old) n k ps')(hx:Nx (sy old) k ps' nx n)(hk:k<n)(hk1:1<=k)(hn:n<=4096) :
  LB w (wr.setCell ⟨s+4,0,none⟩ (.slice (some ⟨X,0,none⟩) n n)) s A c n old X R nx ps' rank (2*k):=by
 have hg:=h.hge;have hrx:=h.nf.rx;obtain⟨r1,r2⟩:=ranks_new hs hx.first λj hj=>hx.step j hj
 refine⟨h.nf.swap,h.ab.setNe _ (by show s+6≠s+4;omega),?_,⟨hs.lt,hs.onto,hs.inj⟩,λi hi=>by have:=r2 i hi;omega,by omega,by omega,.inr ⟨k,by omega,by omega,r1⟩⟩;have:=h.hbk.lt;simp[World.setCell];omega
theorem newFinder_ok (w:World)(A:Option Addr)(n c:Nat)(old:List UInt8)(hl:old.length=n)(hle:n<=4096)(hc:n<=c)(hx:Bytes w A old)(hlt:∀a,A=some a->a.block<w.heap.size) :
  Calls Tryz.prog 61 #[.slice A n c] w λe w'=>e=.returned (.pointer (some ⟨w.heap.size+2,0,none⟩))/\Srt (sy old) n n (saOf old)/\∃R X rank nx,NF w w' w.heap.size A c n R X rank (saOf old) nx:=by
 obtain⟨s,hs⟩:∃s,w.heap.size=s:=⟨_,rfl⟩;have hmk:=run_make_int n (by omega);obtain⟨zs,hzs⟩:∃zs,zs=iCells n λ_=>0:=⟨_,rfl⟩
 rw[←hzs] at hmk;have HZ:=Lib.hid hzs;clear hzs;rw[hs];have HX:=Lib.hid hx;clear hx;have HS:=Lib.hid hs;clear hs;have HL:=Lib.hid hl;clear hl;have HLT:=Lib.hid hlt;clear hlt;go_enter Tryz.func61,Tryz.ntmps61
 go_wp2
 have hNF:=NF.start w A c n zs HZ.out;have hsz0:((((((w.alloc (.cells #[.int .i64 (n:Int)] 3)).alloc (.cells zs.toArray 3)).alloc (.cells #[.slice A n c,.slice (some ⟨w.heap.size+1,0,none⟩) n n] 148)).alloc (.cells zs.toArray 3)).alloc (.cells #[.slice (some ⟨w.heap.size+1+1+1,0,none⟩) n n] 23)).alloc (.cells zs.toArray 3)).heap.size=w.heap.size+6:=by simp
 generalize ((((((w.alloc (.cells #[.int .i64 (n:Int)] 3)).alloc (.cells zs.toArray 3)).alloc (.cells #[.slice A n c,.slice (some ⟨w.heap.size+1,0,none⟩) n n] 148)).alloc (.cells zs.toArray 3)).alloc (.cells #[.slice (some ⟨w.heap.size+1+1+1,0,none⟩) n n] 23)).alloc (.cells zs.toArray 3))=W at hNF hsz0 ⊢;simp only[Nat.add_assoc,Nat.reduceAdd];rw[HS.out] at hNF hsz0 ⊢;have HNF:=Lib.hid hNF;clear hNF hmk;go_loopw [26] (λi wr=>∃k:Nat,k<=n/\i=.int .i64 k/\NF w wr s A c n (s+3) (s+5) (λj=>if j<k then (old.getD j 0).toNat else 0) (λj=>if j<k then j else 0) (λ_=>0)/\wr.heap.size=s+6) (λi _=>n-(intOf i).toNat)
 case atStart=>exact⟨0,Nat.zero_le _,rfl,by simpa using HNF.out,hsz0⟩
 case round=>
  obtain⟨k,hk,rfl,hN,hsz⟩:=hrel;by_cases hlt:k<n
  ·have f1:wr.cell? ⟨s+2,1,none⟩=some (.slice (some ⟨s+1,0,none⟩) n n):=hN.fd.cell rfl;have f2:wr.cell? ⟨s+4,0,none⟩=some (.slice (some ⟨s+3,0,none⟩) n n):=hN.rb.cell rfl;have f3:=hN.pl.cell (iCells_get hlt);have f4:=hN.rk.cell (iCells_get hlt);have f5:=hN.pl.free k;have f6:=hN.rk.free k;have hxw:Bytes wr A old:=HX.out.keep λa e h=>hN.below.block _ (by rw[HS.out] at h;exact h)
   obtain⟨bb,o,rfl,hck⟩:=hxw k (by rw[HL.out];exact hlt);have hv:old.getD k 0=old[k]'(by rw[HL.out];exact hlt):=by rw[List.getD_eq_getElem?_getD,List.getElem?_eq_getElem (by rw[HL.out];exact hlt)];rfl
   rw[←hv] at hck;clear hv hxw;obtain⟨y,hy⟩:∃y,(old.getD k 0).toNat=y:=⟨_,rfl⟩;have hy256:y<256:=by rw[←hy];exact(old.getD k 0).toNat_lt
   rw[hy] at hck;have hN2:=(hN.setPl (i:=k) (v:=k) hlt).setRk (i:=k) (v:=y) hlt;rw[←hy,iCells_zero_upd (λj=>j) k,iCells_zero_upd (λj=>(old.getD j 0).toNat) k,hy] at hN2;have HN:=Lib.hid hN2;clear hN2 hN hy;generalize (if k<k then k else 0)=v3 at f3;generalize (if k<k then (old.getD k 0).toNat else 0)=v4 at f4;go_wp2
   go_region
   go_wp2
   go_roundw
   case rel=>exact⟨k+1,by omega,by go_num,HN.out.drewN 1,by rw[←hsz];simp[World.setCell,World.drew]⟩
   case measure=>simp[intOf];omega
  ·obtain rfl:n=k:=by omega
   have hLB:LB w (wr.alloc (.cells #[abV s] 149)) s A c n old (s+3) (s+5) (λj=>if j<n then (old.getD j 0).toNat else 0) (λj=>if j<n then j else 0) (λ_=>0) 1:=by
    refine⟨hN.alloc _,by rw[←hsz];exact heap_alloc_new wr _,by simp;omega,⟨λi hi=>by simp[hi],λp hp=>⟨p,hp,by simp[hp]⟩,λi j hi hj e=>by simpa[hi,hj] using e⟩,λi hi=>?_,Nat.le_refl _,by omega,.inl ⟨rfl,?_⟩⟩
    ·simp only[hi,if_true];have:=(old.getD i 0).toNat_lt;omega
    ·have hr:=ranks_first old;rw[HL.out] at hr;intro p q hp hq;have:=hr p q hp hq;simpa[hp,hq] using this
   have HLB:=Lib.hid hLB;clear hLB hN;have HSZ:=Lib.hid hsz;clear hsz;go_wp2
   rw[HSZ.out];change Code.wp _ _ _ _ (wr.alloc (.cells #[abV s] 149));generalize wr.alloc (.cells #[abV s] 149)=W3 at HLB ⊢;go_loopw [6,9] (λnxs kk wr=>∃(k R X:Nat) (rank ps nx:Nat->Nat),nxs=.slice (some ⟨X,0,none⟩) n n/\kk=.int .i64 k/\LB w wr s A c n old R X rank ps nx k) (λ_ kk _=>2*n+2-(intOf kk).toNat)
   case atStart=>exact⟨1,_,_,_,_,_,rfl,rfl,HLB.out⟩
   case round=>
    obtain⟨k,R,X,rank,ps,nx,rfl,rfl,hB⟩:=hrel;obtain⟨half,hh,ht,hcase⟩:=hB.half HL.out hle;have hLC:LC w (wr.alloc (.cells #[.int .i64 (half:Int)] 3)) s A c n R X rank ps nx wr.heap.size half:=⟨hB.nf.alloc _,hB.ab.alloc _,heap_alloc_new wr _,hB.sz⟩;have hrx:=hB.nf.rx;have hsz7:=hB.sz;have hk2:=hB.k2;have hk1:=hB.k1;have hSO:=sort_ok _ s (s+4) (s+6) wr.heap.size R (s+1) n half k rank (sy old) ps (hLC.env hle hB.rl hh) (by omega) (by omega) (by omega) (by omega) (by omega) ht hB.pm hLC.nf.pl;have g0:∀v:Int,(wr.alloc (.cells #[.int .i64 v] 3)).cell? ⟨s,0,none⟩=some (.int .i64 (n:Int)):=λv=>(hB.nf.n_.alloc _).cell rfl
    have g1:(wr.alloc (.cells #[.int .i64 (half:Int)] 3)).cell? ⟨s+2,1,none⟩=some (.slice (some ⟨s+1,0,none⟩) n n):=hLC.nf.fd.cell rfl;obtain⟨kk,hkk⟩:∃kk,kk=k:=⟨_,rfl⟩;have hh0:=hh;rw[←hkk] at ht hSO hk1 hk2;have HKK:=Lib.hid hkk;clear hkk;have HB:=Lib.hid hB;clear hB;have HLC:=Lib.hid hLC;clear hLC;have HSO:=Lib.hid hSO;clear hSO;have HT:=Lib.hid ht;clear ht;have HH:=Lib.hid hh0;clear hh0 hh;rcases hcase with⟨h1,h2⟩|⟨h1,h2⟩
    case' inl=>
     have HLC':LC w (wr.alloc (.cells #[.int .i64 (n:Int)] 3)) s A c n R X rank ps nx wr.heap.size half:=by
      have:=HLC.out;rw[h2] at this ⊢;exact this
     clear HLC;have HLC:=Lib.hid HLC';clear HLC';rw[h2] at HSO g1;clear h2;subst h1
    case' inr=>
     subst h2;have e2:wrap64 (((half:Int)+(half:Int)).tdiv 2)=(half:Int):=by
      have hh:=HH.out;rw[Int.tdiv_eq_ediv_of_nonneg (by omega),show ((half:Int)+(half:Int))/2=(half:Int) by omega];unfold wrap64;omega
     have h1':¬((half:Int)+(half:Int)=1):=by omega
    all_goals (go_wp2_with (go_at_call 74;refine HSO.out.mono ?_;rintro e w2 ⟨rfl,ps',hsd⟩;have hLC2:=HLC.out.sorted hsd;have y1:w2.cell? ⟨s+2,1,none⟩=some (.slice (some ⟨s+1,0,none⟩) n n):=hLC2.nf.fd.cell rfl;have HLC2:=Lib.hid hLC2;clear hLC2;have HSD:=Lib.hid hsd;clear hsd))
    all_goals
     (clear HSO HLC g0 g1 y1
      generalize wr.heap.size=hbx at HLC2 hsz7 ⊢;go_loopw [65] (λi wr=>∃(j:Nat) (nxj:Nat->Nat),j<=n/\i=.int .i64 j/\LC w wr s A c n R X rank ps' nxj hbx half/\Nx (sy old) kk ps' nxj j) (λi _=>n-(intOf i).toNat)
      case atStart=>exact⟨0,nx,Nat.zero_le _,rfl,HLC2.out,⟨λh=>absurd h (by omega),λt h=>absurd h (by omega),λt h=>absurd h (by omega)⟩⟩
      case round=>
       obtain⟨j,nxj,hj,rfl,hq,hNx⟩:=hrel;by_cases hjn:j<n
       ·have hpm:Pm n ps':=⟨HSD.out.srt.lt,HSD.out.srt.onto,HSD.out.srt.inj⟩;obtain⟨p,hpe⟩:∃p,p=ps' j:=⟨_,rfl⟩;have hp:p<n:=by rw[hpe];exact hpm.lt j hjn
        have c1:wr.cell? ⟨s+1,j,none⟩=some (.int .i64 (p:Int)):=by rw[hpe];exact hq.nf.pl.cell (iCells_get hjn)
        have c2:=hq.nf.nx.cell (iCells_get hp);have c3:=hq.nf.nx.free p;have q1:LC w (wr.setCell ⟨X,p,none⟩ (.int .i64 0)) s A c n R X rank ps' (λi=>if i=p then 0 else nxj i) hbx half:=hq.setNx (v:=0) hp;by_cases hj0:j=0
        ·subst hj0;have hN2:=hNx.upd (v:=0) hpm hjn (λ_=>rfl) (λh=>absurd h (by omega));rw[←hpe] at hN2;have Q1:=Lib.hid q1;clear q1 hq;have HN2:=Lib.hid hN2;clear hN2 hNx hpe;go_wp2
         go_roundw
         case rel=>exact⟨1,_,by omega,by go_num,Q1.out,HN2.out⟩
         case measure=>simp[intOf];omega
        ·obtain⟨t,rfl⟩:∃t,j=t+1:=⟨j-1,by omega⟩;obtain⟨q,hqe⟩:∃q,q=ps' t:=⟨_,rfl⟩;have hqn:q<n:=by rw[hqe];exact hpm.lt t (by omega)
         have hqp:q≠p:=λe=>by have:=hpm.inj t (t+1) (by omega) hjn (by rw[←hqe,←hpe,e]);omega
         have d1:(wr.setCell ⟨X,p,none⟩ (.int .i64 0)).cell? ⟨s+2,1,none⟩=some (.slice (some ⟨s+1,0,none⟩) n n):=q1.nf.fd.cell rfl;have d2:(wr.setCell ⟨X,p,none⟩ (.int .i64 0)).cell? ⟨s+1,t,none⟩=some (.int .i64 (q:Int)):=by rw[hqe];exact q1.nf.pl.cell (iCells_get (by omega))
         obtain⟨v,hv⟩:∃v,nxj q=v:=⟨_,rfl⟩;have hvl:v<=4096:=by have:=hNx.le t (by omega);rw[←hqe,hv] at this;omega
         have d3:(wr.setCell ⟨X,p,none⟩ (.int .i64 0)).cell? ⟨X,q,none⟩=some (.int .i64 (v:Int)):=by
          have:=q1.nf.nx.cell (iCells_get hqn);rw[if_neg hqp,hv] at this;exact this
         have d4:=q1.nf.nx.cell (iCells_get hp);have d5:=q1.nf.nx.free p;have q2:=q1.setNx (v:=v) hp;rw[upd_upd] at q2;have e1:((wr.setCell ⟨X,p,none⟩ (.int .i64 0)).setCell ⟨X,p,none⟩ (.int .i64 (v:Int))).cell? ⟨s+2,1,none⟩=some (.slice (some ⟨s+1,0,none⟩) n n):=q2.nf.fd.cell rfl;have e2:((wr.setCell ⟨X,p,none⟩ (.int .i64 0)).setCell ⟨X,p,none⟩ (.int .i64 (v:Int))).cell? ⟨s+1,t,none⟩=some (.int .i64 (q:Int)):=by rw[hqe];exact q2.nf.pl.cell (iCells_get (by omega))
         have e3:((wr.setCell ⟨X,p,none⟩ (.int .i64 0)).setCell ⟨X,p,none⟩ (.int .i64 (v:Int))).cell? ⟨X,p,none⟩=some (.int .i64 (v:Int)):=by
          have:=q2.nf.nx.cell (iCells_get hp);rw[if_pos rfl] at this;exact this
         have e4:=q2.nf.nx.free p;have hor:=order_ok _ s (s+4) (s+6) hbx R n half rank (q2.env hle HB.out.rl HH.out) q p hqn hp;have hnlt:¬ltK (sy old) kk p q:=by rw[hpe,hqe];exact HSD.out.srt.srt t (t+1) (by omega) hjn
         have htl:=HT.out.eq q p hqn hp;by_cases hlt:ltK (sy old) kk q p
         ·have hcf:(cfv rank n half q p != 0)=true:=by
           simp only[bne_iff_ne,ne_eq];exact λe=>(htl.1 e).not_lt hlt
          generalize cfv rank n half q p=cf at hor hcf;have q3:=q2.setNx (v:=v+1) hp;rw[upd_upd] at q3;have hN2:=hNx.upd (v:=v+1) hpm hjn (λh=>absurd h (by omega)) (λ_=>by rw[Nat.add_sub_cancel,←hpe,←hqe,hv];exact⟨λ_=>rfl,λh=>absurd hlt h⟩);rw[←hpe] at hN2;have Q3:=Lib.hid q3;clear q3 q2 q1 hq;have HN2:=Lib.hid hN2;clear hN2 hNx hpe hqe;have HOR:=Lib.hid hor;clear hor htl hv;go_wp2_with (go_at_call 73;refine HOR.out.mono ?_;rintro e w3 ⟨rfl,dq,rfl⟩)
          go_roundw
          case rel=>exact⟨t+1+1,_,by omega,by go_num,Q3.out.drewN dq,HN2.out⟩
          case measure=>simp[intOf];omega
         ·have hcf:(cfv rank n half q p != 0)=false:=by
           have:cfv rank n half q p=0:=htl.2 (by rcases tri (sy old) kk q p with x | x | x;exact absurd x hlt;exact x;exact absurd x hnlt);rw[this];rfl
          generalize cfv rank n half q p=cf at hor hcf;have hN2:=hNx.upd (v:=v) hpm hjn (λh=>absurd h (by omega)) (λ_=>by rw[Nat.add_sub_cancel,←hpe,←hqe,hv];exact⟨λh=>absurd h hlt,λ_=>rfl⟩);rw[←hpe] at hN2;have Q2:=Lib.hid q2;clear q2 q1 hq;have HN2:=Lib.hid hN2;clear hN2 hNx hpe hqe;have HOR:=Lib.hid hor;clear hor htl hv;go_wp2_with (go_at_call 73;refine HOR.out.mono ?_;rintro e w3 ⟨rfl,dq,rfl⟩)
          go_roundw
          case rel=>exact⟨t+1+1,_,by omega,by go_num,Q2.out.drewN dq,HN2.out⟩
          case measure=>simp[intOf];omega
       ·obtain rfl:n=j:=by omega
        have hki:=HKK.out;have f1:wr.cell? ⟨s+4,0,none⟩=some (.slice (some ⟨R,0,none⟩) n n):=hq.nf.rb.cell rfl;have f3:=hq.nf.rb.free 0;have f2:(wr.setCell ⟨s+4,0,none⟩ (.slice (some ⟨X,0,none⟩) n n)).cell? ⟨s,0,none⟩=some (.int .i64 (n:Int)):=(hq.nf.n_.setNe _ (by show s≠s+4;omega)).cell rfl;by_cases hkn:n<=kk
        ·have hfin:NF w (wr.setCell ⟨s+4,0,none⟩ (.slice (some ⟨X,0,none⟩) n n)) s A c n X R nxj (saOf old) rank:=by
          have h1:=HSD.out.srt;have hl:=HL.out;have h2:=(saOf_srt (old:=old) (L:=kk) (ps:=ps') (by rw[hl];exact h1) (by rw[hl];exact hkn)).2;exact hq.nf.swap.congr λi hi=>h2 i (by rw[hl];exact hi)
         have hsa:Srt (sy old) n n (saOf old):=by
          have h1:=HSD.out.srt;have hl:=HL.out;have h2:=(saOf_srt (old:=old) (L:=kk) (ps:=ps') (by rw[hl];exact h1) (by rw[hl];exact hkn)).1;rw[hl] at h2;exact h2
         have HSA:=Lib.hid hsa;clear hsa;have HF:=Lib.hid hfin;clear hfin hq hNx;go_wp2
         go_ret
         exact⟨rfl,HSA.out,X,R,nxj,rank,HF.out⟩
        ·have hnx:=hq.next HSD.out.srt hNx (by omega) hk1 hle;have HN:=Lib.hid hnx;clear hnx hq hNx;go_wp2
         go_roundw
         case rel=>exact⟨2*kk,X,R,nxj,ps',rank,rfl,by first | (rw[hki];done) | (rw[hki];go_num),HN.out⟩
         case measure=>simp[intOf]<;>omega)
end Go.Proofs.YtkmgcggoemlaaaaGreatDoor
end
section
/- patch.beside. -/
namespace Go.Proofs.YtkmgcggoemlaaaaGreatDoor
open Go.RowKit Go.Fwm
theorem step_append_row {w:World}{ops:Array Oper}{o:Oper}{a:Act}{K:Act->World->Prop}{Q:Exit->Act->World->Prop}{E:Prop}(hgd:o.guard=none)(s x:Operand)(ho:o.op=.call { callee:=.builtin .append,args:=#[s,x],argTypes:=#[22,22] })
  (v:Value) (zs news:List UInt8) (A:Option Addr) (m c:Nat) (hs:a.eval s=v) (hrow:Row w v zs) (hx:a.eval x=.slice A m c) (hl:news.length=m) (h0:0<m) (hb:Bytes w A news) (hlen:zs.length+m<=100000000)
  (h:∀v' w',App w w' v v' (zs++news)->K (a.put o.dst v') w'):if Region.wanted o (yielded ops a.tmps)=true then Oper.wp Tryz.prog o a w K Q else E:=by
 have hw:Region.wanted o (yielded ops a.tmps)=true:=by simp[Region.wanted,hgd]
 rw[if_pos hw];obtain⟨v',w',hr,h2⟩:=append_run o.type hrow (c:=c) hl h0 hb hlen;unfold Oper.wp execOp;simp only[ho,resolve,invoke,builtin,Sem.run_bind,Sem.run_pure,Result.andThen_ok,List.map_toArray,List.map_cons,List.map_nil,hs,hx,hr];exact h v' w' h2
theorem Row.lt {w:World}{v:Value}{zs:List UInt8}(h:Row w v zs){g:Nat}(hg:v.ownBlock=some g):g<w.heap.size:=by
 rcases h.2 with⟨rfl,_⟩|⟨g',cap,cur,rfl,_,hc,_⟩
 ·cases hg
 ·simp only[Value.ownBlock,Option.some.injEq] at hg;subst hg;exact(Array.getElem?_eq_some_iff.1 hc).1
theorem App.blk {w w':World}{v v':Value}{zs:List UInt8}(h:App w w' v v' zs){b:Nat}{o:Obj}(hb:w.heap[b]? = some o)(hne:v.ownBlock≠some b):w'.heap[b]? = some o:=
 (h.grown.block b (Array.getElem?_eq_some_iff.1 hb).1 (λe=>hne e.symm)).trans hb
theorem App.cell {w w':World}{v v':Value}{zs:List UInt8}(h:App w w' v v' zs){a:Addr}{x:Value}(ha:w.cell? a=some x)(hne:v.ownBlock≠some a.block):w'.cell? a=some x:=
 (World.cell?_of_block (h.grown.block a.block (block_lt_of_cell ha) (λe=>hne e.symm))).trans ha
theorem App.own_ne {w w':World}{v v':Value}{zs:List UInt8}(h:App w w' v v' zs){b:Nat}(hb:b<w.heap.size)(hne:v.ownBlock≠some b):v'.ownBlock≠some b:=λe=>by
 rcases h.wh b e with x|x
 ·exact hne x
 ·omega
theorem App.lt {w w':World}{v v':Value}{zs:List UInt8}(h:App w w' v v' zs){b:Nat}(hb:b<w.heap.size):b<w'.heap.size:=Nat.lt_of_lt_of_le hb h.grown.size
theorem lt_alloc {w:World}{b:Nat}(h:b<w.heap.size)(o:Obj):b<(w.alloc o).heap.size:=by simp;omega
theorem bytes_one1 {w:World}{b:Nat}(z:UInt8)(h:w.heap[b]? = some (.cells #[.int .u8 (z.toNat:Int)] 5 (0,0))):Bytes w (some ⟨b,0,none⟩) [z]:=by
 have:Blk w b 5 ([z].map enc++[]):=by rw[List.append_nil];exact h
 exact Bytes.of_blk this
theorem App.allocR {w w':World}{v v':Value}{zs:List UInt8}(h:App w w' v v' zs)(o:Obj):App w (w'.alloc o) v v' zs:=h.trans (App.allocd h.own o)
theorem App.drewNR {w w':World}{v v':Value}{zs:List UInt8}(h:App w w' v v' zs)(k:Nat):App w (w'.drewN k) v v' zs:=⟨h.own.drewN k,⟨h.grown.os,h.grown.tape,h.grown.output,h.grown.size,h.grown.block⟩,h.wh⟩
theorem wayC {W w1 w2:World}{v v1 v2:Value}{zs zs1 zs2:List UInt8}{o1:Obj}(hR:Row W v zs)(y:UInt8)(ha1:App ((W.alloc o1).alloc (.cells #[.int .u8 (y.toNat:Int)] 5)) w1 v v1 zs1)(ha2:App w1 w2 v1 v2 zs2):Bytes w2 (some ⟨W.heap.size+1,0,none⟩) [y]:=by
 have hb:((W.alloc o1).alloc (.cells #[.int .u8 (y.toNat:Int)] 5)).heap[W.heap.size+1]? = some (.cells #[.int .u8 (y.toNat:Int)] 5 (0,0)):=by
  have:=heap_alloc_new (W.alloc o1) (.cells #[.int .u8 (y.toNat:Int)] 5);simpa using this
 have h1:v.ownBlock≠some (W.heap.size+1):=λe=>by have:=hR.lt e;omega
 exact bytes_one1 y (ha2.blk (ha1.blk hb h1) (ha1.own_ne (Array.getElem?_eq_some_iff.1 hb).1 h1))
theorem wayB {W w1 w2:World}{v v1 v2:Value}{zs zs1 zs2:List UInt8}{o1:Obj}(hR:Row W v zs)(y:UInt8)(ha1:App ((W.alloc (.cells #[.int .u8 (y.toNat:Int)] 5)).alloc o1) w1 v v1 zs1)(ha2:App w1 w2 v1 v2 zs2):Bytes w2 (some ⟨W.heap.size,0,none⟩) [y]:=by
 have hb:((W.alloc (.cells #[.int .u8 (y.toNat:Int)] 5)).alloc o1).heap[W.heap.size]? = some (.cells #[.int .u8 (y.toNat:Int)] 5 (0,0)):=
  (heap_alloc_old _ o1 (by simp)).trans (heap_alloc_new W _)
 have h1:v.ownBlock≠some W.heap.size:=λe=>by have:=hR.lt e;omega
 exact bytes_one1 y (ha2.blk (ha1.blk hb h1) (ha1.own_ne (Array.getElem?_eq_some_iff.1 hb).1 h1))
theorem bytes_old {W:World}{o1:Obj}(y:UInt8):Bytes ((W.alloc (.cells #[.int .u8 (y.toNat:Int)] 5)).alloc o1) (some ⟨W.heap.size,0,none⟩) [y]:=bytes_one1 y ((heap_alloc_old _ o1 (by simp)).trans (heap_alloc_new W _))
theorem bytes_new2 {W:World}{o1:Obj}(y:UInt8):Bytes ((W.alloc o1).alloc (.cells #[.int .u8 (y.toNat:Int)] 5)) (some ⟨W.heap.size+1,0,none⟩) [y]:=by
 have:=heap_alloc_new (W.alloc o1) (.cells #[.int .u8 (y.toNat:Int)] 5);exact bytes_one1 y (by simpa using this)
theorem wayD {W w1 w2:World}{v v1 v2:Value}{zs1 zs2:List UInt8}(y:UInt8)(ha1:App W w1 v v1 zs1)(ha2:App (w1.alloc (.cells #[.int .u8 (y.toNat:Int)] 5)) w2 v1 v2 zs2):Bytes w2 (some ⟨w1.heap.size,0,none⟩) [y]:=
 bytes_one1 y (ha2.blk (heap_alloc_new w1 _) λe=>by have:=ha1.own.lt e;omega)
end Go.Proofs.YtkmgcggoemlaaaaGreatDoor
end
section
/- patch.beside. -/
set_option maxHeartbeats 8000000
set_option maxRecDepth 100000
namespace Go.Proofs.YtkmgcggoemlaaaaGreatDoor
open Go.RowKit Go.Fwm
theorem diffs_le (old next:List UInt8):∀(k i:Nat),diffs old next k i<=k:=by
 intro k;induction k with
 | zero=>intro i;exact Nat.le_refl _
 | succ k ih=>intro i;unfold diffs;have:=ih (i+1);split<;>omega
theorem stepsB_le (old next:List UInt8):(encs (stepsB old next)).length<=4*(next.length+1)+5:=by
 have h1:(encs (stepsB old next)).length<=_:=bsd_len (old:=old) (next:=next) (next.length+1) 0 0;have h2:=diffs_le old next (next.length+1) 0
 omega
theorem pbeside_ok (w:World)(A B:Option Addr)(ca cb n:Nat)(old next:List UInt8)(hlo:old.length=n)(hln:next.length=n)(hn:n<=4096)(hx:Bytes w A old)(hy:Bytes w B next) :
  Calls Tryz.prog 47 #[.slice A n ca,.slice B n cb] w λe w'=>∃v',e=.returned v'/\App w w' (.slice none 0 0) v' (encs (stepsB old next)):=by
 have hle:=stepsB_le old next
 rw[hln] at hle;obtain⟨T,hT⟩:∃T,T=stepsB old next:=⟨_,rfl⟩
 rw[←hT] at hle ⊢;have hT0:bsd old next (n+1) 0 0=T:=by rw[hT];unfold stepsB;rw[hln]
 have HT:=Lib.hid hT0;clear hT0 hT;have HX:=Lib.hid hx;clear hx;have HY:=Lib.hid hy;clear hy;have HLO:=Lib.hid hlo;clear hlo;have HLN:=Lib.hid hln;clear hln;go_enter Tryz.func47,Tryz.ntmps47
 go_wp2
 go_loopw [5,6,10] (λbv av iv wr=>∃(bv':Value) (i a:Nat) (done:List Stp),bv'=bv/\i<=n/\a<=i/\iv=.int .i64 i/\av=.int .i64 a/\App w wr (.slice none 0 0) bv' (encs done)/\done++bsd old next (n+1-i) i a=T) (λ_ _ iv _=>n-(intOf iv).toNat)
 case atStart=>exact⟨_,0,0,[],rfl,Nat.zero_le _,Nat.le_refl _,rfl,rfl,App.refl (Row.nil w),HT.out⟩
 case round=>
  obtain⟨bv,i,a,done,rfl,hi,hai,rfl,rfl,hA,hd⟩:=hrel;have hdl:(encs done).length<=20000:=by
   have:(encs done).length<=(encs T).length:=by rw[←hd,encs_app,List.length_append];omega
   omega
  by_cases hin:i<n
  ·have hkeep:∀b,b<w.heap.size->wr.heap[b]? = w.heap[b]?:=λb hb=>hA.grown.block b hb (by intro e;cases e)
   obtain⟨bx,ox,rfl,hcx⟩:=(HX.out.keep λa _ hlt=>hkeep _ hlt) i (by rw[HLO.out];exact hin);obtain⟨by_,oy,rfl,hcy⟩:=(HY.out.keep λa _ hlt=>hkeep _ hlt) i (by rw[HLN.out];exact hin);have hbl:by_<w.heap.size:=by
    obtain⟨b',o',e,hc⟩:=HY.out i (by rw[HLN.out];exact hin);cases e;exact block_lt_of_cell hc
   have hd2:=hd;rw[show n+1-i=(n-i)+1 by omega] at hd2;unfold bsd at hd2;rw[if_pos (by rw[HLN.out];exact hin)] at hd2;have gx:old.getD i 0=old[i]'(by rw[HLO.out];exact hin):=by rw[List.getD_eq_getElem?_getD,List.getElem?_eq_getElem (by rw[HLO.out];exact hin)];rfl
   have gy:next.getD i 0=next[i]'(by rw[HLN.out];exact hin):=by rw[List.getD_eq_getElem?_getD,List.getElem?_eq_getElem (by rw[HLN.out];exact hin)];rfl
   rw[←gx] at hcx;rw[←gy] at hcy;clear gx gy hd;generalize old.getD i 0=x at hcx hd2;generalize next.getD i 0=y at hcy hd2
   by_cases hxy:y≠x
   ·rw[if_pos hxy] at hd2;have hb:((y.toNat:Int) != (x.toNat:Int))=true:=by
     simp only[bne_iff_ne,ne_eq];exact λe=>hxy (UInt8.toNat_inj.1 (by omega))
    have hi0:(0:Int)<=(i:Int):=Int.natCast_nonneg _;have hi1:(i:Int)<(n:Int):=by omega
    have hne:bv.ownBlock≠some by_:=λe=>by
     rcases hA.wh by_ e with z|z
     ·cases z
     ·omega
    have HA:=Lib.hid hA;clear hA;have HD:=Lib.hid hd2;clear hd2;have HK:=Lib.hid hkeep;clear hkeep;have HR:=Lib.hid HA.out.own;have j1:IntKind.i64.wrap ((i:Int)-(a:Int))=(i:Int)-(a:Int):=IntWalk.i64_in _ (by omega);go_wp2
    go_quiet (fail)
    go_wp2
    have hnum:∀W v zs,Row W v zs->zs.length<=10000000->Calls Tryz.prog 49 #[v,.int .i64 ((i:Int)-(a:Int))] W λe w'=>∃v',e=.returned v'/\App W w' v v' (zs++num (i-a)):=λW v zs h1 h2=>by
     rw[show (i:Int)-(a:Int)=((i-a:Nat):Int) by omega];exact pnumber_ok W v zs h1 h2 (i-a) (by omega)
    have HNUM:=Lib.hid hnum;clear hnum;have hlen0:(encs done).length+1<=100000000:=by omega
    have hlen1:(encs done++[2]).length<=10000000:=by simp;omega
    have hlen2:(encs done++[2]++num (i-a)).length+1<=100000000:=by
     have:=(num_len (i-a)).1;simp only[List.length_append,List.length_cons,List.length_nil];omega
    have hblr:by_<wr.heap.size:=Nat.lt_of_lt_of_le hbl HA.out.grown.size;go_region_held3 (λw'=>w'.cell? ⟨by_,oy+i,none⟩=some (.int .u8 (y.toNat:Int)))
     (first | go_keep | exact App.cell ha3 (by assumption) hne2 | exact App.cell ha2 (by assumption) hne1 | exact App.cell ha1 (by assumption) hne)
     (first
      |(refine step_append_row (by rfl) (.tmp 22) (.tmp 23) (by rfl) bv (encs done) [2] _ 1 1 (by rfl) ((HR.out.drewN _).alloc _) (by rfl) (by rfl) Nat.one_pos (bytes_one1 2 (heap_alloc_new _ _)) hlen0 ?_
        intro v1 w1 ha1;have hl1:=ha1.lt (lt_alloc (w:=wr.drewN _) hblr _);have hne1:=ha1.own_ne (lt_alloc (w:=wr.drewN _) hblr _) hne)
      |(refine step_append_row (by rfl) (.tmp 22) (.tmp 23) (by rfl) bv (encs done) [2] _ 1 1 (by rfl) (((HR.out.drewN _).alloc _).alloc _) (by rfl) (by rfl) Nat.one_pos (bytes_new2 (W:=wr.drewN _) 2) hlen0 ?_
        intro v1 w1 ha1;have hl1:=ha1.lt (lt_alloc (lt_alloc (w:=wr.drewN _) hblr _) _);have hne1:=ha1.own_ne (lt_alloc (lt_alloc (w:=wr.drewN _) hblr _) _) hne)
      |(refine step_append_row (by rfl) (.tmp 22) (.tmp 23) (by rfl) bv (encs done) [2] _ 1 1 (by rfl) (((HR.out.drewN _).alloc _).alloc _) (by rfl) (by rfl) Nat.one_pos (bytes_old (W:=wr.drewN _) 2) hlen0 ?_
        intro v1 w1 ha1;have hl1:=ha1.lt (lt_alloc (lt_alloc (w:=wr.drewN _) hblr _) _);have hne1:=ha1.own_ne (lt_alloc (lt_alloc (w:=wr.drewN _) hblr _) _) hne)
      |(go_at_call 49
        refine(HNUM.out _ _ (encs done++[2]) ha1.own hlen1).mono ?_;rintro e w2 ⟨v2,rfl,ha2⟩;have hne2:=ha2.own_ne hl1 hne1)
      |(go_at_call 49
        refine(HNUM.out _ _ (encs done++[2]) (ha1.own.alloc _) hlen1).mono ?_;rintro e w2 ⟨v2,rfl,ha2⟩;have hne2:=ha2.own_ne (lt_alloc hl1 _) hne1)
      |(refine step_append_row (by rfl) (.tmp 28) (.tmp 33) (by rfl) v2 (encs done++[2]++num (i-a)) [y] _ 1 1 (by rfl) (ha2.own.alloc _) (by rfl) (by rfl) Nat.one_pos (bytes_one1 y (heap_alloc_new _ _)) hlen2 ?_
        intro v3 w3 ha3)
      |(refine step_append_row (by rfl) (.tmp 28) (.tmp 33) (by rfl) v2 (encs done++[2]++num (i-a)) [y] _ 1 1 (by rfl) ha2.own (by rfl) (by rfl) Nat.one_pos (wayD y ha1 ha2) hlen2 ?_
        intro v3 w3 ha3)
      |(refine step_append_row (by rfl) (.tmp 28) (.tmp 33) (by rfl) v2 (encs done++[2]++num (i-a)) [y] _ 1 1 (by rfl) ha2.own (by rfl) (by rfl) Nat.one_pos (wayC (HR.out.drewN _) y ha1 ha2) hlen2 ?_
        intro v3 w3 ha3)
      |(refine step_append_row (by rfl) (.tmp 28) (.tmp 33) (by rfl) v2 (encs done++[2]++num (i-a)) [y] _ 1 1 (by rfl) ha2.own (by rfl) (by rfl) Nat.one_pos (wayB (HR.out.drewN _) y ha1 ha2) hlen2 ?_
        intro v3 w3 ha3))
    all_goals
     (have hch:App w w3 (.slice none 0 0) v3 (encs (done++[.beside (i-a) y])):=by
       have e:encs (done++[.beside (i-a) y])=encs done++[2]++num (i-a)++[y]:=by rw[encs_app];simp[encs,Stp.enc]
       rw[e];first
        | exact(((((HA.out.drewNR _).allocR _).trans ha1).trans ha2).allocR _).trans ha3
        | exact(((((HA.out.drewNR _).allocR _).allocR _).trans ha1).trans ha2).trans ha3
        | exact(((((HA.out.drewNR _).allocR _).trans ha1).allocR _).trans ha2).trans ha3
      have hT2:(done++[.beside (i-a) y])++bsd old next (n+1-(i+1)) (i+1) (i+1)=T:=by
       rw[show n+1-(i+1)=n-i by omega,List.append_assoc];exact HD.out
      have HCH:=Lib.hid hch;clear hch;have HT2:=Lib.hid hT2;clear hT2;clear ha1 ha2 ha3 hne1 hne2 hl1 j1;go_wp2
      go_roundw
      case rel=>exact⟨_,i+1,i+1,done++[.beside (i-a) y],rfl,by omega,Nat.le_refl _,by go_num,by go_num,HCH.out,HT2.out⟩
      case measure=>simp[intOf];omega)
   ·rw[if_neg hxy] at hd2;have hb:((y.toNat:Int) != (x.toNat:Int))=false:=by
     have:y=x:=Classical.byContradiction hxy;rw[this];simp
    have hT2:done++bsd old next (n+1-(i+1)) (i+1) a=T:=by
     rw[show n+1-(i+1)=n-i by omega];exact hd2
    have HA:=Lib.hid hA;clear hA;have HT2:=Lib.hid hT2;clear hd2 hT2;clear hkeep;go_wp2
    go_quiet (fail)
    go_wp2
    go_roundw
    case rel=>exact⟨_,i+1,a,done,rfl,by omega,by omega,by go_num,rfl,HA.out.drewNR _,HT2.out⟩
    case measure=>simp[intOf];omega
  ·obtain rfl:n=i:=by omega
   rw[show n+1-n=0+1 by omega] at hd;unfold bsd at hd;rw[if_neg (by rw[HLN.out];omega),HLN.out] at hd;have HA:=Lib.hid hA;clear hA;by_cases han:a<n
   ·rw[if_pos han] at hd;have hnum1:∀W v zs,Row W v zs->zs.length<=10000000->Calls Tryz.prog 49 #[v,.int .i64 ((n:Int)-(a:Int))] W λe w'=>∃v',e=.returned v'/\App W w' v v' (zs++num (n-a)):=λW v zs h1 h2=>by
     rw[show (n:Int)-(a:Int)=((n-a:Nat):Int) by omega];exact pnumber_ok W v zs h1 h2 (n-a) (by omega)
    have hnum2:∀W v zs,Row W v zs->zs.length<=10000000->Calls Tryz.prog 49 #[v,.int .i64 (a:Int)] W λe w'=>∃v',e=.returned v'/\App W w' v v' (zs++num a):=λW v zs h1 h2=>pnumber_ok W v zs h1 h2 a (by omega)
    have HN1:=Lib.hid hnum1;clear hnum1;have HN2:=Lib.hid hnum2;clear hnum2;have hlen0:(encs done).length+1<=100000000:=by omega
    have hlen1:(encs done++[1]).length<=10000000:=by simp;omega
    have hlen2:(encs done++[1]++num (n-a)).length<=10000000:=by
     have:=(num_len (n-a)).1;simp only[List.length_append,List.length_cons,List.length_nil];omega
    have e:encs T=encs done++[1]++num (n-a)++num a:=by rw[←hd,encs_app];simp[encs,Stp.enc]
    have HE:=Lib.hid e;clear e hd;go_wp2_with (first
     | (at_builtin;refine wpList_append_row rfl (.tmp 42) (.tmp 43) rfl _ (encs done) [1] _ 1 1 rfl (HA.out.own.alloc _) rfl rfl Nat.one_pos (bytes_one1 1 (heap_alloc_new _ _)) hlen0 ?_;intro v1 w1 ha1;have HA1:=Lib.hid ha1;clear ha1)
     | (go_at_call_of 49 (v1);refine(HN1.out _ _ _ HA1.out.own hlen1).mono ?_;rintro e w2 ⟨v2,rfl,ha2⟩;have HA2:=Lib.hid ha2;clear ha2)
     | (go_at_call_of 49 (v2);refine(HN2.out _ _ _ HA2.out.own hlen2).mono ?_;rintro e w3 ⟨v3,rfl,ha3⟩;have HA3:=Lib.hid ha3;clear ha3))
    go_ret
    exact⟨_,rfl,by rw[HE.out];exact(((HA.out.allocR _).trans HA1.out).trans HA2.out).trans HA3.out⟩
   ·rw[if_neg han,List.append_nil] at hd;subst hd;go_wp2
    go_ret
    exact⟨_,rfl,HA.out⟩
end Go.Proofs.YtkmgcggoemlaaaaGreatDoor
end
section
/- What single operations come to. -/
namespace Go.Proofs.YtkmgcggoemlaaaaGreatDoor
open Go Go.Fw Go.RowKit Go.Fwm
section
variable {ρ:Operand->Value} {o:Oper} {W:World} {x y:Operand} {v:Value}
theorem ex_move (ho:o.op=.move x)(hx:ρ x=v):(execOp ρ o).run Tryz.prog W=.ok (.value v) W:=by
 unfold execOp;simp only[ho,hx];rfl
theorem ex_assign (ho:o.op=.assign x)(hx:ρ x=v):(execOp ρ o).run Tryz.prog W=.ok (.value v) W:=by
 unfold execOp;simp only[ho,hx];rfl
theorem ex_load3 {a:Addr}(ho:o.op=.load 3 x)(hx:ρ x=.pointer (some a))(hc:W.cell? a=some v)(h1:∃i,v=.int .i64 i):(execOp ρ o).run Tryz.prog W=.ok (.value v) W:=by
 unfold execOp;simp only[ho,hx];obtain⟨i,rfl⟩:=h1;go_simp
theorem ex_load22 {a:Addr}(ho:o.op=.load 22 x)(hx:ρ x=.pointer (some a))(hc:W.cell? a=some v):(execOp ρ o).run Tryz.prog W=.ok (.value v) W:=by
 unfold execOp;simp only[ho,hx];go_simp
theorem ex_load123 {a:Addr}(ho:o.op=.load 123 x)(hx:ρ x=.pointer (some a))(hc:W.cell? a=some v):(execOp ρ o).run Tryz.prog W=.ok (.value v) W:=by
 unfold execOp;simp only[ho,hx];go_simp
theorem ex_len {A:Option Addr}{l c:Nat}(ho:o.op=.call { callee:=.builtin .len,args:=#[x],argTypes:=#[22] })(hx:ρ x=.slice A l c):(execOp ρ o).run Tryz.prog W=.ok (.value (.int .i64 (l:Int))) W:=by
 unfold execOp;simp only[ho,resolve,List.map_toArray,List.map_cons,List.map_nil,hx];go_simp
theorem ex_lss {i j:Int}(ho:o.op=.binOp .lss 3 x y 3)(hx:ρ x=.int .i64 i)(hy:ρ y=.int .i64 j):(execOp ρ o).run Tryz.prog W=.ok (.value (.bool (decide (i<j)))) W:=by
 unfold execOp;simp only[ho,hx,hy];go_simp
theorem ex_add {i j:Int}(ho:o.op=.binOp .add 3 x y 3)(hx:ρ x=.int .i64 i)(hy:ρ y=.int .i64 j)(h1:-1000000<=i/\i<=1000000)(h2:-1000000<=j/\j<=1000000):(execOp ρ o).run Tryz.prog W=.ok (.value (.int .i64 (i+j))) W:=by
 unfold execOp;simp only[ho,hx,hy];go_simp;exact IntWalk.i64_in _ (by omega)
theorem ex_addN {i j:Nat}(ho:o.op=.binOp .add 3 x y 3)(hx:ρ x=.int .i64 (i:Int))(hy:ρ y=.int .i64 (j:Int))(h1:i+j<=1000000):(execOp ρ o).run Tryz.prog W=.ok (.value (.int .i64 ((i+j:Nat):Int))) W:=by
 rw[ex_add ho hx hy (by omega) (by omega)];simp
theorem ex_extract {vs:Array Value}{i:Nat}(ho:o.op=.extract x i)(hx:ρ x=.tuple vs)(hv:vs[i]? = some v):(execOp ρ o).run Tryz.prog W=.ok (.value v) W:=by
 unfold execOp;simp only[ho,hx];go_simp
theorem ex_from {z:Operand}{A:Option Addr}{l c i:Nat}(ho:o.op=.slice 22 x (some y) none none)(hx:ρ x=.slice A l c)(hy:ρ y=.int .i64 (i:Int))(h1:i<=l)(h2:l<=c) :
  (execOp ρ o).run Tryz.prog W=.ok (.value (.slice (if c=i then A else Option.map (λp=>p.add i) A) (l-i) (c-i))) W:=by
 unfold execOp;simp only[ho,hx,hy,Option.map_some,Option.map_none];go_simp
theorem ex_part {z:Operand}{A:Option Addr}{l c i j:Nat}(ho:o.op=.slice 22 x (some y) (some z) none)(hx:ρ x=.slice A l c)(hy:ρ y=.int .i64 (i:Int))(hz:ρ z=.int .i64 (j:Int))(h1:i<=j)(h2:j<=l)(h3:l<=c) :
  (execOp ρ o).run Tryz.prog W=.ok (.value (.slice (if c=i then A else Option.map (λp=>p.add i) A) (j-i) (c-i))) W:=by
 have h4:j<=c:=by omega
 unfold execOp;simp only[ho,hx,hy,hz,Option.map_some,Option.map_none];go_simp
theorem ex_run {i:Int}{A:Option Addr}{l c:Nat}(ho:o.op=.build 127 #[(0,x),(1,y)])(hx:ρ x=.int .i64 i)(hy:ρ y=.slice A l c):(execOp ρ o).run Tryz.prog W=.ok (.value (.agg #[.int .i64 i,.slice A l c])) W:=by
 unfold execOp;simp only[ho,List.map_toArray,List.map_cons,List.map_nil,hx,hy];go_simp
theorem ex_box22 {A:Option Addr}{l c:Nat}(ho:o.op=.box 22 x)(hx:ρ x=.slice A l c):(execOp ρ o).run Tryz.prog W=.ok (.value (.pointer (some ⟨W.heap.size,0,none⟩))) (W.alloc (.cells #[.slice A l c] 22)):=by
 unfold execOp;simp only[ho,hx];go_simp
theorem ex_box123 {c:Nat}(ho:o.op=.box 123 x)(hx:ρ x=.chan (some c)):(execOp ρ o).run Tryz.prog W=.ok (.value (.pointer (some ⟨W.heap.size,0,none⟩))) (W.alloc (.cells #[.chan (some c)] 123)):=by
 unfold execOp;simp only[ho,hx];go_simp
theorem ex_alloc3 (ho:o.op=.alloc 3):(execOp ρ o).run Tryz.prog W=.ok (.value (.pointer (some ⟨W.heap.size,0,none⟩))) (W.alloc (.cells #[.int .i64 0] 3)):=by
 unfold execOp;simp only[ho];go_simp
theorem ex_store3 {a:Addr}{i:Int}{u:Value}(ho:o.op=.store 3 x y)(hx:ρ x=.pointer (some a))(hy:ρ y=.int .i64 i)(hc:W.cell? a=some u)(hf:W.frozen? a=false):(execOp ρ o).run Tryz.prog W=.ok .skip (W.setCell a (.int .i64 i)):=by
 unfold execOp;simp only[ho,hx,hy];go_simp
end
theorem hm_:Tryz.prog.follows .mixedOrders=true:=by kernel_rfl
end Go.Proofs.YtkmgcggoemlaaaaGreatDoor
end
section
/- Find's closure sends a run of its own, if there is one. -/
set_option maxHeartbeats 2000000
set_option maxRecDepth 100000
namespace Go.Proofs.YtkmgcggoemlaaaaGreatDoor
open Go Go.Fw Go.RowKit Go.Fwm
def partV (A:Option Addr)(c i j:Nat):Value:=.slice (if c=i then A else Option.map (λp=>p.add i) A) (j-i) (c-i)
def runV (A:Option Addr)(c:Nat)(r:Rn):Value:=.agg #[.int .i64 r.fr,partV A c r.i r.j]
theorem res_none {fn:Func}(h:fn.results=#[])(T:Array Value):resV fn T=.tuple #[]:=by unfold resV;rw[h];simp[Fw.one]
theorem find1_snd {cch:Nat}{L:List Value}{ob cb nxb own e n cp:Nat}{A:Option Addr}{w:World}{cfr:Frame}{cs:List Frame}(ho:w.cell? ⟨ob,0,none⟩=some (.int .i64 (own:Int)))(hcb:w.cell? ⟨cb,0,none⟩=some (.chan (some cch)))(hnx:w.cell? ⟨nxb,0,none⟩=some (.slice A n cp))
  (hoe:own<=e) (hen:e<=n) (hcp:n<=cp) (hn:n<=4096) (hc:AtOp cfr) (hk:∀w',w'.heap=w.heap->Snd Tryz.prog FN cch L (cfr.finish (.tuple #[]) :: cs) w') :
  Snd Tryz.prog FN cch ((sndR own e).map (runV A cp)++L) (Frame.enter Tryz.prog 62 #[.int .i64 (e:Int),.pointer (some ⟨ob,0,none⟩),.pointer (some ⟨cb,0,none⟩),.pointer (some ⟨nxb,0,none⟩)] .normal :: cfr :: cs) w:=by
 have hJ:=snd_clo (P:=Tryz.prog) (FN:=FN) cch ((sndR own e).map (runV A cp)++L);rw[enter_fa _ _ 14 Tryz.func62 rfl rfl (by simp)];refine hJ.seq (hJ.region ?_);refine hJ.opf lst rfl rfl (by kernel_rfl) rfl (w':=w) (λtp=>ex_load3 rfl (fa_eval (by decide)) ho ⟨_,rfl⟩) ?_;refine hJ.opf lst rfl rfl (by kernel_rfl) rfl (w':=w) (λtp=>ex_move rfl (fa_eval (by decide))) ?_;refine hJ.opf lst rfl rfl (by kernel_rfl) rfl (w':=w) (λtp=>ex_lss rfl ((fa_eval (by decide)).trans rfl) ((fa_eval (by decide)).trans rfl)) ?_;refine hJ.region_end (hJ.cond ((fa_eval (by decide)).trans rfl) ?_);by_cases hlt:own<e
 ·have hd:decide ((own:Int)<(e:Int))=true:=by simp;omega
  rw[hd];have hcell:∀(W:World) (a:Addr),W.heap=w.heap->W.cell? a=w.cell? a:=λW a hW=>World.cell?_of_block (by rw[hW])
  refine hJ.drawn lst hm_ (m:=6) (val:=λi=>#[Value.chan (some cch),.slice A n cp,.int .i64 (own:Int),.int .i64 (e:Int),partV A cp own e,runV A cp ⟨-1,own,e⟩].getD i undef) (d:=λi=>#[8,9,10,11,12,13].getD i 0) (pr:=λi=>#[[],[],[],[],[1,2,3],[4],[0,5]].getD i []) (ylds_of (by kernel_rfl) (λi hi=>?_) (by decide) (λL h1 h2=>?_)) (λg w' hw hg=>?_)
  ·have hi6:i=0\/i=1\/i=2\/i=3\/i=4\/i=5:=by omega
   rcases hi6 with rfl|rfl|rfl|rfl|rfl|rfl
   ·exact⟨_,rfl,rfl,by kernel_rfl,rfl,λg hp hx W hW=>ex_load123 rfl ((fa_eval (by decide)).trans (hx 2 (by decide))) ((hcell W _ hW).trans hcb)⟩
   ·exact⟨_,rfl,rfl,by kernel_rfl,rfl,λg hp hx W hW=>ex_load22 rfl ((fa_eval (by decide)).trans (hx 3 (by decide))) ((hcell W _ hW).trans hnx)⟩
   ·exact⟨_,rfl,rfl,by kernel_rfl,rfl,λg hp hx W hW=>ex_load3 rfl ((fa_eval (by decide)).trans (hx 1 (by decide))) ((hcell W _ hW).trans ho) ⟨_,rfl⟩⟩
   ·exact⟨_,rfl,rfl,by kernel_rfl,rfl,λg hp hx W hW=>ex_move rfl ((fa_eval (by decide)).trans (hx 0 (by decide)))⟩
   ·exact⟨_,rfl,rfl,by kernel_rfl,rfl,λg hp hx W hW=>ex_part (y:=.tmp 10) rfl ((fa_eval (by decide)).trans (hp 1 (by decide))) ((fa_eval (by decide)).trans (hp 2 (by decide))) ((fa_eval (by decide)).trans (hp 3 (by decide))) hoe hen hcp⟩
   ·exact⟨_,rfl,rfl,by kernel_rfl,rfl,λg hp hx W hW=>ex_run rfl rfl ((fa_eval (by decide)).trans (hp 4 (by decide)))⟩
  ·have a0:=h2 0 (by decide);have a5:=h2 5 (by decide);have a4:=h1 5 (by decide) a5 4 (by decide);have a1:=h1 4 (by decide) a4 1 (by decide);have a2:=h1 4 (by decide) a4 2 (by decide);have a3:=h1 4 (by decide) a4 3 (by decide);intro i hi;have hi6:i=0\/i=1\/i=2\/i=3\/i=4\/i=5:=by omega
   rcases hi6 with rfl | rfl | rfl | rfl | rfl | rfl<;>assumption
  ·have e1:sndR own e=[⟨-1,own,e⟩]:=by unfold sndR;rw[if_pos hlt]
   rw[e1];show Snd Tryz.prog FN cch (runV A cp ⟨-1,own,e⟩ :: L) _ _;refine .send (by simp) (simSend_at rfl rfl rfl rfl rfl ((fa_eval (by decide)).trans (hg 8)) ((fa_eval (by decide)).trans (hg 13))) ?_;have hJ2:=snd_clo (P:=Tryz.prog) (FN:=FN) cch L;refine hJ2.region_end (hJ2.end_ (hJ2.leave rfl rfl rfl Tryz.func62 (by kernel_rfl) hc ?_));rw[res_none (by kernel_rfl)];exact hk w' hw
 ·have hd:decide ((own:Int)<(e:Int))=false:=by simp;omega
  rw[hd];refine hJ.skip (hJ.end_ ?_);refine hJ.leave rfl rfl rfl Tryz.func62 (by kernel_rfl) hc ?_;unfold sndR;rw[if_neg hlt];rw[res_none (by kernel_rfl)];exact hk w rfl
end Go.Proofs.YtkmgcggoemlaaaaGreatDoor
end
