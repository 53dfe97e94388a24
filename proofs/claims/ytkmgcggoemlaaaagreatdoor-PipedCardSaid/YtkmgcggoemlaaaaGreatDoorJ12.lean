/-
  Part 12 of the common ground of this seat: what single parts show stands ahead of each.
  No condition.
-/
import Derived.Test.YtkmgcggoemlaaaaGreatDoorJ11
import Derived.Test.YtkmgcggoemlaaaaGreatDoorJ09
import Derived.IntWalk
import Derived.WalkSpells
import Derived.Outline
import Derived.Laws.BitsAllLaws
import Derived.StillTailTactics
set_option linter.unusedSimpArgs false
set_option linter.unusedVariables false
set_option linter.constructorNameAsVariable false
section
/- How a flash and an applier lie in memory. -/
namespace Go.Proofs.YtkmgcggoemlaaaaGreatDoor
open Go.RowKit Go.Fwm
def Blk (w:World)(b:Nat)(t:TypeId)(cs:List Value):Prop:=w.heap[b]? = some (.cells cs.toArray t (0,0))
section
variable {w w':World} {b:Nat} {t:TypeId} {cs:List Value}
theorem Blk.lt (h:Blk w b t cs):b<w.heap.size:=(Array.getElem?_eq_some_iff.1 h).1
theorem Blk.cell (h:Blk w b t cs){i:Nat}{v:Value}(hv:cs[i]? = some v):w.cell? ⟨b,i,none⟩=some v:=by
 rw[World.cell_blk h];simpa using hv
theorem Blk.free (h:Blk w b t cs)(i:Nat):w.frozen? ⟨b,i,none⟩=false:=World.frozen_blk h i
theorem Blk.set (h:Blk w b t cs)(i:Nat)(v:Value):Blk (w.setCell ⟨b,i,none⟩ v) b t (cs.set i v):=by
 unfold Blk at h ⊢;simp[World.setCell,Array.getElem?_modify,h]
theorem Blk.keep (h:Blk w b t cs)(e:w'.heap[b]? = w.heap[b]?):Blk w' b t cs:=e.trans h
theorem Blk.setNe (h:Blk w b t cs){a:Addr}(v:Value)(hne:b≠a.block):Blk (w.setCell a v) b t cs:=h.keep (Below.heap_setCell w a v b hne)
theorem Blk.alloc (h:Blk w b t cs)(o:Obj):Blk (w.alloc o) b t cs:=h.keep (heap_alloc_old w o h.lt)
theorem Blk.drewN (h:Blk w b t cs)(k:Nat):Blk (w.drewN k) b t cs:=h
end
structure Only (F:Nat->Prop) (w w':World):Prop where
 le:w.heap.size<=w'.heap.size
 keep:∀b,b<w.heap.size->¬F b->w'.heap[b]? = w.heap[b]?
section
variable {F:Nat->Prop} {w w' w'':World}
theorem Only.refl (F:Nat->Prop)(w:World):Only F w w:=⟨Nat.le_refl _,λ_ _ _=>rfl⟩
theorem Only.trans (h:Only F w w'){F':Nat->Prop}(k:Only F' w' w'')(hF:∀b,b<w.heap.size->F' b->F b):Only F w w'':=
 ⟨Nat.le_trans h.le k.le,λb hb hn=>(k.keep b (Nat.lt_of_lt_of_le hb h.le) λx=>hn (hF b hb x)).trans (h.keep b hb hn)⟩
theorem Only.mono (h:Only F w w'){F':Nat->Prop}(hF:∀b,b<w.heap.size->F b->F' b):Only F' w w':=⟨h.le,λb hb hn=>h.keep b hb λx=>hn (hF b hb x)⟩
theorem Only.set (h:Only F w w'){a:Addr}(v:Value)(ha:F a.block\/w.heap.size<=a.block):Only F w (w'.setCell a v):=
 ⟨by simpa[World.setCell] using h.le,λb hb hn=>(Below.heap_setCell w' a v b (λe=>by subst e;rcases ha with x | x;exact hn x;omega)).trans (h.keep b hb hn)⟩
theorem Only.alloc (h:Only F w w')(o:Obj):Only F w (w'.alloc o):=
 ⟨by have:=h.le;simp;omega,λb hb hn=>(heap_alloc_old w' o (Nat.lt_of_lt_of_le hb h.le)).trans (h.keep b hb hn)⟩
theorem Only.drewN (h:Only F w w')(k:Nat):Only F w (w'.drewN k):=⟨h.le,h.keep⟩
theorem Only.drew (h:Only F w w'):Only F w w'.drew:=⟨h.le,h.keep⟩
theorem Only.below (h:Below w.heap.size w w'):Only F w w':=⟨h.size,λb hb _=>h.block b hb⟩
theorem Only.but {g:Nat}(h:But g w w')(hg:F g):Only F w w':=⟨by rw[h.size];exact Nat.le_refl _,λb hb hn=>h.block b λe=>hn (e ▸ hg)⟩
theorem Blk.only {b:Nat}{t:TypeId}{cs:List Value}(h:Blk w b t cs)(k:Only F w w')(hn:¬F b):Blk w' b t cs:=h.keep (k.keep b h.lt hn)
end
def Away (F:Nat->Prop)(A:Option Addr):Prop:=∀a,A=some a->¬F a.block
theorem Bytes.keep {w w':World}{A:Option Addr}{zs:List UInt8}(h:Bytes w A zs)(e:∀a,A=some a->a.block<w.heap.size->w'.heap[a.block]? = w.heap[a.block]?):Bytes w' A zs:=by
 intro k hk;obtain⟨b,o,rfl,hc⟩:=h k hk;exact⟨b,o,rfl,by rw[World.cell?_of_block (a:=⟨b,o+k,none⟩) (e ⟨b,o,none⟩ rfl (block_lt_of_cell (a:=⟨b,o+k,none⟩) hc))];exact hc⟩
theorem Bytes.only {F:Nat->Prop}{w w':World}{A:Option Addr}{zs:List UInt8}(h:Bytes w A zs)(k:Only F w w')(hn:Away F A):Bytes w' A zs:=
 h.keep λa ha hlt=>k.keep _ hlt (hn a ha)
theorem Bytes.nil (w:World)(A:Option Addr):Bytes w A []:=λk hk=>by cases hk
theorem Bytes.of_blk {w:World}{b:Nat}{zs:List UInt8}{rest:List Value}{t:TypeId}(h:Blk w b t (zs.map enc++rest)):Bytes w (some ⟨b,0,none⟩) zs:=λk hk=>
 ⟨b,0,rfl,by rw[Nat.zero_add];exact h.cell (by rw[List.getElem?_append_left (by simpa using hk)];simp[enc,hk])⟩
theorem Bytes.of_piece {w:World}{g:Nat}{zs:List UInt8}{cap:Nat}(h:Piece w g zs cap):Bytes w (some ⟨g,0,none⟩) zs:=λk hk=>by
 obtain⟨cs,h1,h2,h3,h4⟩:=h;exact⟨g,0,rfl,by rw[Nat.zero_add,World.cell_blk h1];exact h4 k hk⟩
theorem Bytes.drop {w:World}{b o:Nat}{zs:List UInt8}(h:Bytes w (some ⟨b,o,none⟩) zs)(n:Nat):Bytes w (some ⟨b,o+n,none⟩) (zs.drop n):=λk hk=>by
 simp only[List.length_drop] at hk;obtain⟨b',o',e,hc⟩:=h (n+k) (by omega);cases e;exact⟨b,o+n,rfl,by rw[Nat.add_assoc];simpa using hc⟩
theorem Bytes.take {w:World}{A:Option Addr}{zs:List UInt8}(h:Bytes w A zs)(n:Nat):Bytes w A (zs.take n):=λk hk=>by
 simp only[List.length_take] at hk;obtain⟨b,o,e,hc⟩:=h k (by omega);exact⟨b,o,e,by simpa using hc⟩
def errV:Option Nat->Value
 | none=>.nilIface
 | some n=>.iface 30 (.int .i64 (n:Int))
def FltV (w:World)(F:Nat->Prop)(v:Value):Flt->Prop
 | .none=>v=.nilIface
 | .errno n=>v=.iface 30 (.int .i64 (n:Int))
 | .wrapped n=>∃b at_,v=.iface 96 (.pointer (some ⟨b,0,none⟩))/\¬F b/\Blk w b 98 [.int .i64 at_,.int .i64 (n:Int)]
theorem FltV.only {F F':Nat->Prop}{w w':World}{v:Value}{x:Flt}(h:FltV w F v x)(k:Only F w w')(hF:∀b,b<w.heap.size->F' b->F b):FltV w' F' v x:=by
 cases x with
 | none=>exact h
 | errno n=>exact h
 | wrapped n=>
  obtain⟨b,a,h1,h2,h3⟩:=h;exact⟨b,a,h1,λx=>h2 (hF b h3.lt x),h3.only k h2⟩
def flCells (f:Fl)(ao:Option Addr)(co bf cf:Nat)(ve:Value):List Value:=
 [.slice ao f.old.length co,.slice (some ⟨bf,0,none⟩) f.fresh.length cf,ve,.int .i64 (f.length:Int),.bool f.committed,.int .i64 f.wait,.int .u8 (f.torn.toNat:Int),.int .i64 (f.reads:Int),.int .i64 (f.longest:Int)]
def evCells:List (Nat × Nat)->List Value
 | []=>[]
 | (k,p) :: l=>.int .i64 (k:Int) :: .int .i64 (p:Int) :: evCells l
theorem evCells_app (l m:List (Nat × Nat)):evCells (l++m)=evCells l++evCells m:=by
 induction l with
 | nil=>rfl
 | cons x l ih=>obtain⟨k,p⟩:=x;simp[evCells,ih]
def EvV (w:World)(be:Nat)(v:Value)(l:List (Nat × Nat)):Prop:=
 w.ownsRow 0 80 2 v l.length (evCells l)/\∀k,v.ownBlock=some k->k=be
def FF (pf bf be:Nat)(b:Nat):Prop:=b=pf\/b=bf\/b=be
def AF_ (X:Nat->Prop)(pf bf be:Nat)(b:Nat):Prop:=X b\/b=pf\/b=bf\/b=be
structure FRep (w:World) (X:Nat->Prop) (pf bf be:Nat) (f:Fl):Prop where
 blk:∃ao co cf ve,Blk w pf 76 (flCells f ao co bf cf ve)/\Bytes w ao f.old/\Away (AF_ X pf bf be) ao/\(∀a,ao=some a->a.block<w.heap.size)/\EvV w be ve f.events/\f.fresh.length<=cf/\cf<=maxLen/\f.old.length<=co/\co<=maxLen/\(ao=none->co=0)
 fresh:Blk w bf 5 (f.fresh.map enc)
 ne1:pf≠bf
 ne2:pf≠be
 ne3:bf≠be
 belt:be<w.heap.size
 old_le:f.old.length<=4096
 fresh_le:f.fresh.length<=4096
 ev_le:f.events.length<=1000000000
 len_le:f.length<=f.fresh.length
 wait_le:f.wait<=1000000000/\-1<=f.wait
 reads_le:f.reads<=1000000000000
 longest_le:f.longest<=1000000
def stF:St->FuncId
 | .oldSize=>43 | .oldSum=>59 | .newSize=>71 | .step=>84 | .counted=>97 | .own=>105 | .place=>106 | .beside=>107 | .fin=>85 | .over=>98
def stV (s:St):Value:=.func (.func (stF s)) #[] #[]
def apCells (a:Ap)(pf:Nat)(vf vb:Value):List Value:=
 [.pointer (some ⟨pf,0,none⟩),stV a.st,.int .i64 (a.at_:Int),.int .u32 (a.sum:Int),vf,.int .u32 (a.value:Int),.int .i64 a.digits,.int .i64 (a.size:Int),.int .i64 (a.length:Int),.int .i64 (a.made:Int),.int .i64 (a.count:Int),.int .u8 (a.op:Int)]++(a.page.map enc++[vb])
structure AInv (a:Ap):Prop where
 page:a.page.length=64
 value:a.value<4294967296
 sum:a.sum<4294967296
 digits:-1<=a.digits/\a.digits<=4
 size:a.size<=4096
 length:a.length<=4096
 made:a.made<=4096
 count:a.count<=4096
 op:a.op<256
 at_:a.at_<=1000000000000
def PX (pa:Nat)(G:Nat->Prop)(b:Nat):Prop:=b=pa\/G b
structure ARep (w:World) (G:Nat->Prop) (pa pf bf be:Nat) (a:Ap) (f:Fl):Prop where
 blk:∃vf A c,Blk w pa 93 (apCells a pf vf (.slice A a.buf.length c))/\FltV w (AF_ (PX pa G) pf bf be) vf a.fault/\Bytes w A a.buf/\Away (AF_ (PX pa G) pf bf be) A/\(∀x,A=some x->x.block<w.heap.size)/\a.buf.length<=c/\c<=maxLen
 fl:FRep w (PX pa G) pf bf be f
 ne:pa≠pf/\pa≠bf/\pa≠be
 ng:¬G pa/\¬G pf/\¬G bf/\¬G be
 glt:∀b,G b->b<w.heap.size
 inv:AInv a
end Go.Proofs.YtkmgcggoemlaaaaGreatDoor
end
section
/- What the flash's calls do: cut, Size, Pages, page. -/
set_option maxHeartbeats 400000
namespace Go.Proofs.YtkmgcggoemlaaaaGreatDoor
open Go.RowKit Go.Fwm
def FTo (w:World)(X:Nat->Prop)(pf bf be:Nat)(f':Fl)(w':World):Prop:=∃be',FRep w' X pf bf be' f'/\(be'=be\/w.heap.size<=be')/\Only (FF pf bf be) w w'
theorem FRep.wait_set {w:World}{X:Nat->Prop}{pf bf be:Nat}{f:Fl}(h:FRep w X pf bf be f){n:Int}(hn:n<=1000000000/\-1<=n):FRep (w.setCell ⟨pf,5,none⟩ (.int .i64 n)) X pf bf be { f with wait:=n }:=by
 obtain⟨⟨ao,co,cf,ve,h1,h2,h3,h4,h5,h6⟩,hfr,ne1,ne2,ne3,hb,o1,o2,o3,o4,o5,o6,o7⟩:=h;have hon:Only (λb=>b=pf) w (w.setCell ⟨pf,5,none⟩ (.int .i64 n)):=(Only.refl _ w).set _ (.inl rfl);refine⟨⟨ao,co,cf,ve,h1.set 5 _,h2.only hon λa ha=>?_,h3,λa ha=>Nat.lt_of_lt_of_le (h4 a ha) hon.le,⟨?_,h5.2⟩,h6⟩,hfr.setNe _ (Ne.symm ne1),ne1,ne2,ne3,Nat.lt_of_lt_of_le hb hon.le,o1,o2,o3,o4,hn,o6,o7⟩
 ·exact λe=>h3 a ha (.inr (.inl e))
 ·exact h5.1.kept (row:=some pf) ⟨rfl,rfl,rfl,hon.le,λk hk hne=>hon.keep k hk λe=>hne (by rw[e])⟩ (by
   cases hv:ve.ownBlock with
   | none=>exact .inl rfl
   | some k=>exact .inr λe=>by cases e;exact ne2 (h5.2 _ hv))
theorem cut_off (w:World)(X:Nat->Prop)(pf bf be:Nat)(f:Fl)(h:FRep w X pf bf be f)(hw:f.wait<0) :
  Calls Tryz.prog 60 #[.pointer (some ⟨pf,0,none⟩)] w λe w'=>e=.returned (.bool f.cutB)/\FTo w X pf bf be f.cut w':=by
 have e1:f.cutB=false:=by unfold Fl.cutB;simp;omega
 have e2:f.cut=f:=by unfold Fl.cut;rw[if_neg (by omega)]
 have hR:FTo w X pf bf be f w:=⟨be,h,.inl rfl,Only.refl _ _⟩;obtain⟨ao,co,cf,ve,h1,_⟩:=h.blk;have hc:w.cell? ⟨pf,5,none⟩=some (.int .i64 f.wait):=h1.cell rfl;rw[e1,e2];clear e1 e2 h h1;go_enter Tryz.func60,Tryz.ntmps60
 go_wp2
 go_ret
 exact⟨rfl,hR⟩
theorem cut_no (w:World)(X:Nat->Prop)(pf bf be:Nat)(f:Fl)(h:FRep w X pf bf be f)(hw:0<f.wait) :
  Calls Tryz.prog 60 #[.pointer (some ⟨pf,0,none⟩)] w λe w'=>e=.returned (.bool f.cutB)/\FTo w X pf bf be f.cut w':=by
 have e1:f.cutB=false:=by unfold Fl.cutB;simp;omega
 have e2:f.cut = { f with wait:=f.wait-1 }:=by unfold Fl.cut;rw[if_pos hw]
 have hwl:=h.wait_le;have hR:FTo w X pf bf be { f with wait:=f.wait-1 } (w.setCell ⟨pf,5,none⟩ (.int .i64 (f.wait-1))):=⟨be,h.wait_set (by omega),.inl rfl,(Only.refl _ _).set _ (.inl (.inl rfl))⟩;obtain⟨ao,co,cf,ve,h1,_⟩:=h.blk;have hc:w.cell? ⟨pf,5,none⟩=some (.int .i64 f.wait):=h1.cell rfl;have hf:=h1.free 5;rw[e1,e2];clear e1 e2 h h1;have hn:¬f.wait<0:=by omega
 go_enter Tryz.func60,Tryz.ntmps60
 go_wp2
 go_ret
 exact⟨rfl,hR⟩
theorem cut_yes (w:World)(X:Nat->Prop)(pf bf be:Nat)(f:Fl)(h:FRep w X pf bf be f)(hw:f.wait=0) :
  Calls Tryz.prog 60 #[.pointer (some ⟨pf,0,none⟩)] w λe w'=>e=.returned (.bool f.cutB)/\FTo w X pf bf be f.cut w':=by
 have e1:f.cutB=true:=by unfold Fl.cutB;simp[hw]
 have e2:f.cut=f:=by unfold Fl.cut;rw[if_neg (by omega)]
 have hR:FTo w X pf bf be f w:=⟨be,h,.inl rfl,Only.refl _ _⟩;obtain⟨ao,co,cf,ve,h1,_⟩:=h.blk;have hc:w.cell? ⟨pf,5,none⟩=some (.int .i64 f.wait):=h1.cell rfl;rw[hw] at hc;rw[e1,e2];clear e1 e2 h h1 hw;go_enter Tryz.func60,Tryz.ntmps60
 go_wp2
 go_ret
 exact⟨rfl,hR⟩
theorem cut_ok (w:World)(X:Nat->Prop)(pf bf be:Nat)(f:Fl)(h:FRep w X pf bf be f) :
  Calls Tryz.prog 60 #[.pointer (some ⟨pf,0,none⟩)] w λe w'=>e=.returned (.bool f.cutB)/\FTo w X pf bf be f.cut w':=by
 by_cases h1:f.wait<0
 ·exact cut_off w X pf bf be f h h1
 ·by_cases h2:0<f.wait
  ·exact cut_no w X pf bf be f h h2
  ·exact cut_yes w X pf bf be f h (by omega)
theorem size_ok (w:World)(X:Nat->Prop)(pf bf be:Nat)(f:Fl)(h:FRep w X pf bf be f) :
  Calls Tryz.prog 69 #[.pointer (some ⟨pf,0,none⟩)] w λe w'=>e=.returned (.int .i64 (f.old.length:Int))/\w=w':=by
 obtain⟨ao,co,cf,ve,h1,_⟩:=h.blk;have hc:w.cell? ⟨pf,0,none⟩=some (.slice ao f.old.length co):=h1.cell rfl;clear h h1;go_enter Tryz.func69,Tryz.ntmps69
 go_wp2
 go_ret
 exact⟨rfl,rfl⟩
theorem pages_ok (w:World)(X:Nat->Prop)(pf bf be:Nat)(f:Fl)(h:FRep w X pf bf be f) :
  Calls Tryz.prog 30 #[.pointer (some ⟨pf,0,none⟩)] w λe w'=>e=.returned (.int .i64 (f.pages:Int))/\w=w':=by
 obtain⟨ao,co,cf,ve,h1,_⟩:=h.blk;have hc:w.cell? ⟨pf,1,none⟩=some (.slice (some ⟨bf,0,none⟩) f.fresh.length cf):=h1.cell rfl;have hl:=h.fresh_le;have e:((f.pages:Nat):Int)=(f.fresh.length:Int)/64:=by unfold Fl.pages;omega
 rw[e];clear h h1 e;go_enter Tryz.func30,Tryz.ntmps30
 go_wp2
 go_ret
 exact⟨rfl,rfl⟩
theorem page_ok (w:World)(X:Nat->Prop)(pf bf be:Nat)(f:Fl)(h:FRep w X pf bf be f)(p:Nat) :
  Calls Tryz.prog 113 #[.pointer (some ⟨pf,0,none⟩),.int .i64 (p:Int)] w λe w'=>e=.returned (.bool (decide (p<f.pages)))/\w=w':=by
 have hp:=pages_ok w X pf bf be f h;go_enter Tryz.func113,Tryz.ntmps113
 go_wp2_with (go_at_call 30;refine hp.mono ?_;rintro e w' ⟨rfl,rfl⟩)
 go_ret
 exact⟨by simp,rfl⟩
end Go.Proofs.YtkmgcggoemlaaaaGreatDoor
end
section
/- The flash's events: an append to a row of one's own leaves it where it was, or lays a new one; Erase of a flash. -/
namespace Go
theorem append_where {P:Program}(w:World)(t ty e:TypeId)(i:TypeInfo)(z:Value)(size bytes:Nat)(ht:P.underlying t=some (.slice e))(hi:P.info? e=some i)(hz:i.zero=some z)
  (hsize:i.size=size) (hby:i.bytes=bytes) (hzs:z.cells.size=size) (hsz:0<size)
  (v:Value) (n:Nat) (xs:List Value) (hown:w.ownsRow 0 e size v n xs)
  (a:Addr) (m c:Nat) (news:List Value) (hl:news.length=m*size) (hnews:∀j u,news[j]? = some u->w.cell? (a.add j)=some u) (h1:∀u∈news,u.oneCell'=true)
  (h63:n+m<=maxLen) (hbytes:(n+m)*bytes<=140737488355328) :
  ∃v' w',(Builtin.append_ #[t,t] ty #[v,.slice (some a) m c]).run P w=.ok v' w'/\w'.ownsRow 0 e size v' (n+m) (xs++news)/\w.grownBy w' v.ownBlock/\∀k,v'.ownBlock=some k->v.ownBlock=some k\/w.heap.size<=k:=by
 obtain⟨v',w',hr,h2,h3,_⟩:=run_append_own (P:=P) w 0 t ty e i z size bytes ht hi hz hsize hby hzs hsz v n xs hown a m c news hl hnews h1 h63 hbytes (Nat.zero_le _);refine⟨v',w',hr,h2,h3,λk hk=>?_⟩;rcases hown.2 with⟨rfl,rfl⟩|⟨g,cap,cur,rfl,hbg,hg,hnc,hcm,hcs,htake⟩
 ·have hown':w.ownsRow w.heap.size e size (.slice none 0 0) 0 xs:=⟨hown.1,.inl ⟨rfl,rfl⟩⟩;obtain⟨v2,w2,hr2,q2,_,_⟩:=run_append_own (P:=P) w w.heap.size t ty e i z size bytes ht hi hz hsize hby hzs hsz (.slice none 0 0) 0 xs hown' a m c news hl hnews h1 h63 hbytes (Nat.le_refl _);rw[hr] at hr2;cases hr2;exact .inr (q2.lt k hk).1
 ·subst hsize;by_cases hroom:n+m<=cap
  ·have hfit:n*i.size+news.length<=cur.size:=by rw[hl,hcs,←Nat.add_mul];exact Nat.mul_le_mul_right _ hroom
   have hr2:=run_append_room (P:=P) w t ty e i ht hi g n cap cur hg a m c news hl hnews h1 hroom hfit;rw[hr] at hr2;cases hr2;exact .inl hk
  ·have holds:∀j u,xs[j]? = some u->w.cell? ((⟨g,0,none⟩:Addr).add j)=some u:=hown.cells (g:=g) rfl;simp only[maxLen] at h63;subst hby;have hr2:=run_append_grow (P:=P) w t ty e i z ht hi hz ⟨g,0,none⟩ n cap xs hown.1 holds a m c news hl hnews (by omega) (by omega) (growslice_fits (by omega) hbytes);rw[hr] at hr2;cases hr2;simp[Value.ownBlock] at hk;exact .inr (by omega)
theorem wpList_append_where {P:Program}{w:World}{ops:Array Oper}{rest:List Oper}{o:Oper}{a:Act}{Q:Exit->Act->World->Prop}(hgd:o.guard=none)(s x:Operand)(t:TypeId)
  (ho:o.op=.call { callee:=.builtin .append,args:=#[s,x],argTypes:=#[t,t] })
  (e:TypeId) (i:TypeInfo) (z:Value) (size bytes:Nat) (ht:P.underlying t=some (.slice e)) (hi:P.info? e=some i) (hz:i.zero=some z)
  (hsize:i.size=size) (hby:i.bytes=bytes) (hzs:z.cells.size=size) (hsz:0<size)
  (v:Value) (n:Nat) (xs:List Value) (hs:a.eval s=v) (hown:w.ownsRow 0 e size v n xs)
  (ad:Addr) (m c:Nat) (news:List Value) (hx:a.eval x=.slice (some ad) m c) (hl:news.length=m*size) (hnews:∀j u,news[j]? = some u->w.cell? (ad.add j)=some u) (h1:∀u∈news,u.oneCell'=true)
  (h63:n+m<=maxLen) (hbytes:(n+m)*bytes<=140737488355328)
  (h:∀v' w',w'.ownsRow 0 e size v' (n+m) (xs++news)->w.grownBy w' v.ownBlock->(∀k,v'.ownBlock=some k->v.ownBlock=some k\/w.heap.size<=k)->wpList P ops Q rest (a.put o.dst v') w'):wpList P ops Q (o :: rest) a w:=
 wpList_plain hgd λ_ hK=>by
  obtain⟨v',w',hr,h2,h3,h4⟩:=append_where (P:=P) w t o.type e i z size bytes ht hi hz hsize hby hzs hsz v n xs hown ad m c news hl hnews h1 h63 hbytes;unfold Oper.wp execOp;simp only[ho,resolve,invoke,builtin,Sem.run_bind,Sem.run_pure,Result.andThen_ok,List.map_toArray,List.map_cons,List.map_nil,hs,hx,hr];exact hK _ _ (h v' w' h2 h3 h4)
end Go
namespace Go.Proofs.YtkmgcggoemlaaaaGreatDoor
open Go.RowKit Go.Fwm
theorem info80:(Tryz.prog.info? 80).map (λi=>(i.zero,i.size,i.bytes))=some (some (.agg #[.int .i64 0,.int .i64 0]),2,16):=by kernel_rfl
theorem FRep.event {w w1 w2:World}{X:Nat->Prop}{pf bf be:Nat}{f:Fl}(h:FRep w X pf bf be f){ve v':Value}{ao:Option Addr}{co cf:Nat}(hb:Blk w pf 76 (flCells f ao co bf cf ve))(hve:EvV w be ve f.events)(k p:Nat)
  (hon:Only (λb=>some b=ve.ownBlock) w w1) (hown:w1.ownsRow 0 80 2 v' (f.events.length+1) (evCells f.events++[.int .i64 (k:Int),.int .i64 (p:Int)]))
  (hwh:∀b,v'.ownBlock=some b->ve.ownBlock=some b\/w.heap.size<=b) (he:f.events.length<1000000000) :
  ∃be',FRep (w1.setCell ⟨pf,2,none⟩ v') X pf bf be' { f with events:=f.events++[(k,p)] }/\(be'=be\/w.heap.size<=be')/\Only (FF pf bf be) w (w1.setCell ⟨pf,2,none⟩ v'):=by
 have hblk:=h.blk;obtain⟨⟨ao2,co2,cf2,ve2,g1,g2,g3,g4,g5,g6⟩,hfr,ne1,ne2,ne3,hbl,o1,o2,o3,o4,o5,o6,o7⟩:=h;have e:flCells f ao2 co2 bf cf2 ve2=flCells f ao co bf cf ve:=by
  have:=g1.symm.trans hb;simpa using this
 simp only[flCells,List.cons.injEq,Value.slice.injEq,and_true,true_and] at e;obtain⟨⟨rfl,rfl⟩,rfl,rfl⟩:=e;have nF:∀b,b≠be->¬(some b=ve2.ownBlock):=λb hb' e=>hb' (hve.2 b e.symm)
 have hfinal:Only (FF pf bf be) w (w1.setCell ⟨pf,2,none⟩ v'):=(hon.mono λb _ e=>.inr (.inr (hve.2 b e.symm))).set _ (.inl (.inl rfl));obtain⟨v0,hv0⟩:∃v0,v'.ownBlock=v0:=⟨_,rfl⟩;have hrow:∃be',(∀b,v'.ownBlock=some b->b=be')/\(be'=be\/w.heap.size<=be')/\be'<w1.heap.size:=by
  cases v0 with
  | none=>exact⟨be,λb hb'=>(by rw[hv0] at hb';cases hb'),.inl rfl,Nat.lt_of_lt_of_le hbl hon.le⟩
  | some g=>
   refine⟨g,λb hb'=>(by rw[hv0] at hb';cases hb';rfl),(hwh g hv0).imp (λx=>hve.2 g x) id,(hown.lt g hv0).2⟩
 obtain⟨be',r1,r2,r3⟩:=hrow;have nbe:∀b,b<w.heap.size->b≠be->b≠be':=λb hb1 hb2 e=>by subst e;rcases r2 with x | x;exact hb2 x;omega
 have hpf:pf<w.heap.size:=hb.lt;have hbf:bf<w.heap.size:=hfr.lt;refine⟨be',⟨⟨ao2,co2,cf2,v',?_,?_,?_,λa ha=>Nat.lt_of_lt_of_le (g4 a ha) hfinal.le,⟨?_,r1⟩,g6⟩,?_,ne1,nbe pf hpf ne2,nbe bf hbf ne3,by simpa[World.setCell] using r3,o1,o2,by simp;omega,o4,o5,o6,o7⟩,r2,hfinal⟩
 ·exact(hb.only hon (nF pf ne2)).set 2 v'
 ·exact g2.only hfinal λa ha x=>g3 a ha (.inr x)
 ·intro a ha x;rcases x with x|x|x|x
  ·exact g3 a ha (.inl x)
  ·exact g3 a ha (.inr (.inl x))
  ·exact g3 a ha (.inr (.inr (.inl x)))
  ·exact absurd x (nbe _ (g4 a ha) λe=>g3 a ha (.inr (.inr (.inr e))))
 ·have:(f.events++[(k,p)]).length=f.events.length+1:=by simp
  rw[this,evCells_app];refine World.ownsRow.kept (row:=some pf) hown ⟨rfl,rfl,rfl,by simp[World.setCell],λb hb' hne=>Below.heap_setCell w1 ⟨pf,2,none⟩ v' b (λe=>hne (by rw[e]))⟩ ?_;cases hv:v'.ownBlock with
  | none=>exact .inl rfl
  | some g=>exact .inr λe=>by cases e;exact nbe pf hpf ne2 (r1 pf hv)
 ·exact(hfr.only hon (nF bf ne3)).setNe _ (Ne.symm ne1)
end Go.Proofs.YtkmgcggoemlaaaaGreatDoor
end
section
/- Erase of a page. -/
set_option maxHeartbeats 2000000
set_option maxRecDepth 100000
namespace Go.Proofs.YtkmgcggoemlaaaaGreatDoor
open Go.RowKit Go.Fwm
theorem FRep.fresh_set {w:World}{X:Nat->Prop}{pf bf be:Nat}{f:Fl}(h:FRep w X pf bf be f)(j:Nat)(x:UInt8):FRep (w.setCell ⟨bf,j,none⟩ (.int .u8 (x.toNat:Int))) X pf bf be { f with fresh:=f.fresh.set j x }:=by
 obtain⟨⟨ao,co,cf,ve,h1,h2,h3,h4,h5,h6⟩,hfr,ne1,ne2,ne3,hb,o1,o2,o3,o4,o5,o6,o7⟩:=h;have hon:Only (λb=>b=bf) w (w.setCell ⟨bf,j,none⟩ (.int .u8 (x.toNat:Int))):=(Only.refl _ w).set _ (.inl rfl);have e:(f.fresh.set j x).map enc=(f.fresh.map enc).set j (.int .u8 (x.toNat:Int)):=by rw[List.map_set];rfl
 refine⟨⟨ao,co,cf,ve,?_,h2.only hon λa ha=>?_,h3,λa ha=>Nat.lt_of_lt_of_le (h4 a ha) hon.le,⟨?_,h5.2⟩,by simpa using h6⟩,?_,ne1,ne2,ne3,Nat.lt_of_lt_of_le hb hon.le,o1,by simpa using o2,o3,by simpa using o4,o5,o6,o7⟩
 ·have:=h1.setNe (a:=⟨bf,j,none⟩) (.int .u8 (x.toNat:Int)) ne1;simpa[flCells] using this
 ·exact λe=>h3 a ha (.inr (.inr (.inl e)))
 ·exact h5.1.kept (row:=some bf) ⟨rfl,rfl,rfl,hon.le,λk hk hne=>hon.keep k hk λe=>hne (by rw[e])⟩ (by
   cases hv:ve.ownBlock with
   | none=>exact .inl rfl
   | some k=>exact .inr λe=>by cases e;exact ne3 (h5.2 _ hv))
 ·show Blk _ bf 5 _;rw[e];exact hfr.set j _
structure FAt (w:World) (X:Nat->Prop) (pf bf be:Nat) (f:Fl) (w':World) (be':Nat):Prop where
 rep:FRep w' X pf bf be' f
 bq:be'=be\/w.heap.size<=be'
 on:Only (FF pf bf be) w w'
theorem FAt.then_ {w w' w'':World}{X:Nat->Prop}{pf bf be be' be'':Nat}{f f':Fl}(h:FAt w X pf bf be f w' be')(k:FAt w' X pf bf be' f' w'' be''):FAt w X pf bf be f' w'' be'':=by
 refine⟨k.rep,?_,h.on.trans k.on λb hb x=>?_⟩
 ·rcases k.bq with e | e
  ·rw[e];exact h.bq
  ·exact .inr (Nat.le_trans h.on.le e)
 ·rcases x with x | x | x
  ·exact .inl x
  ·exact .inr (.inl x)
  ·rcases h.bq with y | y
   ·exact .inr (.inr (x.trans y))
   ·omega
theorem FAt.of {w w':World}{X:Nat->Prop}{pf bf be:Nat}{f':Fl}(h:FTo w X pf bf be f' w'):∃be',FAt w X pf bf be f' w' be':=by
 obtain⟨be',h1,h2,h3⟩:=h;exact⟨be',h1,h2,h3⟩
theorem FAt.to {w w':World}{X:Nat->Prop}{pf bf be be':Nat}{f':Fl}(h:FAt w X pf bf be f' w' be'):FTo w X pf bf be f' w':=⟨be',h.rep,h.bq,h.on⟩
theorem FAt.fresh_set {w w':World}{X:Nat->Prop}{pf bf be be':Nat}{f:Fl}(h:FAt w X pf bf be f w' be')(j:Nat)(x:UInt8) :
  FAt w X pf bf be { f with fresh:=f.fresh.set j x } (w'.setCell ⟨bf,j,none⟩ (.int .u8 (x.toNat:Int))) be':=
 ⟨h.rep.fresh_set j x,h.bq,h.on.set _ (.inl (.inr (.inl rfl)))⟩
theorem FRep.facts {w:World}{X:Nat->Prop}{pf bf be:Nat}{f:Fl}(h:FRep w X pf bf be f):∃cf,w.cell? ⟨pf,1,none⟩=some (.slice (some ⟨bf,0,none⟩) f.fresh.length cf)/\w.cell? ⟨pf,6,none⟩=some (.int .u8 (f.torn.toNat:Int))/\f.fresh.length<=cf/\cf<=maxLen/\
  ∀j,j<f.fresh.length->w.cell? ⟨bf,j,none⟩=some (.int .u8 ((f.fresh.getD j 0).toNat:Int))/\w.frozen? ⟨bf,j,none⟩=false:=by
 obtain⟨ao,co,cf,ve,h1,h2,h3,h4,h5,h6,h7,_⟩:=h.blk;refine⟨cf,h1.cell rfl,h1.cell rfl,h6,h7,λj hj=>⟨h.fresh.cell ?_,h.fresh.free j⟩⟩;simp[enc,hj]
theorem setFrom_succ_255 (l:List UInt8)(p n:Nat):setFrom l p (λ_ _=>255) (n+1)=(setFrom l p (λ_ _=>255) n).set (p*64+n) 255:=by
 show (setFrom l p (λ_ _=>255) n).modify (p*64+n) (λ_=>255)=_;apply List.ext_getElem?;intro i;rw[List.getElem?_modify,List.getElem?_set];by_cases h:p*64+n=i
 ·subst h;simp;split<;>simp_all
 ·simp[h]
theorem news_new (w:World)(cs:Array Value)(t:TypeId):∀j u,cs.toList[j]? = some u->(w.alloc (.cells cs t)).cell? ((⟨w.heap.size,0,none⟩:Addr).add j)=some u:=by
 intro j u hu;rw[show (⟨w.heap.size,0,none⟩:Addr).add j=⟨w.heap.size,j,none⟩ by unfold Addr.add;split<;>simp_all];rw[World.cell_blk (heap_alloc_new w (.cells cs t))];simpa using hu
end Go.Proofs.YtkmgcggoemlaaaaGreatDoor
namespace Go
open Go Go.Fwm Go.RowKit Go.Proofs.YtkmgcggoemlaaaaGreatDoor
def Fwm.Fl.ev (f:Fl)(k p:Nat):Fl:={ f with events:=f.events++[(k,p)] }
end Go
namespace Go.Proofs.YtkmgcggoemlaaaaGreatDoor
open Go.RowKit Go.Fwm
end Go.Proofs.YtkmgcggoemlaaaaGreatDoor
namespace Go
open Go Go.Fwm Go.RowKit Go.Proofs.YtkmgcggoemlaaaaGreatDoor
def Fwm.Fl.fr (f:Fl)(l:List UInt8):Fl:={ f with fresh:=l }
end Go
namespace Go.Proofs.YtkmgcggoemlaaaaGreatDoor
open Go.RowKit Go.Fwm
theorem Fl.fr_fresh (f:Fl)(l:List UInt8):(f.fr l).fresh=l:=rfl
theorem Fl.fr_eq {f:Fl}{l:List UInt8}(h:f.fresh=l):f.fr l=f:=by subst h;rfl
theorem Fl.cut_fresh (f:Fl):f.cut.fresh=f.fresh:=by unfold Fl.cut;split<;>rfl
theorem Fl.cut_torn (f:Fl):f.cut.torn=f.torn:=by unfold Fl.cut;split<;>rfl
theorem FAt.fr {w w':World}{X:Nat->Prop}{pf bf be be':Nat}{f:Fl}{l:List UInt8}(h:FAt w X pf bf be (f.fr l) w' be')(j:Nat)(x:UInt8):FAt w X pf bf be (f.fr (l.set j x)) (w'.setCell ⟨bf,j,none⟩ (.int .u8 (x.toNat:Int))) be':=h.fresh_set j x
theorem event_step (w:World)(X:Nat->Prop)(pf bf be:Nat)(f:Fl)(h:FRep w X pf bf be f)(k p:Nat)(he:f.events.length<1000000000){ve:Value}(hc2:w.cell? ⟨pf,2,none⟩=some ve) :
  (w.alloc (.cells #[.int .i64 (k:Int),.int .i64 (p:Int)] 80)).ownsRow 0 80 2 ve f.events.length (evCells f.events)/\
  ∀v' w1,w1.ownsRow 0 80 2 v' (f.events.length+1) (evCells f.events++[.int .i64 (k:Int),.int .i64 (p:Int)])->(w.alloc (.cells #[.int .i64 (k:Int),.int .i64 (p:Int)] 80)).grownBy w1 ve.ownBlock->
   (∀b,v'.ownBlock=some b->ve.ownBlock=some b\/(w.alloc (.cells #[.int .i64 (k:Int),.int .i64 (p:Int)] 80)).heap.size<=b)->
   (∃be',FAt w X pf bf be (f.ev k p) (w1.setCell ⟨pf,2,none⟩ v') be')/\w1.cell? ⟨pf,2,none⟩=some ve/\w1.frozen? ⟨pf,2,none⟩=false/\∃A n c,v'=.slice A n c:=by
 obtain⟨ao,co,cf,ve2,h1,h2,h3,h4,h5,h6⟩:=h.blk;have e:ve2=ve:=by
  have:=(h1.cell (i:=2) (v:=ve2) rfl).symm.trans hc2;exact Option.some.inj this
 subst e;refine⟨h5.1.alloc _,λv' w1 g1 g2 g3=>?_⟩;have hon:Only (λb=>some b=ve2.ownBlock) w w1:=by
  refine⟨?_,λb hb hn=>?_⟩
  ·have:=g2.size;simp at this;omega
  ·rw[g2.block b (by simp;omega) hn,heap_alloc_old w _ hb]
 obtain⟨be',q1,q2,q3⟩:=h.event (w2:=w) h1 h5 k p hon g1 (λb hb=>(g3 b hb).imp id λx=>by simp at x;omega) he;have hpf:=h1.only hon (λe=>h.ne2 (h5.2 pf e.symm));exact⟨⟨be',q1,q2,q3⟩,hpf.cell rfl,hpf.free 2,by rcases g1.2 with⟨h,_⟩ | ⟨g,cap,cur,h,_⟩<;>exact⟨_,_,_,h⟩⟩
theorem erase_bad (w:World)(X:Nat->Prop)(pf bf be:Nat)(f:Fl)(h:FRep w X pf bf be f)(p:Nat)(hp:¬p<f.pages) :
  Calls Tryz.prog 109 #[.pointer (some ⟨pf,0,none⟩),.int .i64 (p:Int)] w λe w'=>e=.returned (errV (f.erase p).err)/\FTo w X pf bf be (f.erase p).f w':=by
 have e1:f.erase p = { err:=some 8,f }:=by unfold Fl.erase;rw[if_neg hp]
 have hpg:=page_ok w X pf bf be f h p;rw[decide_eq_false hp] at hpg;have hR:FTo w X pf bf be f w:=⟨be,h,.inl rfl,Only.refl _ _⟩;rw[e1];clear e1 h hp;go_enter Tryz.func109,Tryz.ntmps109
 go_wp2_with (go_at_call 113;refine hpg.mono ?_;rintro e w' ⟨rfl,rfl⟩)
 go_ret
 exact⟨rfl,hR⟩
theorem erase_good (w:World)(X:Nat->Prop)(pf bf be:Nat)(f:Fl)(h:FRep w X pf bf be f)(p:Nat)(hp:p<f.pages)(he:f.events.length<1000000000)(hc:f.cutB=false) :
  Calls Tryz.prog 109 #[.pointer (some ⟨pf,0,none⟩),.int .i64 (p:Int)] w λe w'=>e=.returned (errV (f.erase p).err)/\FTo w X pf bf be (f.erase p).f w':=by
 have e1:f.erase p = { err:=none,f:=(f.ev 0 p).cut.fr (setFrom f.fresh p (λ_ _=>255) 64) }:=by
  unfold Fl.erase Fl.tornN;rw[if_pos hp,hc];rfl
 rw[e1];have hpg:=page_ok w X pf bf be f h p;rw[decide_eq_true hp] at hpg;have hpl:p*64+64<=f.fresh.length:=by unfold Fl.pages at hp;omega
 have hfl:=h.fresh_le;obtain⟨i0,hi,hz0,hz1,hz2⟩:=info_parts info80;obtain⟨ve,hc2,hfz2⟩:∃ve,w.cell? ⟨pf,2,none⟩=some ve/\w.frozen? ⟨pf,2,none⟩=false:=by
  obtain⟨ao,co,cf,ve,h1,_⟩:=h.blk;exact⟨ve,h1.cell rfl,h1.free 2⟩
 obtain⟨ho,hst⟩:=event_step w X pf bf be f h 0 p he hc2;have hcut:(f.ev 0 p).cutB=false:=hc;have HS:=Lib.hid hst;clear hst;have HO:=Lib.hid ho;clear ho;have HC:=Lib.hid hcut;clear hcut hc e1 h;go_enter Tryz.func109,Tryz.ntmps109
 go_wp2_with (first | (go_at_call 113;refine hpg.mono ?_;rintro e w' ⟨rfl,rfl⟩) | (at_builtin;refine wpList_append_where ?g1 (.tmp 16) (.tmp 19) 74 ?g2 80 i0 (.agg #[.int .i64 0,.int .i64 0]) 2 16 ?g3 ?g4 ?g5 ?g6 ?g7 ?g8 ?g9 ve f.events.length (evCells f.events) ?g10 ?g11 ⟨w.heap.size,0,none⟩ 1 1 [.int .i64 0,.int .i64 (p:Int)] ?g12 ?g13 ?g14 ?g15 ?g16 ?g17 ?g18))
 case g1=>exact rfl
 case g2=>exact rfl
 case g3=>exact Tryz.underlying74
 case g4=>exact hi
 case g5=>exact hz0
 case g6=>exact hz1
 case g7=>exact hz2
 case g8=>exact rfl
 case g9=>exact Nat.two_pos
 case g10=>exact rfl
 case g11=>exact HO.out
 case g12=>exact rfl
 case g13=>exact rfl
 case g14=>
  exact news_new w #[.int .i64 0,.int .i64 (p:Int)] 80
 case g15=>intro u hu;simp at hu;rcases hu with rfl | rfl<;>rfl
 case g16=>simp only[maxLen];omega
 case g17=>omega
 case g18=>
  intro v' w1 h1 h2 h3;obtain⟨⟨be1,hat⟩,k1,k2,A',n',c',rfl⟩:=HS.out v' w1 h1 h2 (by simpa using h3);have HA:=Lib.hid hat;clear hat h1 h2 h3;go_wp2_with (go_at_call 60;refine(cut_ok _ X pf bf be1 _ HA.out.rep).mono ?_;rintro e w' ⟨rfl,hto⟩;rw[HC.out])
  obtain⟨be2,hat2⟩:=FAt.of hto;have H2:=Lib.hid (HA.out.then_ hat2);clear hat2 hto k1 k2;go_loopw [25] (λi wr=>∃k:Nat,k<=64/\i=.int .i64 k/\∃be',FAt w X pf bf be ((f.ev 0 p).cut.fr (setFrom f.fresh p (λ_ _=>255) k)) wr be') (λi _=>64-(intOf i).toNat)
  case atStart=>exact⟨0,Nat.zero_le _,rfl,be2,by show FAt w X pf bf be ((f.ev 0 p).cut.fr (f.ev 0 p).fresh) w' be2;rw[Fl.fr_eq (Fl.cut_fresh (f.ev 0 p))];exact H2.out⟩
  case round=>
   obtain⟨k,hk,rfl,be3,h3⟩:=hrel;by_cases hlt:k<64
   ·obtain⟨cf,q1,q2,q3,q4,q5⟩:=h3.rep.facts;obtain⟨q6,q7⟩:=q5 (p*64+k) (by simp only[Fl.fr_fresh,setFrom_length];omega);simp only[Fl.fr_fresh,setFrom_length] at q1 q3;have H3:=Lib.hid h3;clear h3 q5;go_wp2
    go_roundw
    case rel=>exact⟨k+1,by omega,by go_num,be3,by rw[setFrom_succ_255];exact H3.out.fr (p*64+k) 255⟩
    case measure=>simp[intOf];omega
   ·have hk':k=64:=by omega
    have H3:=Lib.hid h3;clear h3;have E:=Lib.hid hk';clear hk';go_wp2
    go_ret
    exact⟨rfl,by have:=H3.out;rw[E.out] at this;exact this.to⟩
theorem erase_cut (w:World)(X:Nat->Prop)(pf bf be:Nat)(f:Fl)(h:FRep w X pf bf be f)(p:Nat)(hp:p<f.pages)(he:f.events.length<1000000000)(hc:f.cutB=true) :
  Calls Tryz.prog 109 #[.pointer (some ⟨pf,0,none⟩),.int .i64 (p:Int)] w λe w'=>e=.returned (errV (f.erase p).err)/\FTo w X pf bf be (f.erase p).f w':=by
 have e1:f.erase p = { err:=some 7,f:=(f.ev 0 p).cut.fr (setFrom f.fresh p (λ_ _=>255) (f.torn.toNat%64)) }:=by
  unfold Fl.erase Fl.tornN;rw[if_pos hp,hc];rw[show min (f.torn.toNat%64) 64=f.torn.toNat%64 by omega];rfl
 rw[e1];have hpg:=page_ok w X pf bf be f h p;rw[decide_eq_true hp] at hpg;have hpl:p*64+64<=f.fresh.length:=by unfold Fl.pages at hp;omega
 have hfl:=h.fresh_le;obtain⟨i0,hi,hz0,hz1,hz2⟩:=info_parts info80;obtain⟨ve,hc2,hfz2⟩:∃ve,w.cell? ⟨pf,2,none⟩=some ve/\w.frozen? ⟨pf,2,none⟩=false:=by
  obtain⟨ao,co,cf,ve,h1,_⟩:=h.blk;exact⟨ve,h1.cell rfl,h1.free 2⟩
 obtain⟨ho,hst⟩:=event_step w X pf bf be f h 0 p he hc2;have hcut:(f.ev 0 p).cutB=true:=hc;have HS:=Lib.hid hst;clear hst;have HO:=Lib.hid ho;clear ho;have HC:=Lib.hid hcut;clear hcut hc e1 h;go_enter Tryz.func109,Tryz.ntmps109
 go_wp2_with (first | (go_at_call 113;refine hpg.mono ?_;rintro e w' ⟨rfl,rfl⟩) | (at_builtin;refine wpList_append_where ?g1 (.tmp 16) (.tmp 19) 74 ?g2 80 i0 (.agg #[.int .i64 0,.int .i64 0]) 2 16 ?g3 ?g4 ?g5 ?g6 ?g7 ?g8 ?g9 ve f.events.length (evCells f.events) ?g10 ?g11 ⟨w.heap.size,0,none⟩ 1 1 [.int .i64 0,.int .i64 (p:Int)] ?g12 ?g13 ?g14 ?g15 ?g16 ?g17 ?g18))
 case g1=>exact rfl
 case g2=>exact rfl
 case g3=>exact Tryz.underlying74
 case g4=>exact hi
 case g5=>exact hz0
 case g6=>exact hz1
 case g7=>exact hz2
 case g8=>exact rfl
 case g9=>exact Nat.two_pos
 case g10=>exact rfl
 case g11=>exact HO.out
 case g12=>exact rfl
 case g13=>exact rfl
 case g14=>
  exact news_new w #[.int .i64 0,.int .i64 (p:Int)] 80
 case g15=>intro u hu;simp at hu;rcases hu with rfl | rfl<;>rfl
 case g16=>simp only[maxLen];omega
 case g17=>omega
 case g18=>
  intro v' w1 h1 h2 h3;obtain⟨⟨be1,hat⟩,k1,k2,A',n',c',rfl⟩:=HS.out v' w1 h1 h2 (by simpa using h3);have HA:=Lib.hid hat;clear hat h1 h2 h3;go_wp2_with (go_at_call 60;refine(cut_ok _ X pf bf be1 _ HA.out.rep).mono ?_;rintro e w' ⟨rfl,hto⟩;rw[HC.out])
  obtain⟨be2,hat2⟩:=FAt.of hto;have H2:=Lib.hid (HA.out.then_ hat2);clear hat2 hto k1 k2;go_loopw [25] (λi wr=>∃k:Nat,k<=f.torn.toNat%64/\i=.int .i64 k/\∃be',FAt w X pf bf be ((f.ev 0 p).cut.fr (setFrom f.fresh p (λ_ _=>255) k)) wr be') (λi _=>64-(intOf i).toNat)
  case atStart=>exact⟨0,Nat.zero_le _,rfl,be2,by show FAt w X pf bf be ((f.ev 0 p).cut.fr (f.ev 0 p).fresh) w' be2;rw[Fl.fr_eq (Fl.cut_fresh (f.ev 0 p))];exact H2.out⟩
  case round=>
   obtain⟨k,hk,rfl,be3,h3⟩:=hrel;obtain⟨cf,q1,q2,q3,q4,q5⟩:=h3.rep.facts;obtain⟨q6,q7⟩:=q5 (p*64+k) (by simp only[Fl.fr_fresh,setFrom_length];omega);simp only[Fl.fr_fresh,setFrom_length] at q1 q3;have htn:((f.ev 0 p).cut.fr (setFrom f.fresh p (λ_ _=>255) k)).torn.toNat=f.torn.toNat:=by show (f.ev 0 p).cut.torn.toNat=_;rw[Fl.cut_torn];rfl
   rw[htn] at q2;obtain⟨T,hT⟩:∃T,f.torn.toNat=T:=⟨_,rfl⟩;have hT256:f.torn.toNat<256:=f.torn.toNat_lt;rw[hT] at q2 hk hT256;have H3:=Lib.hid h3;clear h3 q5;have HT:=Lib.hid hT;clear hT htn;have hk64:k<64:=by omega
   by_cases hlt:k<T%64
   ·have hd:((k:Int)≥(T:Int)%64)=False:=by simp;omega
    have hd':decide ((T:Int)%64<=(k:Int))=false:=by simp;omega
    clear hd;go_wp2
    go_roundw
    case rel=>exact⟨k+1,by rw[HT.out];omega,by go_num,be3,by rw[setFrom_succ_255];exact H3.out.fr (p*64+k) 255⟩
    case measure=>simp[intOf];omega
   ·have hd':decide ((T:Int)%64<=(k:Int))=true:=by simp;omega
    have E:=Lib.hid (show k=T%64 by omega);go_wp2
    go_ret
    exact⟨rfl,by have:=H3.out;rw[E.out,←HT.out] at this;exact this.to⟩
theorem erase_ok (w:World)(X:Nat->Prop)(pf bf be:Nat)(f:Fl)(h:FRep w X pf bf be f)(p:Nat)(he:f.events.length<1000000000) :
  Calls Tryz.prog 109 #[.pointer (some ⟨pf,0,none⟩),.int .i64 (p:Int)] w λe w'=>e=.returned (errV (f.erase p).err)/\FTo w X pf bf be (f.erase p).f w':=by
 by_cases hp:p<f.pages
 ·cases hc:f.cutB with
  | false=>exact erase_good w X pf bf be f h p hp he hc
  | true=>exact erase_cut w X pf bf be f h p hp he hc
 ·exact erase_bad w X pf bf be f h p hp
end Go.Proofs.YtkmgcggoemlaaaaGreatDoor
end
section
/- Program of a page. -/
set_option maxHeartbeats 2000000
set_option maxRecDepth 100000
namespace Go.Proofs.YtkmgcggoemlaaaaGreatDoor
open Go.RowKit Go.Fwm
theorem u8and (x y:UInt8):bits .and .u8 (x.toNat:Int) (y.toNat:Int)=((x &&& y).toNat:Int):=by
 rw[u8_and_nat x.toNat y.toNat x.toNat_lt y.toNat_lt,UInt8.toNat_and]
theorem setFrom_succ_and (l:List UInt8)(p:Nat)(zs:List UInt8)(k:Nat){x y:UInt8}(hlt:p*64+k<l.length)(hx:(setFrom l p (λi x=>x &&& zs.getD i 0) k).getD (p*64+k) 0=x)(hy:zs.getD k 0=y) :
  setFrom l p (λi x=>x &&& zs.getD i 0) (k+1)=(setFrom l p (λi x=>x &&& zs.getD i 0) k).set (p*64+k) (x &&& y):=by
 show (setFrom l p (λi x=>x &&& zs.getD i 0) k).modify (p*64+k) (λx=>x &&& zs.getD k 0)=_;have hl:=setFrom_length l p (λi x=>x &&& zs.getD i 0) k;generalize setFrom l p (λi x=>x &&& zs.getD i 0) k=m at hx hl;apply List.ext_getElem?;intro i;rw[List.getElem?_modify,List.getElem?_set,hy];by_cases h:p*64+k=i
 ·subst h;have:m[p*64+k]? = some x:=by
   have hlt':p*64+k<m.length:=by omega
   rw[←hx];simp[hlt']
  rw[if_pos rfl,if_pos (by omega),this];simp
 ·simp[h]
theorem program_read {w w':World}{F:Nat->Prop}{B:Option Addr}{zs:List UInt8}(hB:Bytes w B zs)(h:Only F w w')(hA:Away F B){k:Nat}(hk:k<zs.length) :
  ∃y bb oo,zs.getD k 0=y/\B=some ⟨bb,oo,none⟩/\w'.cell? ⟨bb,oo+k,none⟩=some (.int .u8 (y.toNat:Int)):=by
 obtain⟨b,o,e,hc⟩:=hB.only h hA k hk;exact⟨_,b,o,rfl,e,by rw[hc];simp[hk]⟩
theorem program_bad (w:World)(X:Nat->Prop)(pf bf be:Nat)(f:Fl)(h:FRep w X pf bf be f)(p:Nat)(B:Option Addr)(cb:Nat)(zs:List UInt8)(hz:zs.length<=64)(hB:Bytes w B zs)(hA:Away (FF pf bf be) B)(hp:¬p<f.pages) :
  Calls Tryz.prog 110 #[.pointer (some ⟨pf,0,none⟩),.int .i64 (p:Int),.slice B zs.length cb] w λe w'=>e=.returned (errV (f.program p zs).err)/\FTo w X pf bf be (f.program p zs).f w':=by
 have e1:f.program p zs = { err:=some 8,f }:=by unfold Fl.program;rw[if_neg hp]
 have hpg:=page_ok w X pf bf be f h p;rw[decide_eq_false hp] at hpg;have hR:FTo w X pf bf be f w:=⟨be,h,.inl rfl,Only.refl _ _⟩;rw[e1];clear e1 h hp;go_enter Tryz.func110,Tryz.ntmps110
 go_wp2_with (go_at_call 113;refine hpg.mono ?_;rintro e w' ⟨rfl,rfl⟩)
 go_ret
 exact⟨rfl,hR⟩
theorem program_good (w:World)(X:Nat->Prop)(pf bf be:Nat)(f:Fl)(h:FRep w X pf bf be f)(p:Nat)(B:Option Addr)(cb:Nat)(zs:List UInt8)(hz:zs.length<=64)(hB:Bytes w B zs)(hA:Away (FF pf bf be) B)(hp:p<f.pages)(he:f.events.length<1000000000)(hc:f.cutB=false) :
  Calls Tryz.prog 110 #[.pointer (some ⟨pf,0,none⟩),.int .i64 (p:Int),.slice B zs.length cb] w λe w'=>e=.returned (errV (f.program p zs).err)/\FTo w X pf bf be (f.program p zs).f w':=by
 have e1:f.program p zs = { err:=none,f:=(f.ev 1 p).cut.fr (setFrom f.fresh p (λi x=>x &&& zs.getD i 0) zs.length) }:=by
  unfold Fl.program Fl.tornN;rw[if_pos hp,hc];rfl
 rw[e1];have hpg:=page_ok w X pf bf be f h p;rw[decide_eq_true hp] at hpg;have hpl:p*64+64<=f.fresh.length:=by unfold Fl.pages at hp;omega
 have hfl:=h.fresh_le;obtain⟨i0,hi,hz0,hz1,hz2⟩:=info_parts info80;obtain⟨ve,hc2,hfz2⟩:∃ve,w.cell? ⟨pf,2,none⟩=some ve/\w.frozen? ⟨pf,2,none⟩=false:=by
  obtain⟨ao,co,cf,ve,h1,_⟩:=h.blk;exact⟨ve,h1.cell rfl,h1.free 2⟩
 obtain⟨ho,hst⟩:=event_step w X pf bf be f h 1 p he hc2;have hcut:(f.ev 1 p).cutB=false:=hc;have HS:=Lib.hid hst;clear hst;have HO:=Lib.hid ho;clear ho;have HC:=Lib.hid hcut;clear hcut hc e1 h;obtain⟨N,hN⟩:∃N,zs.length=N:=⟨_,rfl⟩;have HB:=Lib.hid hB;clear hB;rw[hN] at hz ⊢;have HZ:=Lib.hid hN;clear hN;go_enter Tryz.func110,Tryz.ntmps110
 go_wp2_with (first | (go_at_call 113;refine hpg.mono ?_;rintro e w' ⟨rfl,rfl⟩) | (at_builtin;refine wpList_append_where ?g1 (.tmp 24) (.tmp 27) 74 ?g2 80 i0 (.agg #[.int .i64 0,.int .i64 0]) 2 16 ?g3 ?g4 ?g5 ?g6 ?g7 ?g8 ?g9 ve f.events.length (evCells f.events) ?g10 ?g11 ⟨w.heap.size,0,none⟩ 1 1 [.int .i64 1,.int .i64 (p:Int)] ?g12 ?g13 ?g14 ?g15 ?g16 ?g17 ?g18))
 case g1=>exact rfl
 case g2=>exact rfl
 case g3=>exact Tryz.underlying74
 case g4=>exact hi
 case g5=>exact hz0
 case g6=>exact hz1
 case g7=>exact hz2
 case g8=>exact rfl
 case g9=>exact Nat.two_pos
 case g10=>exact rfl
 case g11=>exact HO.out
 case g12=>exact rfl
 case g13=>exact rfl
 case g14=>
  exact news_new w #[.int .i64 1,.int .i64 (p:Int)] 80
 case g15=>intro u hu;simp at hu;rcases hu with rfl | rfl<;>rfl
 case g16=>simp only[maxLen];omega
 case g17=>omega
 case g18=>
  intro v' w1 h1 h2 h3;obtain⟨⟨be1,hat⟩,k1,k2,A',n',c',rfl⟩:=HS.out v' w1 h1 h2 (by simpa using h3);have HA:=Lib.hid hat;clear hat h1 h2 h3;go_wp2_with (go_at_call 60;refine(cut_ok _ X pf bf be1 _ HA.out.rep).mono ?_;rintro e w' ⟨rfl,hto⟩;rw[HC.out])
  obtain⟨be2,hat2⟩:=FAt.of hto;have H2:=Lib.hid (HA.out.then_ hat2);clear hat2 hto k1 k2;go_loopw [35] (λi wr=>∃k:Nat,k<=N/\i=.int .i64 k/\∃be',FAt w X pf bf be ((f.ev 1 p).cut.fr (setFrom f.fresh p (λi x=>x &&& zs.getD i 0) k)) wr be') (λi _=>N-(intOf i).toNat)
  case atStart=>exact⟨0,Nat.zero_le _,rfl,be2,by show FAt w X pf bf be ((f.ev 1 p).cut.fr (f.ev 1 p).fresh) w' be2;rw[Fl.fr_eq (Fl.cut_fresh (f.ev 1 p))];exact H2.out⟩
  case round=>
   obtain⟨k,hk,rfl,be3,h3⟩:=hrel;by_cases hlt:k<N
   ·obtain⟨cf,q1,q2,q3,q4,q5⟩:=h3.rep.facts;obtain⟨q6,q7⟩:=q5 (p*64+k) (by simp only[Fl.fr_fresh,setFrom_length];omega);simp only[Fl.fr_fresh,setFrom_length] at q1 q3 q6;obtain⟨x,hx⟩:∃x,(setFrom f.fresh p (λi x=>x &&& zs.getD i 0) k).getD (p*64+k) 0=x:=⟨_,rfl⟩;rw[hx] at q6;obtain⟨y,bb,oo,hy,rfl,hyc⟩:=program_read HB.out h3.on hA (k:=k) (by rw[HZ.out];exact hlt);have hand:=u8and x y;have hst:=setFrom_succ_and f.fresh p zs k (by omega) hx hy;have H3:=Lib.hid h3;clear h3 q5;have HX:=Lib.hid hst;clear hst hx hy;have HD:=Lib.hid hand;clear hand;go_wp2
    go_roundw
    case rel=>exact⟨k+1,by omega,by go_num,be3,by rw[HX.out,HD.out];exact H3.out.fr (p*64+k) (x &&& y)⟩
    case measure=>simp[intOf];omega
   ·have hk':k=N:=by omega
    have H3:=Lib.hid h3;clear h3;have E:=Lib.hid hk';clear hk';go_wp2
    go_ret
    exact⟨rfl,by have:=H3.out;rw[E.out] at this;exact this.to⟩
theorem program_cut (w:World)(X:Nat->Prop)(pf bf be:Nat)(f:Fl)(h:FRep w X pf bf be f)(p:Nat)(B:Option Addr)(cb:Nat)(zs:List UInt8)(hz:zs.length<=64)(hB:Bytes w B zs)(hA:Away (FF pf bf be) B)(hp:p<f.pages)(he:f.events.length<1000000000)(hc:f.cutB=true) :
  Calls Tryz.prog 110 #[.pointer (some ⟨pf,0,none⟩),.int .i64 (p:Int),.slice B zs.length cb] w λe w'=>e=.returned (errV (f.program p zs).err)/\FTo w X pf bf be (f.program p zs).f w':=by
 have e1:f.program p zs = { err:=some 7,f:=(f.ev 1 p).cut.fr (setFrom f.fresh p (λi x=>x &&& zs.getD i 0) (min (f.torn.toNat%64) zs.length)) }:=by
  unfold Fl.program Fl.tornN;rw[if_pos hp,hc];rfl
 rw[e1];have hpg:=page_ok w X pf bf be f h p;rw[decide_eq_true hp] at hpg;have hpl:p*64+64<=f.fresh.length:=by unfold Fl.pages at hp;omega
 have hfl:=h.fresh_le;obtain⟨i0,hi,hz0,hz1,hz2⟩:=info_parts info80;obtain⟨ve,hc2,hfz2⟩:∃ve,w.cell? ⟨pf,2,none⟩=some ve/\w.frozen? ⟨pf,2,none⟩=false:=by
  obtain⟨ao,co,cf,ve,h1,_⟩:=h.blk;exact⟨ve,h1.cell rfl,h1.free 2⟩
 obtain⟨ho,hst⟩:=event_step w X pf bf be f h 1 p he hc2;have hcut:(f.ev 1 p).cutB=true:=hc;have HS:=Lib.hid hst;clear hst;have HO:=Lib.hid ho;clear ho;have HC:=Lib.hid hcut;clear hcut hc e1 h;obtain⟨N,hN⟩:∃N,zs.length=N:=⟨_,rfl⟩;have HB:=Lib.hid hB;clear hB;rw[hN] at hz ⊢;have HZ:=Lib.hid hN;clear hN;go_enter Tryz.func110,Tryz.ntmps110
 go_wp2_with (first | (go_at_call 113;refine hpg.mono ?_;rintro e w' ⟨rfl,rfl⟩) | (at_builtin;refine wpList_append_where ?g1 (.tmp 24) (.tmp 27) 74 ?g2 80 i0 (.agg #[.int .i64 0,.int .i64 0]) 2 16 ?g3 ?g4 ?g5 ?g6 ?g7 ?g8 ?g9 ve f.events.length (evCells f.events) ?g10 ?g11 ⟨w.heap.size,0,none⟩ 1 1 [.int .i64 1,.int .i64 (p:Int)] ?g12 ?g13 ?g14 ?g15 ?g16 ?g17 ?g18))
 case g1=>exact rfl
 case g2=>exact rfl
 case g3=>exact Tryz.underlying74
 case g4=>exact hi
 case g5=>exact hz0
 case g6=>exact hz1
 case g7=>exact hz2
 case g8=>exact rfl
 case g9=>exact Nat.two_pos
 case g10=>exact rfl
 case g11=>exact HO.out
 case g12=>exact rfl
 case g13=>exact rfl
 case g14=>
  exact news_new w #[.int .i64 1,.int .i64 (p:Int)] 80
 case g15=>intro u hu;simp at hu;rcases hu with rfl | rfl<;>rfl
 case g16=>simp only[maxLen];omega
 case g17=>omega
 case g18=>
  intro v' w1 h1 h2 h3;obtain⟨⟨be1,hat⟩,k1,k2,A',n',c',rfl⟩:=HS.out v' w1 h1 h2 (by simpa using h3);have HA:=Lib.hid hat;clear hat h1 h2 h3;go_wp2_with (go_at_call 60;refine(cut_ok _ X pf bf be1 _ HA.out.rep).mono ?_;rintro e w' ⟨rfl,hto⟩;rw[HC.out])
  obtain⟨be2,hat2⟩:=FAt.of hto;have H2:=Lib.hid (HA.out.then_ hat2);clear hat2 hto k1 k2;go_loopw [35] (λi wr=>∃k:Nat,k<=N/\k<=f.torn.toNat%64/\i=.int .i64 k/\∃be',FAt w X pf bf be ((f.ev 1 p).cut.fr (setFrom f.fresh p (λi x=>x &&& zs.getD i 0) k)) wr be') (λi _=>N-(intOf i).toNat)
  case atStart=>exact⟨0,Nat.zero_le _,Nat.zero_le _,rfl,be2,by show FAt w X pf bf be ((f.ev 1 p).cut.fr (f.ev 1 p).fresh) w' be2;rw[Fl.fr_eq (Fl.cut_fresh (f.ev 1 p))];exact H2.out⟩
  case round=>
   obtain⟨k,hk,hkt,rfl,be3,h3⟩:=hrel;have hT256:f.torn.toNat<256:=f.torn.toNat_lt;by_cases hlt:k<N
   ·obtain⟨cf,q1,q2,q3,q4,q5⟩:=h3.rep.facts;obtain⟨q6,q7⟩:=q5 (p*64+k) (by simp only[Fl.fr_fresh,setFrom_length];omega);simp only[Fl.fr_fresh,setFrom_length] at q1 q3 q6;have htn:((f.ev 1 p).cut.fr (setFrom f.fresh p (λi x=>x &&& zs.getD i 0) k)).torn.toNat=f.torn.toNat:=by show (f.ev 1 p).cut.torn.toNat=_;rw[Fl.cut_torn];rfl
    rw[htn] at q2;obtain⟨T,hT⟩:∃T,f.torn.toNat=T:=⟨_,rfl⟩;rw[hT] at q2 hkt hT256;obtain⟨x,hx⟩:∃x,(setFrom f.fresh p (λi x=>x &&& zs.getD i 0) k).getD (p*64+k) 0=x:=⟨_,rfl⟩;rw[hx] at q6;obtain⟨y,bb,oo,hy,rfl,hyc⟩:=program_read HB.out h3.on hA (k:=k) (by rw[HZ.out];exact hlt);have hand:=u8and x y;have hst:=setFrom_succ_and f.fresh p zs k (by omega) hx hy;have H3:=Lib.hid h3;clear h3 q5;have HX:=Lib.hid hst;clear hst hx hy;have HD:=Lib.hid hand;clear hand;have HT:=Lib.hid hT;clear hT htn;by_cases hlt2:k<T%64
    ·have hd':decide ((T:Int)%64<=(k:Int))=false:=by simp;omega
     go_wp2
     go_roundw
     case rel=>exact⟨k+1,by omega,by rw[HT.out];omega,by go_num,be3,by rw[HX.out,HD.out];exact H3.out.fr (p*64+k) (x &&& y)⟩
     case measure=>simp[intOf];omega
    ·have hd':decide ((T:Int)%64<=(k:Int))=true:=by simp;omega
     have E:=Lib.hid (show k=min (T%64) N by omega);go_wp2
     go_ret
     exact⟨rfl,by have:=H3.out;rw[E.out,←HT.out] at this;exact this.to⟩
   ·have H3:=Lib.hid h3;clear h3;have E:=Lib.hid (show k=min (f.torn.toNat%64) N by omega);clear hkt hT256;go_wp2
    go_ret
    exact⟨rfl,by have:=H3.out;rw[E.out] at this;exact this.to⟩
theorem program_ok (w:World)(X:Nat->Prop)(pf bf be:Nat)(f:Fl)(h:FRep w X pf bf be f)(p:Nat)(B:Option Addr)(cb:Nat)(zs:List UInt8)(hz:zs.length<=64)(hB:Bytes w B zs)(hA:Away (FF pf bf be) B)(he:f.events.length<1000000000) :
  Calls Tryz.prog 110 #[.pointer (some ⟨pf,0,none⟩),.int .i64 (p:Int),.slice B zs.length cb] w λe w'=>e=.returned (errV (f.program p zs).err)/\FTo w X pf bf be (f.program p zs).f w':=by
 by_cases hp:p<f.pages
 ·cases hc:f.cutB with
  | false=>exact program_good w X pf bf be f h p B cb zs hz hB hA hp he hc
  | true=>exact program_cut w X pf bf be f h p B cb zs hz hB hA hp he hc
 ·exact program_bad w X pf bf be f h p B cb zs hz hB hA hp
end Go.Proofs.YtkmgcggoemlaaaaGreatDoor
end
section
/- slices.Clone of whatever bytes; Commit, Cut, Restore, Old, Image and Read of a flash. -/
set_option maxHeartbeats 1000000
set_option maxRecDepth 100000
namespace Go.Proofs.YtkmgcggoemlaaaaGreatDoor
open Go.RowKit Go.Fwm
structure Fresh (w w':World) (A:Option Addr) (n c:Nat) (zs:List UInt8):Prop where
 bytes:Bytes w' A zs
 len:zs.length=n
 new_:∀a,A=some a->w.heap.size<=a.block/\a.block<w'.heap.size/\a.spot=none/\a.off=0
 cap:n<=c/\c<=maxLen
 nil_:A=none->n=0/\c=0
 own:∀a,A=some a->∃cs:Array Value,w'.heap[a.block]? = some (.cells cs 5 (0,0))/\cs.size=c
theorem clone_nil (w:World):Calls Tryz.prog 38 #[.slice none 0 0] w λe w'=>e=.returned (.slice none 0 0)/\w=w':=by
 have heq:∀w:World,(binOp .eql 22 (.slice none 0 0) (.slice none 0 0)).run Tryz.prog w=.ok (.bool true) w:=λw=>by
  simp only[binOp,Sem.run_bind,run_equal_slice_nil w 22 5 none 0 0 Tryz.underlying22];rfl
 go_enter Tryz.func38,Tryz.ntmps38
 go_wp2
 go_ret
 exact⟨rfl,rfl⟩
theorem clone_some (w:World)(a:Addr)(m c:Nat)(zs:List UInt8)(hm:zs.length=m)(hn:m<=65536)(hx:Bytes w (some a) zs) :
  Calls Tryz.prog 38 #[.slice (some a) m c] w λe w'=>∃g' cap',e=.returned (.slice (some ⟨g',0,none⟩) m cap')/\Fresh w w' (some ⟨g',0,none⟩) m cap' zs/\Below w.heap.size w w':=by
 obtain⟨i0,hi,hz0,hz1,hz2⟩:=info_parts info5;have hw2:(w.alloc (.cells #[] 5)).ownsRow w.heap.size 5 1 (.slice (some ⟨w.heap.size,0,none⟩) 0 0) 0 []:=
  ⟨rfl,.inr ⟨w.heap.size,0,#[],rfl,Nat.le_refl _,heap_alloc_new w _,Nat.le_refl _,Nat.zero_le _,rfl,rfl⟩⟩
 have hsrc:∀j u,(zs.map enc)[j]? = some u->(w.alloc (.cells #[] 5)).cell? (a.add j)=some u:=λj u hj=>by
  have hjl:j<zs.length:=by have:=(List.getElem?_eq_some_iff.1 hj).1;simpa using this
  obtain⟨b',o',hA',hc⟩:=hx j hjl;cases hA';have hv:u=.int .u8 (zs[j].toNat:Int):=by simp[hjl,enc] at hj;exact hj.symm
  rw[hv,show (⟨b',o',none⟩:Addr).add j=⟨b',o'+j,none⟩ by unfold Addr.add;split<;>simp_all];exact(World.cell?_alloc_lt w _ _ (block_lt_of_cell hc)).trans hc
 have HS:=Lib.hid hsrc;clear hsrc;have hone:∀v∈zs.map enc,v.oneCell'=true:=by intro v hv;obtain⟨z,_,rfl⟩:=List.mem_map.1 hv;rfl
 have HO:=Lib.hid hone;clear hone;have HW:=Lib.hid hw2;clear hw2;have HX:=Lib.hid hx;clear hx;have heq:∀w:World,(binOp .eql 22 (.slice (some a) m c) (.slice none 0 0)).run Tryz.prog w=.ok (.bool false) w:=λw=>by
  simp only[binOp,Sem.run_bind,run_equal_slice_nil w 22 5 (some a) m c Tryz.underlying22];rfl
 go_enter Tryz.func38,Tryz.ntmps38
 go_wp2_with (at_builtin;go_loud (refine wpList_append_own _ ?g1 (.tmp 5) (.tmp 6) 22 ?g2 w.heap.size 5 i0 (.int .u8 0) 1 1 ?g3 ?g4 ?g5 ?g6 ?g7 ?g8 ?g9 (.slice (some ⟨w.heap.size,0,none⟩) 0 0) 0 [] ?g10 ?g11 a m c (zs.map enc) ?g12 ?g13 ?g14 ?g15 ?g16 ?g17 ?g18 ?g19))
 case g1=>exact rfl
 case g2=>exact rfl
 case g3=>exact Tryz.underlying22
 case g4=>exact hi
 case g5=>exact hz0
 case g6=>exact hz1
 case g7=>exact hz2
 case g8=>exact rfl
 case g9=>exact Nat.one_pos
 case g10=>exact rfl
 case g11=>exact HW.out
 case g12=>exact rfl
 case g13=>rw[Nat.mul_one,List.length_map];exact hm
 case g14=>exact HS.out
 case g15=>exact HO.out
 case g16=>simp only[maxLen];omega
 case g17=>omega
 case g18=>simp
 case g19=>
  intro v' w' hown hgr hnil;replace hown:w'.ownsRow w.heap.size 5 1 v' m (zs.map enc):=by simpa using hown
  obtain⟨cap',cur,hv,hl,hcm,hsz,htake⟩:∃cap' cur,(∃g',v'=.slice (some ⟨g',0,none⟩) m cap'/\w.heap.size<=g'/\w'.heap[g']? = some (.cells cur 5 (0,0)))/\m<=cap'/\cap'<=maxLen/\cur.size=cap'*1/\cur.toList.take (m*1)=zs.map enc:=by
   rcases hown.2 with⟨h,_⟩|⟨g',cap',cur,h1,h2,h3,h4,h5,h6,h7⟩
   ·exact(hnil h).elim
   ·exact⟨cap',cur,⟨g',h1,h2,h3⟩,h4,h5,h6,h7⟩
  obtain⟨g',rfl,hg',hcur⟩:=hv;have HT:=Lib.hid htake;clear htake;have HG:=Lib.hid hgr;clear hgr;clear hown hnil;go_wp2
  go_ret
  have htake:=HT.out;refine⟨g',cap',rfl,⟨Bytes.of_piece (cap:=cap') ⟨cur,hcur,by omega,by omega,λk hk=>?_⟩,hm,λa ha=>?_,⟨hl,hcm⟩,λh=>(by cases h),λa ha=>?_⟩,?_⟩
  ·have e:(cur.toList.take (m*1))[k]? = (zs.map enc)[k]?:=by rw[htake]
   rw[List.getElem?_take,if_pos (by omega)] at e;simpa[hk] using e
  ·cases ha;exact⟨hg',(Array.getElem?_eq_some_iff.1 hcur).1,rfl,rfl⟩
  ·cases ha;exact⟨cur,hcur,by omega⟩
  ·exact((Below.refl _ w).alloc (Nat.le_refl _) _).grown HG.out (by simp) (λk e=>by simp[Value.ownBlock] at e;omega)
theorem clone_any (w:World)(A:Option Addr)(m c:Nat)(zs:List UInt8)(hm:zs.length=m)(hn:m<=65536)(hx:Bytes w A zs)(hA:A=none->c=0) :
  Calls Tryz.prog 38 #[.slice A m c] w λe w'=>∃A' cap',e=.returned (.slice A' m cap')/\Fresh w w' A' m cap' zs/\Below w.heap.size w w':=by
 cases A with
 | some a=>exact(clone_some w a m c zs hm hn hx).mono λe w' ⟨g,cap,h1,h2,h3⟩=>⟨_,cap,h1,h2,h3⟩
 | none=>
  obtain rfl:=hA rfl;have:zs=[]:=by
   cases zs with
   | nil=>rfl
   | cons z zs=>obtain⟨b,o,h,_⟩:=hx 0 (by simp);cases h
  subst this;simp at hm;subst hm;exact(clone_nil w).mono λe w' ⟨h1,h2⟩=>⟨none,0,h1,⟨Bytes.nil _ _,rfl,λa h=>by (cases h),⟨Nat.le_refl _,Nat.zero_le _⟩,λ_=>⟨rfl,rfl⟩,λa h=>by cases h⟩,h2 ▸ Below.refl _ _⟩
theorem old_ok (w:World)(X:Nat->Prop)(pf bf be:Nat)(f:Fl)(h:FRep w X pf bf be f) :
  Calls Tryz.prog 24 #[.pointer (some ⟨pf,0,none⟩)] w λe w'=>∃A c,e=.returned (.slice A f.old.length c)/\Fresh w w' A f.old.length c f.old/\Below w.heap.size w w':=by
 obtain⟨ao,co,cf,ve,h1,h2,h3,h4,h5,h6,h7,h8,h9,h10⟩:=h.blk;have hc:w.cell? ⟨pf,0,none⟩=some (.slice ao f.old.length co):=h1.cell rfl;have hcl:=clone_any w ao f.old.length co f.old rfl (by have:=h.old_le;omega) h2 h10;clear h h1 h2 h3 h4 h5 h6 h7 h8 h9 h10;go_enter Tryz.func24,Tryz.ntmps24
 go_wp2_with (go_at_call 38;refine hcl.mono ?_;rintro e w' ⟨A,c,rfl,hf,hb⟩)
 go_ret
 exact⟨_,_,rfl,hf,hb⟩
theorem image_yes (w:World)(X:Nat->Prop)(pf bf be:Nat)(f:Fl)(h:FRep w X pf bf be f)(hc:f.committed=true) :
  Calls Tryz.prog 23 #[.pointer (some ⟨pf,0,none⟩)] w λe w'=>∃A c,e=.returned (.tuple #[.slice A f.length c,.bool true])/\Fresh w w' A f.length c (f.fresh.take f.length)/\Below w.heap.size w w':=by
 obtain⟨ao,co,cf,ve,h1,h2,h3,h4,h5,h6,h7,_⟩:=h.blk;have hc4:w.cell? ⟨pf,4,none⟩=some (.bool f.committed):=h1.cell rfl;have hc1:w.cell? ⟨pf,1,none⟩=some (.slice (some ⟨bf,0,none⟩) f.fresh.length cf):=h1.cell rfl;have hc3:w.cell? ⟨pf,3,none⟩=some (.int .i64 (f.length:Int)):=h1.cell rfl;rw[hc] at hc4;have hl:=h.len_le;have hfl:=h.fresh_le;have hb:∀k,Bytes (w.drewN k) (some ⟨bf,0,none⟩) (f.fresh.take f.length):=λk=>Bytes.take (Bytes.of_blk (rest:=[]) (by have:=h.fresh;simpa using this.drewN k)) _
 have hcl:=λk c=>clone_any (w.drewN k) (some ⟨bf,0,none⟩) f.length c (f.fresh.take f.length) (by simp;omega) (by omega) (hb k) (λh=>by cases h)
 have HC:=Lib.hid hcl;unfold maxLen at h7;clear h h1 h2 h3 h4 h5 hc hb hcl;go_enter Tryz.func23,Tryz.ntmps23
 go_wp2
 obtain⟨w2,hw2⟩:∃w2,w.drew=w2:=⟨_,rfl⟩;have d1:w2.cell? ⟨pf,1,none⟩=some (.slice (some ⟨bf,0,none⟩) f.fresh.length cf):=by rw[←hw2];exact hc1
 have d3:w2.cell? ⟨pf,3,none⟩=some (.int .i64 (f.length:Int)):=by rw[←hw2];exact hc3
 refine wp_region_still_tail 9 (by kernel_rfl) (by kernel_rfl) ?_;change wpStill _ _ w.drew _ _ _;rw[hw2];have HW:=Lib.hid hw2;clear hw2;simp only[List.take_succ_cons,List.take_zero,List.drop_succ_cons,List.drop_zero];have i1:(f.length:Int)<=(cf:Int):=by omega
 repeat still_step
 refine wpStill_nil ?_;change wpList _ _ _ _ _ w.drew;rw[HW.out];go_wp2_with (go_at_call 38;rw[←HW.out];refine(HC.out 1 cf).mono ?_;rintro e w' ⟨A,c,rfl,hf,hb⟩)
 go_ret2
 exact⟨_,_,rfl,⟨hf.bytes,hf.len,hf.new_,hf.cap,hf.nil_,hf.own⟩,Below.trans (show Below w.heap.size w (w.drewN 1) from ⟨rfl,rfl,rfl,Nat.le_refl _,λ_ _=>rfl⟩) hb⟩
end Go.Proofs.YtkmgcggoemlaaaaGreatDoor
end
