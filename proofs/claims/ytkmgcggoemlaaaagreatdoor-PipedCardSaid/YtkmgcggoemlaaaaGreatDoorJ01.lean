/-
  Part 1 of the common ground of this seat: what single parts show stands ahead of each.
  No condition.
-/
import Derived.StepT
import Derived.Conc.Beside
set_option linter.unusedSimpArgs false
set_option linter.unusedVariables false
set_option linter.constructorNameAsVariable false
section
/- A simulation between a goroutine alone in a private world and the same goroutine in company. Values and operations are related by a partial injection of block numbers. -/
namespace Go.Fw
open Go
structure Ren (G:Nat) where
 f:Nat->Option Nat
 inj:∀b b' B,f b=some B->f b'=some B->b=b'
 glob:∀b B,f b=some B->(b<G↔B<G)/\(b<G->b=B)
 sp:∀b,b=0\/b=G->f b=some b
section ren
variable {G:Nat}
def Ren.le (β γ:Ren G):Prop:=∀b B,β.f b=some B->γ.f b=some B
theorem Ren.le_refl (β:Ren G):β.le β:=λ_ _ h=>h
theorem Ren.le_trans {α β γ:Ren G}(h:α.le β)(k:β.le γ):α.le γ:=λ_ _ e=>k _ _ (h _ _ e)
def extF (f:Nat->Option Nat)(r R:Nat):Nat->Option Nat:=λb=>if b=r then some R else f b
theorem extF_cases {f:Nat->Option Nat}{r R b B:Nat}(h:extF f r R b=some B):(b=r/\B=R)\/(b≠r/\f b=some B):=by
 unfold extF at h;split at h
 ·rename_i e;exact .inl ⟨e,(Option.some.inj h).symm⟩
 ·rename_i e;exact .inr ⟨e,h⟩
theorem extF_same (f:Nat->Option Nat)(r R:Nat):extF f r R r=some R:=by simp[extF]
structure Ren.New (β:Ren G) (r R:Nat):Prop where
 nl:β.f r=none
 nr:∀b,β.f b≠some R
 gl:G<=r
 gr:G<=R
def Ren.ext (β:Ren G)(r R:Nat)(h:β.New r R):Ren G where
 f:=extF β.f r R
 inj:=λb b' B hb hb'=>by
  rcases extF_cases hb with⟨e1,e2⟩ | ⟨e1,e2⟩<;>rcases extF_cases hb' with⟨f1,f2⟩ | ⟨f1,f2⟩
  ·rw[e1,f1]
  ·rw[e2] at f2;exact absurd f2 (h.nr _)
  ·rw[f2] at e2;exact absurd e2 (h.nr _)
  ·exact β.inj _ _ _ e2 f2
 glob:=λb B hb=>by
  rcases extF_cases hb with⟨rfl,rfl⟩|⟨e1,e2⟩
  ·have:=h.gl;have:=h.gr;exact⟨by omega,by omega⟩
  ·exact β.glob b B e2
 sp:=λb hb=>by
  have h1:=β.sp b hb;unfold extF;rw[if_neg (λe=>by rw[e,h.nl] at h1;cases h1)];exact h1
theorem Ren.le_ext {β:Ren G}{r R:Nat}(h:β.New r R):β.le (β.ext r R h):=λb B e=>by
 show extF β.f r R b=some B;unfold extF;by_cases hb:b=r
 ·subst hb;rw[h.nl] at e;cases e
 ·rw[if_neg hb];exact e
theorem Ren.ext_same (β:Ren G)(r R:Nat)(h:β.New r R):(β.ext r R h).f r=some R:=extF_same _ _ _
end ren
variable {G:Nat}
def AR (β:Ren G)(a A:Addr):Prop:=β.f a.block=some A.block/\A.off=a.off/\A.spot=a.spot
theorem AR.mono {β γ:Ren G}(h:β.le γ){a A:Addr}(x:AR β a A):AR γ a A:=⟨h _ _ x.1,x.2⟩
theorem AR.add {β:Ren G}{a A:Addr}(x:AR β a A)(n:Nat):AR β (a.add n) (A.add n):=by
 unfold Addr.add;split
 ·exact x
 ·exact⟨x.1,by simp[x.2.1],rfl⟩
def opaqueV:Value->Bool
 | .float _ _ | .complex _ _ _ | .pointer (some _) | .slice (some _) _ _ | .map (some _) | .iface _ _=>true
 | _=>false
inductive VR (FN:FuncId->Bool) (β:Ren G):Value->Value->Prop
 | bool (b:Bool):VR FN β (.bool b) (.bool b)
 | int (k:IntKind) (n:Int):VR FN β (.int k n) (.int k n)
 | string (s:ByteArray):VR FN β (.string s) (.string s)
 | ptr0:VR FN β (.pointer none) (.pointer none)
 | ptr {a A:Addr} (h:AR β a A):VR FN β (.pointer (some a)) (.pointer (some A))
 | slice0 (l c:Nat):VR FN β (.slice none l c) (.slice none l c)
 | slice {a A:Addr} (l c:Nat) (h:AR β a A):VR FN β (.slice (some a) l c) (.slice (some A) l c)
 | sliceE (a A:Addr):VR FN β (.slice (some a) 0 0) (.slice (some A) 0 0)
 | chan (r:Option Nat):VR FN β (.chan r) (.chan r)
 | nilFunc:VR FN β .nilFunc .nilFunc
 | nilIface:VR FN β .nilIface .nilIface
 | iface (t:TypeId) {v V:Value} (h:VR FN β v V):VR FN β (.iface t v) (.iface t V)
 | func {f:FuncId} {xs XS ys YS:Array Value} (hf:FN f=true) (h1:xs.size=XS.size) (h2:∀(i:Nat) (x X:Value),xs[i]? = some x->XS[i]? = some X->VR FN β x X)
   (h3:ys.size=YS.size) (h4:∀(i:Nat) (x X:Value),ys[i]? = some x->YS[i]? = some X->VR FN β x X):VR FN β (.func (.func f) xs ys) (.func (.func f) XS YS)
 | agg {xs XS:Array Value} (h1:xs.size=XS.size) (h2:∀(i:Nat) (x X:Value),xs[i]? = some x->XS[i]? = some X->VR FN β x X):VR FN β (.agg xs) (.agg XS)
 | tuple {xs XS:Array Value} (h1:xs.size=XS.size) (h2:∀(i:Nat) (x X:Value),xs[i]? = some x->XS[i]? = some X->VR FN β x X):VR FN β (.tuple xs) (.tuple XS)
 | junkF (f:Fn) (xs ys:Array Value):VR FN β (.func (.method "") #[.nilIface] #[]) (.func f xs ys)
 | bound {f:FuncId} {ys YS:Array Value} (h1:ys.size=YS.size) (h2:∀(i:Nat) (x X:Value),ys[i]? = some x->YS[i]? = some X->VR FN β x X):VR FN β (.func (.method "") #[.nilIface,.int .i64 (f:Int)] ys) (.func (.func f) #[] YS)
 | yld (l:Nat):VR FN β (.func (.method "") #[.nilIface,.nilIface,.int .i64 (l:Int)] #[]) (.func (.yield l) #[] #[])
 | mapNil:VR FN β (.map none) (.map none)
 | junk {X:Value} (h:opaqueV X=true):VR FN β (.map (some 0)) X
theorem VR.mono {FN:FuncId->Bool}{β γ:Ren G}(h:β.le γ){v V:Value}(x:VR FN β v V):VR FN γ v V:=by
 induction x with
 | bool b=>exact .bool b
 | int k n=>exact .int k n
 | string s=>exact .string s
 | ptr0=>exact .ptr0
 | ptr ha=>exact .ptr (ha.mono h)
 | slice0 l c=>exact .slice0 l c
 | slice l c ha=>exact .slice l c (ha.mono h)
 | sliceE a A=>exact .sliceE a A
 | chan r=>exact .chan r
 | nilFunc=>exact .nilFunc
 | nilIface=>exact .nilIface
 | iface t _ ih=>exact .iface t ih
 | func hf h1 _ h3 _ ih1 ih2=>exact .func hf h1 ih1 h3 ih2
 | agg h1 _ ih=>exact .agg h1 ih
 | tuple h1 _ ih=>exact .tuple h1 ih
 | junkF f xs ys=>exact .junkF f xs ys
 | bound h1 _ ih=>exact .bound h1 ih
 | yld l=>exact .yld l
 | mapNil=>exact .mapNil
 | junk h=>exact .junk h
def ArrR (FN:FuncId->Bool)(β:Ren G)(xs XS:Array Value):Prop:=xs.size=XS.size/\∀(i:Nat) (x X:Value),xs[i]? = some x->XS[i]? = some X->VR FN β x X
theorem ArrR.mono {FN:FuncId->Bool}{β γ:Ren G}(h:β.le γ){xs XS:Array Value}(x:ArrR FN β xs XS):ArrR FN γ xs XS:=⟨x.1,λi a b ha hb=>(x.2 i a b ha hb).mono h⟩
section arr
variable {FN:FuncId->Bool} {β:Ren G}
theorem ArrR.nil:ArrR FN β #[] #[]:=⟨rfl,λi x X h=>by simp at h⟩
theorem ArrR.get {xs XS:Array Value}(h:ArrR FN β xs XS){i:Nat}{x:Value}(hx:xs[i]? = some x):∃X,XS[i]? = some X/\VR FN β x X:=by
 have hi:i<xs.size:=(Array.getElem?_eq_some_iff.1 hx).1;have hI:i<XS.size:=h.1 ▸ hi;exact⟨XS[i],Array.getElem?_eq_getElem hI,h.2 i x _ hx (Array.getElem?_eq_getElem hI)⟩
theorem ArrR.get_none {xs XS:Array Value}(h:ArrR FN β xs XS){i:Nat}(hx:xs[i]? = none):XS[i]? = none:=by
 rw[Array.getElem?_eq_none_iff] at hx ⊢;rw[←h.1];exact hx
theorem ArrR.push {xs XS:Array Value}{v V:Value}(h:ArrR FN β xs XS)(hv:VR FN β v V):ArrR FN β (xs.push v) (XS.push V):=by
 refine⟨by simp[h.1],λi x X hx hX=>?_⟩;rw[Array.getElem?_push] at hx hX;by_cases hi:i=xs.size
 ·rw[if_pos hi] at hx;rw[if_pos (hi.trans h.1)] at hX;cases hx;cases hX;exact hv
 ·rw[if_neg hi] at hx;rw[if_neg (λe=>hi (e.trans h.1.symm))] at hX;exact h.2 i x X hx hX
theorem ArrR.set {xs XS:Array Value}{v V:Value}(h:ArrR FN β xs XS)(hv:VR FN β v V)(i:Nat):ArrR FN β (xs.setIfInBounds i v) (XS.setIfInBounds i V):=by
 refine⟨by simp[h.1],λj x X hx hX=>?_⟩;rw[Array.getElem?_setIfInBounds] at hx hX;by_cases hij:i=j
 ·subst hij;rw[if_pos rfl] at hx hX;split at hx
  ·split at hX
   ·cases hx;cases hX;exact hv
   ·cases hX
  ·cases hx
 ·rw[if_neg hij] at hx hX;exact h.2 j x X hx hX
theorem ArrR.app {xs XS ys YS:Array Value}(h:ArrR FN β xs XS)(k:ArrR FN β ys YS):ArrR FN β (xs++ys) (XS++YS):=by
 refine⟨by simp[h.1,k.1],λi x X hx hX=>?_⟩;rw[Array.getElem?_append] at hx hX;rw[h.1] at hx;split at hx
 ·rename_i hlt;rw[if_pos hlt] at hX;exact h.2 i x X hx hX
 ·rename_i hlt;rw[if_neg hlt] at hX;exact k.2 _ x X hx hX
theorem ArrR.extract {xs XS:Array Value}(h:ArrR FN β xs XS)(i j:Nat):ArrR FN β (xs.extract i j) (XS.extract i j):=by
 refine⟨by simp[h.1],λk x X hx hX=>?_⟩;rw[Array.getElem?_extract] at hx hX;rw[h.1] at hx;split at hx
 ·rename_i hlt;rw[if_pos hlt] at hX;exact h.2 _ x X hx hX
 ·cases hx
theorem ArrR.replicate {v V:Value}(hv:VR FN β v V)(n:Nat):ArrR FN β (Array.replicate n v) (Array.replicate n V):=by
 refine⟨by simp,λk x X hx hX=>?_⟩;simp only[Array.getElem?_replicate] at hx hX;split at hx
 ·rename_i hlt;rw[if_pos hlt] at hX;cases hx;cases hX;exact hv
 ·cases hx
theorem ArrR.one {v V:Value}(hv:VR FN β v V):ArrR FN β #[v] #[V]:=by
 have:=(ArrR.nil (FN:=FN) (β:=β)).push hv;simpa using this
theorem VR.agg' {xs XS:Array Value}(h:ArrR FN β xs XS):VR FN β (.agg xs) (.agg XS):=.agg h.1 h.2
theorem VR.tuple' {xs XS:Array Value}(h:ArrR FN β xs XS):VR FN β (.tuple xs) (.tuple XS):=.tuple h.1 h.2
theorem VR.cells {v V:Value}(h:VR FN β v V):ArrR FN β v.cells V.cells:=by
 cases h with
 | agg h1 h2=>exact⟨h1,h2⟩
 | bool b=>exact ArrR.one (.bool b)
 | int k n=>exact ArrR.one (.int k n)
 | string s=>exact ArrR.one (.string s)
 | ptr0=>exact ArrR.one .ptr0
 | ptr ha=>exact ArrR.one (.ptr ha)
 | slice0 l c=>exact ArrR.one (.slice0 l c)
 | slice l c ha=>exact ArrR.one (.slice l c ha)
 | sliceE a A=>exact ArrR.one (.sliceE a A)
 | chan r=>exact ArrR.one (.chan r)
 | nilFunc=>exact ArrR.one .nilFunc
 | nilIface=>exact ArrR.one .nilIface
 | iface t hv=>exact ArrR.one (.iface t hv)
 | func hf h1 h2 h3 h4=>exact ArrR.one (.func hf h1 h2 h3 h4)
 | tuple h1 h2=>exact ArrR.one (.tuple h1 h2)
 | junkF f xs ys=>exact ArrR.one (.junkF f xs ys)
 | bound h1 h2=>exact ArrR.one (.bound h1 h2)
 | yld l=>exact ArrR.one (.yld l)
 | mapNil=>exact ArrR.one .mapNil
 | junk h=>
  have e:V.cells=#[V]:=by cases V<;>first | rfl | (cases h;done)
  rw[e];exact ArrR.one (.junk h)
theorem VR.undef:VR FN β undef undef:=.tuple' ArrR.nil
end arr
end Go.Fw
end
section
/- Related Sem trees, and what one run of related trees in related worlds gives. -/
namespace Go.Fw
open Go
def HaltOk:Halt->Prop
 | .panic _ | .stuck _=>True
 | .unsupported u=>(match u with | .initOrder _=>False | _=>True)
 | _=>False
def MarkOk:Mark->Prop
 | .noRoom | .extern _=>True
 | _=>False
inductive Dead {α:Type}:Sem α->Prop
 | halt {h:Halt} (hh:HaltOk h):Dead (.halt h)
 | shape {r:Nat} {k:Option (TypeId × Nat)->Sem α} (hk:∀x,Dead (k x)):Dead (.shape r k)
 | frozen {a:Addr} {k:Bool->Sem α} (hk:∀x,Dead (k x)):Dead (.frozen a k)
 | choose {q:Question} {k:Nat->Sem α} (hk:∀x,Dead (k x)):Dead (.choose q k)
 | program {k:Program->Sem α} (hk:∀x,Dead (k x)):Dead (.program k)
 | mark {m:Mark} {k:Sem α} (hm:MarkOk m) (hk:Dead k):Dead (.mark m k)
 | new {o:Obj} {k:Nat->Sem α} (hk:∀x,Dead (k x)):Dead (.new o k)
 | sys {c:Sys} {k:SysRet->Sem α} (hk:∀x,Dead (k x)):Dead (.sys c k)
theorem Dead.bind {α β:Type}{s:Sem α}(h:Dead s)(f:α->Sem β):Dead (s.bind f):=by
 induction h with
 | halt hh=>exact .halt hh
 | shape _ ih=>exact .shape λx=>ih x
 | frozen _ ih=>exact .frozen λx=>ih x
 | choose _ ih=>exact .choose λx=>ih x
 | program _ ih=>exact .program λx=>ih x
 | mark hm _ ih=>exact .mark hm ih
 | new _ ih=>exact .new λx=>ih x
 | sys _ ih=>exact .sys λx=>ih x
theorem Dead.run {α:Type}{P:Program}{s:Sem α}(h:Dead s):∀w,∃e w',s.run P w=.halt e w'/\HaltOk e:=by
 induction h with
 | halt hh=>exact λw=>⟨_,w,rfl,hh⟩
 | shape _ ih=>exact λw=>ih _ w
 | frozen _ ih=>exact λw=>ih _ w
 | choose _ ih=>
  intro w;simp only[Sem.run];split
  ·exact ih _ w
  ·exact ih _ _
 | program _ ih=>exact λw=>ih _ w
 | mark hm _ ih=>exact λw=>ih w
 | new _ ih=>exact λw=>ih _ _
 | sys _ ih=>exact λw=>ih _ _
section
variable {G:Nat}
def NewR (FN:FuncId->Bool)(β:Ren G):Obj->Obj->Prop
 | .cells c t fr,.cells C T FR=>ArrR FN β c C/\t=T/\fr=(0,0)/\FR=(0,0)
 | .number a l,.number A L=>AR β a A/\l=L
 | _,_=>False
inductive SemR (P:Program) (FN:FuncId->Bool) {α:Type} (RA:Ren G->α->α->Prop):Ren G->Sem α->Sem α->Prop
 | pure {β:Ren G} {a A:α} (h:RA β a A):SemR P FN RA β (.pure a) (.pure A)
 | load {β:Ren G} {a A:Addr} {k K:Value->Sem α} (ha:AR β a A) (hk:∀v V,VR FN β v V->SemR P FN RA β (k v) (K V)):SemR P FN RA β (.load .plain a k) (.load .plain A K)
 | store {β:Ren G} {a A:Addr} {v V:Value} {k K:Sem α} (ha:AR β a A) (hv:VR FN β v V) (hk:SemR P FN RA β k K):SemR P FN RA β (.store .plain a v k) (.store .plain A V K)
 | new {β:Ren G} {o O:Obj} {k K:Nat->Sem α} (ho:NewR FN β o O) (hk:∀r R (h:β.New r R),SemR P FN RA (β.ext r R h) (k r) (K R)):SemR P FN RA β (.new o k) (.new O K)
 | shape {β:Ren G} {r R:Nat} {k K:Option (TypeId × Nat)->Sem α} (hr:β.f r=some R) (hk:∀x,SemR P FN RA β (k x) (K x)):SemR P FN RA β (.shape r k) (.shape R K)
 | getObj {β:Ren G} {r R:Nat} {k K:Obj->Sem α} (hr:β.f r=some R) (hk:∀a A l,AR β a A->SemR P FN RA β (k (.number a l)) (K (.number A l))):SemR P FN RA β (.getObj r k) (.getObj R K)
 | getObjD {β:Ren G} {r R:Nat} {k:Obj->Sem α} {S:Sem α} (hr:β.f r=some R) (hk:∀a l,Dead (k (.number a l))):SemR P FN RA β (.getObj r k) S
 | choose {β:Ren G} {q:Question} {k K:Nat->Sem α} (hk:∀x,SemR P FN RA β (k x) (K x)):SemR P FN RA β (.choose q k) (.choose q K)
 | program {β:Ren G} {k K:Program->Sem α} (hk:SemR P FN RA β (k P) (K P)):SemR P FN RA β (.program k) (.program K)
 | progL {β:Ren G} {k:Program->Sem α} {S:Sem α} (hk:SemR P FN RA β (k P) S):SemR P FN RA β (.program k) S
 | mark {β:Ren G} {m:Mark} {k K:Sem α} (hm:MarkOk m) (hk:SemR P FN RA β k K):SemR P FN RA β (.mark m k) (.mark m K)
 | dead {β:Ren G} {s S:Sem α} (h:Dead s):SemR P FN RA β s S
theorem SemR.bind {P:Program}{FN:FuncId->Bool}{α γ:Type}{RA:Ren G->α->α->Prop}{RB:Ren G->γ->γ->Prop}{β:Ren G}{s S:Sem α}{f F:α->Sem γ}
  (h:SemR P FN RA β s S) (hf:∀δ,β.le δ->∀a A,RA δ a A->SemR P FN RB δ (f a) (F A)):SemR P FN RB β (s.bind f) (S.bind F):=by
 induction h with
 | pure h=>exact hf _ (Ren.le_refl _) _ _ h
 | load ha _ ih=>exact .load ha λv V hv=>ih v V hv hf
 | store ha hv _ ih=>exact .store ha hv (ih hf)
 | new ho _ ih=>exact .new ho λr R hr=>ih r R hr λδ hd=>hf δ (Ren.le_trans (Ren.le_ext hr) hd)
 | shape hr _ ih=>exact .shape hr λx=>ih x hf
 | getObj hr _ ih=>exact .getObj hr λa A l ha=>ih a A l ha hf
 | getObjD hr hk=>exact .getObjD hr λa l=>(hk a l).bind f
 | choose _ ih=>exact .choose λx=>ih x hf
 | program _ ih=>exact .program (ih hf)
 | progL _ ih=>exact .progL (ih hf)
 | mark hm _ ih=>exact .mark hm (ih hf)
 | dead h=>exact .dead (h.bind f)
def frz (fr:Nat × Nat)(off:Nat):Prop:=fr.1<=off/\off<fr.2
def BlkR (FN:FuncId->Bool)(β:Ren G)(o O:Option Obj):Prop:=
 (∃c C t fr FR,o=some (.cells c t fr)/\O=some (.cells C t FR)/\ArrR FN β c C/\∀off,frz FR off->frz fr off)\/(∃a A l,o=some (.number a l)/\O=some (.number A l)/\AR β a A)
structure WR (FN:FuncId->Bool) (β:Ren G) (w W:World):Prop where
 blk:∀b B,β.f b=some B->BlkR FN β w.heap[b]? W.heap[B]?
 gl:G<=w.heap.size
 gr:G<=W.heap.size
def Tp (w W:World):Prop:=∀i q,w.tape (w.drawn+i) q=W.tape (W.drawn+i) q
theorem BlkR.mono {FN:FuncId->Bool}{β γ:Ren G}(h:β.le γ){o O:Option Obj}(x:BlkR FN β o O):BlkR FN γ o O:=by
 rcases x with⟨c,C,t,fr,FR,h1,h2,h3,h4⟩|⟨a,A,l,h1,h2,h3⟩
 ·exact .inl ⟨c,C,t,fr,FR,h1,h2,h3.mono h,h4⟩
 ·exact .inr ⟨a,A,l,h1,h2,h3.mono h⟩
theorem BlkR.some_ {FN:FuncId->Bool}{β:Ren G}{o O:Option Obj}(x:BlkR FN β o O):o≠none/\O≠none:=by
 rcases x with⟨c,C,t,fr,FR,rfl,rfl,_⟩|⟨a,A,l,rfl,rfl,_⟩
 ·simp
 ·simp
theorem WR.lt {FN:FuncId->Bool}{β:Ren G}{w W:World}(h:WR FN β w W){b B:Nat}(hb:β.f b=some B):b<w.heap.size/\B<W.heap.size:=by
 obtain⟨h1,h2⟩:=(h.blk b B hb).some_;constructor
 ·rcases Nat.lt_or_ge b w.heap.size with x | x
  ·exact x
  ·exact absurd (Array.getElem?_eq_none x) h1
 ·rcases Nat.lt_or_ge B W.heap.size with x | x
  ·exact x
  ·exact absurd (Array.getElem?_eq_none x) h2
end
theorem frozen_iff (w:World)(a:Addr)(c:Array Value)(t:TypeId)(fr:Nat × Nat)(h:w.heap[a.block]? = some (.cells c t fr)):w.frozen? a=true↔frz fr a.off:=by
 simp[World.frozen?,h,frz]
end Go.Fw
end
section
/- One run of related Sem trees in related worlds: the company's run goes as the private one. -/
namespace Go.Fw
open Go
variable {G:Nat}
def Same (w w1:World):Prop:=∀(b:Nat) (c:Array Value) (t:TypeId) (fr:Nat × Nat),w.heap[b]? = some (Obj.cells c t fr)->∃c':Array Value,w1.heap[b]? = some (Obj.cells c' t fr)/\c'.size=c.size
def FrzAll (w:World)(b:Nat):Prop:=∃(c:Array Value) (t:TypeId) (fr:Nat × Nat),w.heap[b]? = some (Obj.cells c t fr)/\∀off,off<c.size->frz fr off
def EvR (γ:Ren G)(w:World)(W:World)(e:Event):Prop:=
 (∃A,e.loc=.cell A/\e.sync=false/\∃b,γ.f b=some A.block/\(∃(c:Array Value) (t:TypeId) (fr:Nat × Nat),W.heap[A.block]? = some (Obj.cells c t fr))/\(e.write=true->¬FrzAll w b))\/(∃m,e.loc=.mark m/\MarkOk m)\/(∃R b,e.loc=.obj R/\e.sync=false/\e.write=false/\γ.f b=some R/\∃a l,W.heap[R]? = some (.number a l))
structure RunR (FN:FuncId->Bool) (β γ:Ren G) (w W w1 W1:World):Prop where
 le:β.le γ
 wr:WR FN γ w1 W1
 tp:Tp w1 W1
 grow:w.heap.size<=w1.heap.size
 size:W1.heap.size+w.heap.size=W.heap.size+w1.heap.size
 new_:∀b B,γ.f b=some B->β.f b=some B\/(w.heap.size<=b/\W.heap.size<=B/\b+W.heap.size=B+w.heap.size)
 newAll:∀B,W.heap.size<=B->B<W1.heap.size->∃b,γ.f b=some B
 keep:∀B,B<W.heap.size->(∀b,β.f b≠some B)->W1.heap[B]? = W.heap[B]?
 keepF:∀b B,β.f b=some B->FrzAll w b->W1.heap[B]? = W.heap[B]?/\w1.heap[b]? = w.heap[b]?
 keepN:∀b B a l,β.f b=some B->w.heap[b]? = some (.number a l)->w1.heap[b]? = w.heap[b]?/\W1.heap[B]? = W.heap[B]?
 keepP:∀b,b<w.heap.size->β.f b=none->w1.heap[b]? = w.heap[b]?
 fz:Same w w1
 fZ:Same W W1
 tape:W1.tape=W.tape
 os:W1.os=W.os
 out:W1.output=W.output
 tape_:w1.tape=w.tape
 os_:w1.os=w.os
 out_:w1.output=w.output
 drawn:W1.drawn+w.drawn=W.drawn+w1.drawn
 drawnLe:w.drawn<=w1.drawn
theorem FrzAll.of_fz {w w1:World}(hfz:Same w w1){b:Nat}(h:FrzAll w b):FrzAll w1 b:=by
 obtain⟨c,t,fr,h1,h2⟩:=h;obtain⟨c',h3,h4⟩:=hfz b c t fr h1;exact⟨c',t,fr,h3,λoff ho=>h2 off (by omega)⟩
theorem RunR.refl {FN:FuncId->Bool}{β:Ren G}{w W:World}(h:WR FN β w W)(ht:Tp w W):RunR FN β β w W w W where
 le:=Ren.le_refl _
 wr:=h
 tp:=ht
 grow:=Nat.le_refl _
 size:=rfl
 new_:=λb B hb=>.inl hb
 newAll:=λB h1 h2=>absurd h2 (by omega)
 keep:=λ_ _ _=>rfl
 keepF:=λ_ _ _ _=>⟨rfl,rfl⟩
 keepN:=λ_ _ _ _ _ _=>⟨rfl,rfl⟩
 keepP:=λ_ _ _=>rfl
 fz:=λ_ c _ _ h=>⟨c,h,rfl⟩
 fZ:=λ_ c _ _ h=>⟨c,h,rfl⟩
 tape:=rfl
 os:=rfl
 out:=rfl
 tape_:=rfl
 os_:=rfl
 out_:=rfl
 drawn:=rfl
 drawnLe:=Nat.le_refl _
theorem RunR.trans {FN:FuncId->Bool}{β γ δ:Ren G}{w W w1 W1 w2 W2:World}(h:RunR FN β γ w W w1 W1)(k:RunR FN γ δ w1 W1 w2 W2):RunR FN β δ w W w2 W2 where
 le:=Ren.le_trans h.le k.le
 wr:=k.wr
 tp:=k.tp
 grow:=Nat.le_trans h.grow k.grow
 size:=by have:=h.size;have:=k.size;omega
 new_:=λb B hb=>by
  have:=h.size;have:=h.grow;rcases k.new_ b B hb with h1|⟨h1,h2,h3⟩
  ·exact h.new_ b B h1
  ·exact .inr ⟨by omega,by omega,by omega⟩
 newAll:=λB h1 h2=>by
  rcases Nat.lt_or_ge B W1.heap.size with hlt|hge
  ·obtain⟨b,hb⟩:=h.newAll B h1 hlt;exact⟨b,k.le _ _ hb⟩
  ·exact k.newAll B hge h2
 keep:=λB hB hn=>by
  have:=h.size;have:=h.grow;refine(k.keep B (by omega) λb hb=>?_).trans (h.keep B hB hn);rcases h.new_ b B hb with h1|⟨_,h2,_⟩
  ·exact hn b h1
  ·omega
 keepF:=λb B hb hf=>by
  obtain⟨h1,h2⟩:=h.keepF b B hb hf;obtain⟨h3,h4⟩:=k.keepF b B (h.le _ _ hb) (hf.of_fz h.fz);exact⟨h3.trans h1,h4.trans h2⟩
 keepN:=λb B a l hb hf=>by
  have h2:=h.keepN b B a l hb hf;have h3:=k.keepN b B a l (h.le _ _ hb) (h2.1.trans hf);exact⟨h3.1.trans h2.1,h3.2.trans h2.2⟩
 keepP:=λb hlt hb=>by
  have hg:=h.grow;refine(k.keepP b (by omega) ?_).trans (h.keepP b hlt hb);cases hc:γ.f b with
  | none=>rfl
  | some B=>
   rcases h.new_ b B hc with h1|⟨h1,_,_⟩
   ·rw[hb] at h1;cases h1
   ·omega
 fz:=λb c t fr hc=>by
  obtain⟨c1,h1,h2⟩:=h.fz b c t fr hc;obtain⟨c2,h3,h4⟩:=k.fz b c1 t fr h1;exact⟨c2,h3,h4.trans h2⟩
 fZ:=λb c t fr hc=>by
  obtain⟨c1,h1,h2⟩:=h.fZ b c t fr hc;obtain⟨c2,h3,h4⟩:=k.fZ b c1 t fr h1;exact⟨c2,h3,h4.trans h2⟩
 tape:=k.tape.trans h.tape
 os:=k.os.trans h.os
 out:=k.out.trans h.out
 tape_:=k.tape_.trans h.tape_
 os_:=k.os_.trans h.os_
 out_:=k.out_.trans h.out_
 drawn:=by have:=h.drawn;have:=k.drawn;omega
 drawnLe:=Nat.le_trans h.drawnLe k.drawnLe
theorem heap_setCell_ne {w:World}{a:Addr}{v:Value}{b:Nat}(h:b≠a.block):(w.setCell a v).heap[b]? = w.heap[b]?:=by
 simp only[World.setCell];rw[Array.getElem?_modify,if_neg (λe=>h e.symm)]
theorem heap_setCell_eq {w:World}{a:Addr}{v:Value}{c:Array Value}{t:TypeId}{fr:Nat × Nat}(h:w.heap[a.block]? = some (.cells c t fr))(hs:a.spot=none) :
  (w.setCell a v).heap[a.block]? = some (.cells (c.setIfInBounds a.off v) t fr):=by
 simp only[World.setCell];rw[Array.getElem?_modify,if_pos rfl,h];simp[hs]
theorem size_setCell' {w:World}{a:Addr}{v:Value}:(w.setCell a v).heap.size=w.heap.size:=by simp[World.setCell]
theorem cell_some {w:World}{a:Addr}{v:Value}(h:w.cell? a=some v):∃c t fr,w.heap[a.block]? = some (.cells c t fr)/\a.spot=none/\c[a.off]? = some v:=by
 unfold World.cell? at h;split at h
 ·rename_i c t fr hc;split at h
  ·cases h
  ·rename_i hs;exact⟨c,t,fr,hc,by simpa using hs,h⟩
 ·cases h
theorem cell_of {w:World}{a:Addr}{c:Array Value}{t:TypeId}{fr:Nat × Nat}(h:w.heap[a.block]? = some (.cells c t fr))(hs:a.spot=none):w.cell? a=c[a.off]?:=by
 simp[World.cell?,h,hs]
theorem WR.cell {FN:FuncId->Bool}{β:Ren G}{w W:World}(h:WR FN β w W){a A:Addr}(ha:AR β a A){v:Value}(hv:w.cell? a=some v) :
  ∃V,W.cell? A=some V/\VR FN β v V:=by
 obtain⟨c,t,fr,h1,h2,h3⟩:=cell_some hv;rcases h.blk _ _ ha.1 with⟨c',C,t',fr',FR,e1,e2,hR,_⟩|⟨_,_,_,hn,_⟩
 ·rw[h1] at e1;cases e1;obtain⟨V,hV,hR'⟩:=hR.get h3;refine⟨V,?_,hR'⟩;rw[cell_of e2 (ha.2.2.trans h2),ha.2.1];exact hV
 ·rw[h1] at hn;cases hn
theorem WR.stuck {FN:FuncId->Bool}{β:Ren G}{w W:World}(h:WR FN β w W){a A:Addr}(ha:AR β a A)(P:Program)(b:Bool) :
  w.farLoad P a b=.error (.stuck "load: no such cell")/\∀v,w.farStore P a v b=.error (.stuck "store: no such cell"):=by
 rcases h.blk _ _ ha.1 with⟨c',C,t',fr',FR,e1,e2,hR,_⟩|⟨_,_,_,hn,_⟩
 ·simp[World.farLoad,World.farStore,World.noCell,e1]
 ·simp[World.farLoad,World.farStore,World.noCell,hn]
theorem Tp.at_ {w W w' W':World}(h:Tp w W)(n:Nat)(h1:w'.tape=w.tape)(h2:W'.tape=W.tape)(h3:w'.drawn=w.drawn+n)(h4:W'.drawn=W.drawn+n):Tp w' W':=by
 intro i q;have:=h (n+i) q;rw[h1,h2,h3,h4,Nat.add_assoc,Nat.add_assoc];exact this
theorem run_draw {FN:FuncId->Bool}{β:Ren G}{w W:World}(h:WR FN β w W)(ht:Tp w W) :
  RunR FN β β w W { w with drawn:=w.drawn+1 } { W with drawn:=W.drawn+1 } where
 le:=Ren.le_refl _
 wr:=⟨h.blk,h.gl,h.gr⟩
 tp:=ht.at_ 1 rfl rfl rfl rfl
 grow:=Nat.le_refl _
 size:=rfl
 new_:=λb B hb=>.inl hb
 newAll:=λB h1 h2=>absurd (show B<W.heap.size from h2) (by omega)
 keep:=λ_ _ _=>rfl
 keepF:=λ_ _ _ _=>⟨rfl,rfl⟩
 keepN:=λ_ _ _ _ _ _=>⟨rfl,rfl⟩
 keepP:=λ_ _ _=>rfl
 fz:=λ_ c _ _ h=>⟨c,h,rfl⟩
 fZ:=λ_ c _ _ h=>⟨c,h,rfl⟩
 tape:=rfl
 os:=rfl
 out:=rfl
 tape_:=rfl
 os_:=rfl
 out_:=rfl
 drawn:=by show W.drawn+1+w.drawn=W.drawn+(w.drawn+1);omega
 drawnLe:=Nat.le_succ _
theorem same_setCell (w:World)(a:Addr)(v:Value)(hs:a.spot=none):Same w (w.setCell a v):=by
 intro b c t fr hb;by_cases e:b=a.block
 ·subst e;exact⟨_,heap_setCell_eq hb hs,by simp⟩
 ·exact⟨c,(heap_setCell_ne e).trans hb,rfl⟩
theorem run_store {FN:FuncId->Bool}{β:Ren G}{w W:World}(h:WR FN β w W)(ht:Tp w W){a A:Addr}(ha:AR β a A){v V v0:Value}(hv:VR FN β v V)
  (hc:w.cell? a=some v0) (hf:w.frozen? a=false) :
  W.cell? A≠none/\W.frozen? A=false/\RunR FN β β w W (w.setCell a v) (W.setCell A V)/\¬FrzAll (w.setCell a v) a.block/\∃(c:Array Value) (t:TypeId) (fr:Nat × Nat),W.heap[A.block]? = some (Obj.cells c t fr):=by
 obtain⟨c,t,fr,h1,hs,h3⟩:=cell_some hc;obtain⟨V0,hV0,_⟩:=h.cell ha hc;rcases h.blk _ _ ha.1 with⟨c',C,t',fr',FR,e1,e2,hR,hfz⟩|⟨_,_,_,hn,_⟩;rotate_left
 ·rw[h1] at hn;cases hn
 rw[h1] at e1;cases e1;have hS:A.spot=none:=ha.2.2.trans hs;have hnf:¬frz fr a.off:=λx=>by have:=(frozen_iff w a c t fr h1).2 x;rw[hf] at this;cases this
 have hoff:a.off<c.size:=(Array.getElem?_eq_some_iff.1 h3).1;have hnall:¬FrzAll w a.block:=by
  rintro⟨c2,t2,fr2,g1,g2⟩;rw[h1] at g1;cases g1;exact hnf (g2 _ hoff)
 refine⟨by rw[hV0];simp,?_,?_,?_,C,t,FR,e2⟩
 ·cases hF:W.frozen? A with
  | false=>rfl
  | true=>
   have:=(frozen_iff W A C t FR e2).1 hF;rw[ha.2.1] at this;exact absurd (hfz _ this) hnf
 ·refine { le:=Ren.le_refl _,wr:=⟨λb B hb=>?_,by rw[size_setCell'];exact h.gl,by rw[size_setCell'];exact h.gr⟩,tp:=ht.at_ 0 rfl rfl rfl rfl,grow:=by rw[size_setCell'];exact Nat.le_refl _,size:=(by simp),new_:=λb B hb=>.inl hb,newAll:=λB h1 h2=>absurd h2 (by rw[size_setCell'];omega),keep:=λB _ hn=>heap_setCell_ne (λe=>hn a.block (e ▸ ha.1)),keepF:=λb B hb hfa=>?_,keepN:=λb B na nl hb hn=>?_,keepP:=λb _ hb=>heap_setCell_ne (λe=>by rw[e] at hb;rw[ha.1] at hb;cases hb),fz:=same_setCell w a v hs,fZ:=same_setCell W A V hS,tape:=rfl,os:=rfl,out:=rfl,tape_:=rfl,os_:=rfl,out_:=rfl,drawn:=rfl,drawnLe:=Nat.le_refl _ }
  ·by_cases e:b=a.block
   ·subst e;have hB:B=A.block:=by have:=ha.1;rw[hb] at this;exact Option.some.inj this
    subst hB;rw[heap_setCell_eq h1 hs,heap_setCell_eq e2 hS];exact .inl ⟨_,_,t,fr,FR,rfl,rfl,by rw[ha.2.1];exact hR.set hv _,hfz⟩
   ·have hne:B≠A.block:=λe'=>e (β.inj _ _ B hb (by rw[e'];exact ha.1))
    rw[heap_setCell_ne e,heap_setCell_ne hne];exact h.blk b B hb
  ·have e:b≠a.block:=λe=>hnall (e ▸ hfa)
   have hne:B≠A.block:=λe'=>e (β.inj _ _ B hb (by rw[e'];exact ha.1))
   exact⟨heap_setCell_ne hne,heap_setCell_ne e⟩
  ·have e:b≠a.block:=by rintro rfl;rw[h1] at hn;cases hn
   have hne:B≠A.block:=λe'=>e (β.inj _ _ B hb (by rw[e'];exact ha.1))
   exact⟨heap_setCell_ne e,heap_setCell_ne hne⟩
 ·rintro⟨c2,t2,fr2,g1,g2⟩;rw[heap_setCell_eq h1 hs] at g1;cases g1;exact hnf (g2 _ (by simpa using hoff))
theorem push_lt {w:World}{o:Obj}{b:Nat}(h:b<w.heap.size):(w.heap.push o)[b]? = w.heap[b]?:=by
 rw[Array.getElem?_push,if_neg (by omega)]
theorem push_eq {w:World}{o:Obj}:(w.heap.push o)[w.heap.size]? = some o:=by simp
theorem run_new {FN:FuncId->Bool}{β:Ren G}{w W:World}(h:WR FN β w W)(ht:Tp w W){o O:Obj}(ho:NewR FN β o O) :
  ∃hn:β.New w.heap.size W.heap.size,RunR FN β (β.ext w.heap.size W.heap.size hn) w W { w with heap:=w.heap.push o } { W with heap:=W.heap.push O }:=by
 have hn:β.New w.heap.size W.heap.size:=by
  refine⟨?_,λb hb=>?_,h.gl,h.gr⟩
  ·cases hc:β.f w.heap.size with
   | none=>rfl
   | some B=>have:=(h.lt hc).1;omega
  ·have:=(h.lt hb).2;omega
 have hle:=Ren.le_ext hn;refine⟨hn,{ le:=hle,wr:=⟨λb B hb=>?_,by simp;have:=h.gl;omega,by simp;have:=h.gr;omega⟩,tp:=ht.at_ 0 rfl rfl rfl rfl,grow:=(by simp),size:=(by simp;omega),new_:=λb B hb=>?_,newAll:=λB h1 h2=>⟨w.heap.size,?_⟩,keep:=λB hB _=>push_lt hB,keepF:=λb B hb _=>⟨push_lt (h.lt hb).2,push_lt (h.lt hb).1⟩,keepN:=λb B _ _ hb _=>⟨push_lt (h.lt hb).1,push_lt (h.lt hb).2⟩,keepP:=λb hb _=>push_lt hb,fz:=λb c t fr hb=>⟨c,?_,rfl⟩,fZ:=λb c t fr hb=>⟨c,?_,rfl⟩,tape:=rfl,os:=rfl,out:=rfl,tape_:=rfl,os_:=rfl,out_:=rfl,drawn:=rfl,drawnLe:=Nat.le_refl _ }⟩
 ·rcases extF_cases hb with⟨rfl,rfl⟩ | ⟨e1,e2⟩
  ·show BlkR FN _ (w.heap.push o)[w.heap.size]? (W.heap.push O)[W.heap.size]?;rw[push_eq,push_eq];cases o with
   | cells c t fr=>
    cases O with
    | cells C T FR=>
     obtain⟨h1,rfl,rfl,rfl⟩:=ho;exact .inl ⟨c,C,t,_,_,rfl,rfl,h1.mono hle,λ_ x=>x⟩
    | _=>exact ho.elim
   | number a l=>
    cases O with
    | number A L=>
     obtain⟨h1,rfl⟩:=ho;exact .inr ⟨a,A,l,rfl,rfl,h1.mono hle⟩
    | _=>exact ho.elim
   | _=>exact ho.elim
  ·show BlkR FN _ (w.heap.push o)[b]? (W.heap.push O)[B]?;rw[push_lt (h.lt e2).1,push_lt (h.lt e2).2];exact(h.blk b B e2).mono hle
 ·rcases extF_cases hb with⟨rfl,rfl⟩ | ⟨e1,e2⟩
  ·exact .inr ⟨Nat.le_refl _,Nat.le_refl _,by omega⟩
  ·exact .inl e2
 ·have:B=W.heap.size:=by simp at h2;omega
  rw[this];exact Ren.ext_same _ _ _ hn
 ·exact(push_lt (Array.getElem?_eq_some_iff.1 hb).1).trans hb
 ·exact(push_lt (Array.getElem?_eq_some_iff.1 hb).1).trans hb
theorem EvR.mono {FN:FuncId->Bool}{β γ:Ren G}{w W w1 W1:World}(hw:WR FN β w W)(h:RunR FN β γ w W w1 W1){e:Event}(x:EvR β w W e):EvR γ w1 W1 e:=by
 rcases x with⟨A,h1,h2,b,hb,⟨c,t,fr,hc⟩,hf⟩|x|⟨R,b,h1,h2,h3,hb,na,nl,hn⟩
 ·refine .inl ⟨A,h1,h2,b,h.le _ _ hb,?_,λhwr=>?_⟩
  ·obtain⟨c',hc',_⟩:=h.fZ _ c t fr hc;exact⟨c',t,fr,hc'⟩
  ·rintro⟨c2,t2,fr2,g1,g2⟩;refine hf hwr ?_;rcases hw.blk _ _ hb with⟨c',C,t',fr',FR,e1,e2,hR,hfz⟩|⟨_,_,_,hn,hN,_⟩
   ·obtain⟨c3,h3,h4⟩:=h.fz _ c' t' fr' e1;rw[h3] at g1;cases g1;exact⟨c',_,_,e1,λoff ho=>g2 off (by omega)⟩
   ·rw[hc] at hN;cases hN
 ·exact .inr (.inl x)
 ·refine .inr (.inr ⟨R,b,h1,h2,h3,h.le _ _ hb,?_⟩);rcases hw.blk _ _ hb with⟨c',C,t',fr',FR,e1,e2,hR,hfz⟩|⟨a,A,l,g1,g2,_⟩
  ·rw[hn] at e2;cases e2
  ·rcases h.wr.blk _ _ (h.le _ _ hb) with⟨c',C,t',fr',FR,e1,e2,hR,hfz⟩ | ⟨a',A',l',f1,f2,_⟩
   ·have:=(h.keepN b R a l hb g1).1;rw[this,g1] at e1;cases e1
   ·exact⟨A',l',f2⟩
theorem VR.plain {FN:FuncId->Bool}{β:Ren G}{v V:Value}(h:VR FN β v V)(h1:∀xs,v≠.agg xs)(h2:∀xs,v≠.tuple xs):(∀xs,V≠.agg xs)/\(∀xs,V≠.tuple xs):=by
 cases h with
 | junk h=>exact⟨λ_ e=>(by subst e;cases h),λ_ e=>(by subst e;cases h)⟩
 | _=>first | exact absurd rfl (h1 _) | exact absurd rfl (h2 _) | exact⟨λ_ e=>(by cases e),λ_ e=>(by cases e)⟩
theorem runT_store {α:Type}{P:Program}{a:Addr}{v:Value}{k:Sem α}{w:World}{es:Array Event}(h1:∀xs,v≠.agg xs)(h2:∀xs,v≠.tuple xs) :
  (Sem.store .plain a v k).runT P w es=match w.cell? a with
   | some _=>if w.frozen? a then (.halt (.unsupported (.unsafePointer "a write to bytes that a string shares")) w,es) else k.runT P (w.setCell a v) (es.push ⟨.cell a,true,false⟩)
   | none=>match w.farStore P a v false with
    | .ok (w,touched)=>k.runT P w (es++touched.toArray.map (⟨.cell ·,true,false⟩))
    | .error h=>(.halt h w,es):=by
 cases v<;>first | exact absurd rfl (h1 _) | exact absurd rfl (h2 _) | rfl
theorem SemR.run {P:Program}{FN:FuncId->Bool}{α:Type}{RA:Ren G->α->α->Prop}{β:Ren G}{s S:Sem α}(h:SemR P FN RA β s S) :
  ∀(w W:World) (es ES:Array Event) (a:α) (w1:World) (es1:Array Event),WR FN β w W->Tp w W->s.runT P w es=(.ok a w1,es1)->
   ∃(γ:Ren G) (A:α) (W1:World) (ES1:Array Event),S.runT P W ES=(.ok A W1,ES1)/\RA γ a A/\RunR FN β γ w W w1 W1/\∀e∈ES1,e∈ES\/EvR γ w1 W1 e:=by
 induction h with
 | pure h=>
  intro w W es ES a w1 es1 hw ht hr;simp only[Sem.runT,Prod.mk.injEq,Result.ok.injEq] at hr;obtain⟨⟨rfl,rfl⟩,rfl⟩:=hr;exact⟨_,_,W,ES,rfl,h,.refl hw ht,λe he=>.inl he⟩
 | @load β a A k K ha hk ih=>
  intro w W es ES x w1 es1 hw ht hr;simp only[Sem.runT] at hr;cases hc:w.cell? a with
  | none=>
   rw[hc] at hr;simp only[(hw.stuck ha P false).1,show ((Mode.plain == Mode.atomic)=false) from rfl] at hr;cases hr
  | some v=>
   rw[hc] at hr;obtain⟨V,hV,hR⟩:=hw.cell ha hc;obtain⟨γ,A',W1,ES1,h1,h2,h3,h4⟩:=ih v V hR w W _ (ES.push ⟨.cell A,false,false⟩) x w1 es1 hw ht hr;refine⟨γ,A',W1,ES1,?_,h2,h3,λe he=>?_⟩
   ·simp only[Sem.runT,hV];exact h1
   ·rcases h4 e he with h5 | h5
    ·rcases Array.mem_push.1 h5 with h6 | h6
     ·exact .inl h6
     ·refine .inr (EvR.mono hw h3 (.inl ⟨A,by rw[h6],by rw[h6],a.block,ha.1,?_,λhwr=>by rw[h6] at hwr;cases hwr⟩));obtain⟨c,t,fr,g1,_,_⟩:=cell_some hV;exact⟨c,t,fr,g1⟩
    ·exact .inr h5
 | @store β a A v V k K ha hv hk ih=>
  intro w W es ES x w1 es1 hw ht hr;have p1:∀xs,v≠.agg xs:=λxs e=>by subst e;simp only[Sem.runT] at hr;cases hr
  have p2:∀xs,v≠.tuple xs:=λxs e=>by subst e;simp only[Sem.runT] at hr;cases hr
  obtain⟨q1,q2⟩:=hv.plain p1 p2;rw[runT_store p1 p2] at hr;cases hc:w.cell? a with
  | none=>
   rw[hc] at hr;simp only[(hw.stuck ha P false).2 v] at hr;cases hr
  | some v0=>
   rw[hc] at hr;simp only at hr;cases hf:w.frozen? a with
   | true=>rw[hf] at hr;simp at hr
   | false=>
    rw[hf] at hr;simp only[Bool.false_eq_true,if_false] at hr;obtain⟨h1,h2,h3,h3b,h3c⟩:=run_store hw ht ha hv hc hf;obtain⟨γ,A',W1,ES1,g1,g2,g3,g4⟩:=ih (w.setCell a v) (W.setCell A V) _ (ES.push ⟨.cell A,true,false⟩) x w1 es1 h3.wr h3.tp hr;refine⟨γ,A',W1,ES1,?_,g2,h3.trans g3,λe he=>?_⟩
    ·rw[runT_store q1 q2];obtain⟨V0,hV0⟩:=Option.ne_none_iff_exists'.1 h1;rw[hV0,h2];simp only[Bool.false_eq_true,if_false];exact g1
    ·rcases g4 e he with h5 | h5
     ·rcases Array.mem_push.1 h5 with h6 | h6
      ·exact .inl h6
      ·refine .inr (EvR.mono h3.wr g3 (.inl ⟨A,by rw[h6],by rw[h6],a.block,ha.1,?_,λ_=>h3b⟩));obtain⟨c,t,fr,hc'⟩:=h3c;obtain⟨c',hc'',_⟩:=h3.fZ _ c t fr hc';exact⟨c',t,fr,hc''⟩
     ·exact .inr h5
 | @new β o O k K ho hk ih=>
  intro w W es ES x w1 es1 hw ht hr;simp only[Sem.runT] at hr;obtain⟨hn,hR⟩:=run_new hw ht ho;obtain⟨γ,A',W1,ES1,g1,g2,g3,g4⟩:=ih w.heap.size W.heap.size hn _ _ _ ES x w1 es1 hR.wr hR.tp hr;exact⟨γ,A',W1,ES1,by simp only[Sem.runT];exact g1,g2,hR.trans g3,g4⟩
 | @shape β r R k K hr' hk ih=>
  intro w W es ES x w1 es1 hw ht hr;simp only[Sem.runT] at hr;have hs:w.shape? r=W.shape? R:=by
   rcases hw.blk _ _ hr' with⟨c',C,t',fr',FR,e1,e2,hR,hfz⟩|⟨a',A',l,hn,hN,_⟩
   ·simp[World.shape?,e1,e2,hR.1]
   ·simp[World.shape?,hn,hN]
  obtain⟨γ,A',W1,ES1,g1,g2,g3,g4⟩:=ih (w.shape? r) w W _ ES x w1 es1 hw ht hr;exact⟨γ,A',W1,ES1,by simp only[Sem.runT];rw[←hs];exact g1,g2,g3,g4⟩
 | @getObj β r R k K hr' hk ih=>
  intro w W es ES x w1 es1 hw ht hr;simp only[Sem.runT] at hr;rcases hw.blk _ _ hr' with⟨c',C,t',fr',FR,e1,e2,hR,hfz⟩|⟨a',A',l,hn,hN,hA⟩
  ·rw[e1] at hr;simp only at hr;cases hr
  ·rw[hn] at hr;simp only at hr;obtain⟨γ,A'',W1,ES1,g1,g2,g3,g4⟩:=ih a' A' l hA w W _ (ES.push ⟨.obj R,false,false⟩) x w1 es1 hw ht hr;refine⟨γ,A'',W1,ES1,by simp only[Sem.runT,hN];exact g1,g2,g3,λe he=>?_⟩;rcases g4 e he with h5|h5
   ·rcases Array.mem_push.1 h5 with h6 | h6
    ·exact .inl h6
    ·exact .inr (EvR.mono hw g3 (.inr (.inr ⟨R,r,by rw[h6],by rw[h6],by rw[h6],hr',A',l,hN⟩)))
   ·exact .inr h5
 | @getObjD β r R k S hr' hk=>
  intro w W es ES x w1 es1 hw ht hr;simp only[Sem.runT] at hr;rcases hw.blk _ _ hr' with⟨c',C,t',fr',FR,e1,e2,hR,hfz⟩|⟨a',A',l,hn,hN,hA⟩
  ·rw[e1] at hr;simp only at hr;cases hr
  ·rw[hn] at hr;simp only at hr;obtain⟨e,w',he,_⟩:=(hk a' l).run (P:=P) w;rw[Sem.runT_eq,he] at hr;cases hr
 | @choose β q k K hk ih=>
  intro w W es ES x w1 es1 hw ht hr;simp only[Sem.runT] at hr;cases hq:q.forced with
  | true=>
   rw[hq] at hr;simp only[if_true] at hr;obtain⟨γ,A',W1,ES1,g1,g2,g3,g4⟩:=ih 0 w W _ ES x w1 es1 hw ht hr;exact⟨γ,A',W1,ES1,by simp only[Sem.runT,hq,if_true];exact g1,g2,g3,g4⟩
  | false=>
   rw[hq] at hr;simp only[Bool.false_eq_true,if_false] at hr;have hR:=run_draw hw ht;have htp:w.tape w.drawn q=W.tape W.drawn q:=by have:=ht 0 q;simpa using this
   rw[htp] at hr;obtain⟨γ,A',W1,ES1,g1,g2,g3,g4⟩:=ih _ _ _ _ ES x w1 es1 hR.wr hR.tp hr;exact⟨γ,A',W1,ES1,by simp only[Sem.runT,hq,Bool.false_eq_true,if_false];exact g1,g2,hR.trans g3,g4⟩
 | program hk ih=>
  intro w W es ES x w1 es1 hw ht hr;simp only[Sem.runT] at hr;obtain⟨γ,A',W1,ES1,g1,g2,g3,g4⟩:=ih w W _ ES x w1 es1 hw ht hr;exact⟨γ,A',W1,ES1,by simp only[Sem.runT];exact g1,g2,g3,g4⟩
 | progL hk ih=>
  intro w W es ES x w1 es1 hw ht hr;simp only[Sem.runT] at hr;exact ih w W _ ES x w1 es1 hw ht hr
 | @mark β m k K hm hk ih=>
  intro w W es ES x w1 es1 hw ht hr;simp only[Sem.runT] at hr;obtain⟨γ,A',W1,ES1,g1,g2,g3,g4⟩:=ih w W _ (ES.push ⟨.mark m,false,true⟩) x w1 es1 hw ht hr;refine⟨γ,A',W1,ES1,by simp only[Sem.runT];exact g1,g2,g3,λe he=>?_⟩;rcases g4 e he with h5|h5
  ·rcases Array.mem_push.1 h5 with h6 | h6
   ·exact .inl h6
   ·exact .inr (.inr (.inl ⟨m,by rw[h6],hm⟩))
  ·exact .inr h5
 | dead h=>
  intro w W es ES x w1 es1 hw ht hr;obtain⟨e,w',he,_⟩:=h.run (P:=P) w;rw[Sem.runT_eq,he] at hr;cases hr
end Go.Fw
end
section
/- The operations of the model, one by one: over related operands they yield related Sem trees. -/
namespace Go.Fw
open Go
def plainV:Nat->Value->Bool
 | 0,_=>false
 | n+1,v=>match v with
  | .bool _ | .int _ _ | .string _ | .pointer none | .slice none _ _ | .chan _ | .nilFunc | .nilIface=>true
  | .agg xs | .tuple xs=>xs.all (plainV n)
  | .iface _ v=>plainV n v
  | _=>false
theorem all_get {xs:Array Value}{f:Value->Bool}(h:xs.all f=true){i:Nat}{x:Value}(hx:xs[i]? = some x):f x=true:=by
 rw[Array.all_eq_true] at h;obtain⟨hi,rfl⟩:=Array.getElem?_eq_some_iff.1 hx;exact h i hi
theorem VR.of_plain {G:Nat}{FN:FuncId->Bool}{β:Ren G}:∀(n:Nat) (v:Value),plainV n v=true->VR FN β v v
 | 0,_,h=>by cases h
 | n+1,v,h=>by
  cases v with
  | bool b=>exact .bool b
  | int k n=>exact .int k n
  | float k n=>cases h
  | complex k m n=>cases h
  | string s=>exact .string s
  | pointer a=>cases a with
   | none=>exact .ptr0
   | some a=>cases h
  | slice a l c=>cases a with
   | none=>exact .slice0 l c
   | some a=>cases h
  | map r=>cases h
  | chan r=>exact .chan r
  | func f x y=>cases h
  | nilFunc=>exact .nilFunc
  | iface t v=>exact .iface t (VR.of_plain n v h)
  | nilIface=>exact .nilIface
  | agg xs=>exact .agg rfl λi x X hx hX=>by rw[hx] at hX;cases hX;exact VR.of_plain n x (all_get h hx)
  | tuple xs=>exact .tuple rfl λi x X hx hX=>by rw[hx] at hX;cases hX;exact VR.of_plain n x (all_get h hx)
section
variable {G:Nat} {P:Program} {FN:FuncId->Bool} {β:Ren G}
def Eq2 {α:Type}:Ren G->α->α->Prop:=λ_ a A=>a=A
def ArrR' (FN:FuncId->Bool):Ren G->Array Value->Array Value->Prop:=λβ=>ArrR FN β
theorem SemR.bnd {α γ:Type}{RA:Ren G->α->α->Prop}{RB:Ren G->γ->γ->Prop}{s S:Sem α}{f F:α->Sem γ}
  (h:SemR P FN RA β s S) (hf:∀δ,β.le δ->∀a A,RA δ a A->SemR P FN RB δ (f a) (F A)):SemR P FN RB β (s >>= f) (S >>= F):=h.bind hf
theorem SemR.pur {α:Type}{RA:Ren G->α->α->Prop}{a A:α}(h:RA β a A):SemR P FN RA β (Pure.pure a:Sem α) (Pure.pure A):=.pure h
theorem SemR.stuck_ {α:Type}{RA:Ren G->α->α->Prop}{why:String}{S:Sem α}:SemR P FN RA β (Go.stuck why) S:=.dead (.halt trivial)
theorem SemR.unsup {α:Type}{RA:Ren G->α->α->Prop}{u:Unsupported}{S:Sem α}(h:HaltOk (.unsupported u)):SemR P FN RA β (Go.unsupported u) S:=.dead (.halt h)
theorem SemR.same_bind {α γ:Type}{RB:Ren G->γ->γ->Prop}{s:Sem α}{f F:α->Sem γ}
  (h:SemR P FN Eq2 β s s) (hf:∀δ,β.le δ->∀a,SemR P FN RB δ (f a) (F a)):SemR P FN RB β (s >>= f) (s >>= F):=
 h.bind λδ hd a A e=>by cases e;exact hf δ hd a
theorem dead_stuck {α:Type}(why:String):Dead (Go.stuck why:Sem α):=Dead.halt (h:=.stuck why) trivial
theorem dead_goPanic {α:Type}(v:Value):Dead (goPanic v:Sem α):=Dead.halt (h:=.panic v) trivial
theorem dead_elemOf_then {α:Type}(t:TypeId)(f:TypeId->Sem α)(hf:∀x,Dead (f x)):Dead (elemOf t >>= f):=by
 refine .program λp=>?_
 simp only[Sem.bind];cases p.underlying t with
 | none=>exact dead_stuck _
 | some d=>cases d<;>first | exact hf _ | exact dead_stuck _
theorem dead_runtimePanic {α:Type}(e:RuntimeError):Dead (runtimePanic e:Sem α):=by
 refine .program λp=>?_
 simp only[Sem.bind];cases e with
 | bounds x y s c=>exact dead_goPanic _
 | error m=>exact dead_goPanic _
 | plain m=>exact dead_goPanic _
 | nilDeref=>exact dead_goPanic _
 | typeAssertion i c a m=>
  refine dead_elemOf_then _ _ λx=>?_
  exact .new λr=>dead_goPanic _
 | panicNil=>
  refine dead_elemOf_then _ _ λx=>?_
  exact .new λr=>dead_goPanic _
 | unhashable t=>exact dead_goPanic _
theorem dead_boundsPanic {α:Type}(k:IntKind)(x y:Int)(c:BoundsCode):Dead (boundsPanic k x y c:Sem α):=by
 unfold boundsPanic;split
 ·refine .choose λn=>?_
  simp only[Sem.bind,Function.comp];exact dead_runtimePanic _
 ·show Dead (Sem.bind (.pure _) _);simp only[Sem.bind];exact dead_runtimePanic _
theorem SemR.rtp {α:Type}{RA:Ren G->α->α->Prop}{e:RuntimeError}{S:Sem α}:SemR P FN RA β (runtimePanic e) S:=.dead (dead_runtimePanic e)
theorem SemR.bnp {α:Type}{RA:Ren G->α->α->Prop}{k:IntKind}{x y:Int}{c:BoundsCode}{S:Sem α}:SemR P FN RA β (boundsPanic k x y c) S:=.dead (dead_boundsPanic k x y c)
theorem rel_typeInfo (t:TypeId):SemR P FN Eq2 β (typeInfo t) (typeInfo t):=by
 refine .program ?_;show SemR P FN Eq2 β (Sem.bind (.pure P) _) (Sem.bind (.pure P) _);simp only[Sem.bind];cases P.info? t with
 | none=>exact .stuck_
 | some i=>exact .pur rfl
theorem rel_underlying (t:TypeId):SemR P FN Eq2 β (underlying t) (underlying t):=by
 refine .program ?_;show SemR P FN Eq2 β (Sem.bind (.pure P) _) (Sem.bind (.pure P) _);simp only[Sem.bind];cases P.underlying t with
 | none=>exact .stuck_
 | some i=>exact .pur rfl
def Und (P:Program)(t:TypeId):Ren G->TypeDesc->TypeDesc->Prop:=λ_ a A=>a=A/\P.underlying t=some a
theorem rel_und (t:TypeId):SemR P FN (Und P t) β (underlying t) (underlying t):=by
 refine .program ?_;show SemR P FN (Und P t) β (Sem.bind (.pure P) _) (Sem.bind (.pure P) _);simp only[Sem.bind];cases h:P.underlying t with
 | none=>exact .stuck_
 | some i=>exact .pur ⟨rfl,h⟩
theorem rel_sizeOf (t:TypeId):SemR P FN Eq2 β (sizeOf t) (sizeOf t):=by
 unfold sizeOf;exact SemR.same_bind (rel_typeInfo t) λδ hd a=>.pur rfl
theorem rel_isAgg (t:TypeId):SemR P FN Eq2 β (isAgg t) (isAgg t):=by
 unfold isAgg;refine SemR.same_bind (rel_underlying t) λδ hd a=>?_
 cases a<;>exact .pur rfl
def zeroOk (P:Program)(t:TypeId):Bool:=match P.info? t with
 | some i=>match i.zero with
  | some v=>plainV 5 v
  | none=>true
 | none=>true
theorem rel_zeroValue (t:TypeId)(h:zeroOk P t=true):SemR P FN (VR FN) β (zeroValue t) (zeroValue t):=by
 unfold zeroOk at h;refine .program ?_;show SemR P FN (VR FN) β (Sem.bind (Sem.bind (.pure P) _) _) (Sem.bind (Sem.bind (.pure P) _) _);simp only[Sem.bind];cases hi:P.info? t with
 | none=>exact .dead (Dead.bind (dead_stuck _) _)
 | some i=>
  rw[hi] at h;show SemR P FN (VR FN) β (Sem.bind (.pure i) _) (Sem.bind (.pure i) _);simp only[Sem.bind];cases hz:i.zero with
  | none=>exact .unsup trivial
  | some v=>simp only[hz] at h;exact .pur (VR.of_plain 5 v h)
theorem rel_load {a A:Addr}(ha:AR β a A):SemR P FN (VR FN) β (load a) (load A):=.load ha λ_ _ hv=>.pure hv
theorem rel_store {a A:Addr}{v V:Value}(ha:AR β a A)(hv:VR FN β v V):SemR P FN Eq2 β (store a v) (store A V):=.store ha hv (.pure rfl)
theorem rel_newRow {e:TypeId}{xs XS:Array Value}(h:ArrR FN β xs XS):SemR P FN AR β (newRow e xs) (newRow e XS):=by
 refine .new ⟨h,rfl,rfl,rfl⟩ λr R hr=>?_
 exact .pure ⟨Ren.ext_same _ _ _ hr,rfl,rfl⟩
theorem rel_newVar {t:TypeId}{v V:Value}(h:VR FN β v V):SemR P FN AR β (newVar t v) (newVar t V):=rel_newRow h.cells
theorem rel_loadCellsFrom {n:Nat}:∀{β:Ren G} {a A:Addr} {i:Nat} {acc ACC:Array Value},AR β a A->ArrR FN β acc ACC->SemR P FN (ArrR' FN) β (loadCellsFrom a i n acc) (loadCellsFrom A i n ACC):=by
 induction n with
 | zero=>intro β a A i acc ACC ha h;exact .pure h
 | succ n ih=>
  intro β a A i acc ACC ha h;refine SemR.bnd (rel_load (ha.add i)) λδ hd _ _ hv=>?_
  exact ih (ha.mono hd) ((h.mono hd).push hv)
theorem rel_loadCells {a A:Addr}(ha:AR β a A)(n:Nat):SemR P FN (ArrR' FN) β (loadCells a n) (loadCells A n):=rel_loadCellsFrom ha ArrR.nil
def LstR (FN:FuncId->Bool)(β:Ren G):List Value->List Value->Prop
 | [],[]=>True
 | v :: vs,V :: VS=>VR FN β v V/\LstR FN β vs VS
 | _,_=>False
theorem LstR.mono {γ:Ren G}(h:β.le γ):∀{l L:List Value},LstR FN β l L->LstR FN γ l L
 | [],[],_=>trivial
 | _ :: _,_ :: _,⟨a,b⟩=>⟨a.mono h,LstR.mono h b⟩
 | [],_ :: _,x=>x.elim
 | _ :: _,[],x=>x.elim
theorem LstR.of:∀{l L:List Value},l.length=L.length->(∀(i:Nat) (x X:Value),l[i]? = some x->L[i]? = some X->VR FN β x X)->LstR FN β l L
 | [],[],_,_=>trivial
 | v :: vs,V :: VS,h,k=>⟨k 0 v V rfl rfl,LstR.of (by simpa using h) λi x X hx hX=>k (i+1) x X (by simpa using hx) (by simpa using hX)⟩
 | [],_ :: _,h,_=>by cases h
 | _ :: _,[],h,_=>by cases h
theorem ArrR.list {xs XS:Array Value}(h:ArrR FN β xs XS):LstR FN β xs.toList XS.toList:=
 LstR.of (by simpa using h.1) λi x X hx hX=>h.2 i x X (by simpa using hx) (by simpa using hX)
theorem rel_storeCells:∀{vs VS:List Value} {β:Ren G} {a A:Addr} {i:Nat},AR β a A->LstR FN β vs VS->SemR P FN Eq2 β (storeCells a vs i) (storeCells A VS i)
 | [],[],_,_,_,_,_,_=>.pure rfl
 | v :: vs,V :: VS,β,a,A,i,ha,h=>by
  refine SemR.bnd (rel_store (ha.add i) h.1) λδ hd _ _ _=>?_
  exact rel_storeCells (ha.mono hd) (h.2.mono hd)
 | [],_ :: _,_,_,_,_,_,h=>h.elim
 | _ :: _,[],_,_,_,_,_,h=>h.elim
theorem rel_loadVar {t:TypeId}{a A:Addr}(ha:AR β a A):SemR P FN (VR FN) β (loadVar t a) (loadVar t A):=by
 unfold loadVar;refine SemR.same_bind (rel_isAgg t) λδ hd b=>?_
 cases b with
 | true=>
  refine SemR.same_bind (rel_sizeOf t) λε he n=>?_
  refine SemR.bnd (rel_loadCells ((ha.mono hd).mono he) n) λζ hz xs XS hx=>?_
  exact .pur (VR.agg' hx)
 | false=>exact rel_load (ha.mono hd)
theorem rel_storeVar {t:TypeId}{a A:Addr}{v V:Value}(ha:AR β a A)(hv:VR FN β v V):SemR P FN Eq2 β (storeVar t a v) (storeVar t A V):=by
 unfold storeVar;refine SemR.same_bind (rel_sizeOf t) λδ hd n=>?_
 have hs:=(hv.mono hd).cells;rw[←hs.1];split
 ·exact .dead (Dead.bind (dead_stuck _) _)
 ·exact rel_storeCells (ha.mono hd) hs.list
theorem rel_sureAddr {v V:Value}(h:VR FN β v V):SemR P FN AR β (Instr.sureAddr v) (Instr.sureAddr V):=by
 cases h with
 | ptr ha=>exact .pure ha
 | _=>exact .stuck_
theorem rel_asIntOf {v V:Value}(h:VR FN β v V):SemR P FN Eq2 β (asIntOf v) (asIntOf V):=by
 cases h with
 | int k n=>exact .pure rfl
 | ptr ha=>exact .unsup trivial
 | _=>exact .stuck_
theorem rel_asInt {v V:Value}(h:VR FN β v V):SemR P FN Eq2 β (asInt v) (asInt V):=by
 unfold asInt;exact SemR.bnd (rel_asIntOf h) λδ hd a A e=>by cases e;exact .pur rfl
end
end Go.Fw
end
section
/- The operations of the model, one by one, continued: instructions. -/
namespace Go.Fw
open Go
section
variable {G:Nat} {P:Program} {FN:FuncId->Bool} {β:Ren G}
theorem ArrR.ofFn_mod {z Z:Array Value}(h:ArrR FN β z Z)(n:Nat)(hz:z.size≠0\/n=0) :
  ArrR FN β ((Array.range n).map (z[· % z.size]!)) ((Array.range n).map (Z[· % Z.size]!)):=by
 refine⟨by simp,λi x X hx hX=>?_⟩;simp only[Array.getElem?_map,Option.map_eq_some_iff] at hx hX;obtain⟨j,hj,rfl⟩:=hx;obtain⟨J,hJ,rfl⟩:=hX;rw[hj] at hJ;cases hJ;have hn:n≠0:=by rintro rfl;simp at hj
 have hz':z.size≠0:=hz.resolve_right hn;have hlt:j%z.size<z.size:=Nat.mod_lt _ (by omega);have hlt':j%Z.size<Z.size:=by rw[←h.1];exact hlt
 rw[getElem!_pos z _ hlt,getElem!_pos Z _ hlt'];refine h.2 (j%z.size) _ _ (Array.getElem?_eq_getElem hlt) ?_;have:j%z.size=j%Z.size:=by rw[h.1]
 simp only[this];exact Array.getElem?_eq_getElem hlt'
theorem rel_alloc {t:TypeId}(h:zeroOk P t=true):SemR P FN (VR FN) β (Instr.alloc t true (.tuple #[])) (Instr.alloc t true (.tuple #[])):=by
 unfold Instr.alloc;refine SemR.bnd (rel_zeroValue t h) λδ hd v V hv=>?_
 refine SemR.bnd (rel_newVar hv) λε he a A ha=>.pur (.ptr ha)
theorem rel_box {t:TypeId}{v V:Value}(h:VR FN β v V):SemR P FN (VR FN) β (Instr.box t v) (Instr.box t V):=by
 unfold Instr.box;exact SemR.bnd (rel_newVar h) λε he a A ha=>.pur (.ptr ha)
theorem rel_loadAt {t:TypeId}{v V:Value}(h:VR FN β v V):SemR P FN (VR FN) β (Instr.loadAt t v) (Instr.loadAt t V):=by
 unfold Instr.loadAt;exact SemR.bnd (rel_sureAddr h) λδ hd a A ha=>rel_loadVar ha
theorem rel_storeAt {t:TypeId}{a A v V:Value}(ha:VR FN β a A)(hv:VR FN β v V):SemR P FN Eq2 β (Instr.storeAt t a v) (Instr.storeAt t A V):=by
 unfold Instr.storeAt;exact SemR.bnd (rel_sureAddr ha) λδ hd a A hr=>rel_storeVar hr (hv.mono hd)
def sizedT (P:Program)(t:TypeId):Bool:=match P.info? t with
 | some i=>i.size != 0
 | none=>true
theorem rel_size_ne {t:TypeId}(h:sizedT P t=true):SemR P FN (λ_ a A=>a=A/\a≠0) β (sizeOf t) (sizeOf t):=by
 unfold sizedT at h;refine .program ?_;show SemR P FN _ β (Sem.bind (Sem.bind (.pure P) _) _) (Sem.bind (Sem.bind (.pure P) _) _);simp only[Sem.bind];cases hi:P.info? t with
 | none=>exact .dead (Dead.bind (dead_stuck _) _)
 | some i=>
  rw[hi] at h;exact .pur ⟨rfl,by simpa using h⟩
def fieldOk (P:Program)(s:TypeId)(k:Nat):Bool:=match P.underlying s with
 | some (.struct fields)=>match fields[k]? with
  | some f=>sizedT P f.type
  | none=>true
 | _=>true
theorem rel_fieldAt {s k:Nat}{v V:Value}(h:VR FN β v V)(hok:fieldOk P s k=true):SemR P FN (VR FN) β (Instr.fieldAt s v k) (Instr.fieldAt s V k):=by
 unfold Instr.fieldAt;refine SemR.bnd (rel_und s) λδ hd d D e=>?_
 obtain⟨rfl,hu⟩:=e;unfold fieldOk at hok;rw[hu] at hok;cases d with
 | struct fields=>
  simp only at hok ⊢;cases hf:fields[k]? with
  | none=>exact .stuck_
  | some f=>
   rw[hf] at hok;refine SemR.bnd (rel_sureAddr (h.mono hd)) λε he a A ha=>?_
   refine SemR.bnd (RA:=AR) ?_ λζ hz b B hb=>.pur (.ptr hb)
   unfold fieldPlace;refine SemR.bnd (rel_size_ne hok) λζ hz n N hn=>?_
   obtain⟨rfl,hn⟩:=hn;rw[if_neg hn,if_neg hn];exact .pur ((ha.add _).mono hz)
 | _=>exact .stuck_
def slcT (P:Program)(t:TypeId):Bool:=match P.underlying t with
 | some (.slice _) | some (.array _ _)=>true
 | none=>true
 | _=>false
theorem rel_indexTail {t:TypeId}(k:IntKind)(i:Int)(b B:Option Addr)(len:Nat)(elem:TypeId)(h:(b=none/\B=none)\/∃a A,b=some a/\B=some A/\(AR β a A\/len=0)) :
  SemR P FN (VR FN) β
   (do
    let d ←underlying t
    let tiny:Bool:=decide (len<=1) && (match d with | .array _ _=>true | _=>false)
    match b with
    | some a=>(if 0<=i/\i < ↑len then (sizeOf elem >>= λn=>pure (Value.pointer (some (a.add (i.toNat*n))))) else if tiny=true then unsupported (.noEntry "op/indexAddr.an index out of range at an array of length 0 or 1 (ledger 616)") else boundsPanic k i (↑len) BoundsCode.index)
    | none=>boundsPanic k i 0 BoundsCode.index)
   (do
    let d ←underlying t
    let tiny:Bool:=decide (len<=1) && (match d with | .array _ _=>true | _=>false)
    match B with
    | some a=>(if 0<=i/\i < ↑len then (sizeOf elem >>= λn=>pure (Value.pointer (some (a.add (i.toNat*n))))) else if tiny=true then unsupported (.noEntry "op/indexAddr.an index out of range at an array of length 0 or 1 (ledger 616)") else boundsPanic k i (↑len) BoundsCode.index)
    | none=>boundsPanic k i 0 BoundsCode.index):=by
 refine SemR.same_bind (rel_underlying t) λε he d=>?_
 rcases h with⟨rfl,rfl⟩|⟨a,A,rfl,rfl,ha⟩
 ·exact .bnp
 ·simp only;split
  ·rename_i hlt;rcases ha with ha|rfl
   ·refine SemR.same_bind (rel_sizeOf elem) λη hη n=>?_
    exact .pur (.ptr (((ha.mono he).mono hη).add _))
   ·omega
  ·generalize (decide (len<=1) && _)=tiny;cases tiny
   ·exact SemR.bnp (k:=k) (x:=i) (y:=len) (c:=.index)
   ·exact SemR.unsup (u:=.noEntry _) trivial
theorem rel_indexAt {t:TypeId}{x X i I:Value}(hx:VR FN β x X)(hi:VR FN β i I):SemR P FN (VR FN) β (Instr.indexAt t x i) (Instr.indexAt t X I):=by
 unfold Instr.indexAt;refine SemR.bnd (rel_asIntOf hi) λδ hd k K e=>?_
 cases e;obtain⟨k,i⟩:=k;refine SemR.same_bind (rel_underlying t) λε he d=>?_
 have hx':=(hx.mono hd).mono he;cases d with
 | array n e=>
  refine SemR.bnd (rel_sureAddr hx') λζ hz a A ha=>?_
  exact rel_indexTail k i _ _ n e (.inr ⟨_,_,rfl,rfl,.inl ha⟩)
 | slice e=>
  cases hx' with
  | slice0 l c=>exact rel_indexTail k i _ _ l e (.inl ⟨rfl,rfl⟩)
  | slice l c ha=>exact rel_indexTail k i _ _ l e (.inr ⟨_,_,rfl,rfl,.inl ha⟩)
  | sliceE a A=>exact rel_indexTail k i _ _ 0 e (.inr ⟨_,_,rfl,rfl,.inr rfl⟩)
  | _=>exact .dead (Dead.bind (dead_stuck _) _)
 | _=>exact .dead (Dead.bind (dead_stuck _) _)
def OptR (FN:FuncId->Bool)(β:Ren G):Option Value->Option Value->Prop
 | none,none=>True
 | some v,some V=>VR FN β v V
 | _,_=>False
theorem OptR.mono {γ:Ren G}(h:β.le γ){v V:Option Value}(x:OptR FN β v V):OptR FN γ v V:=by
 cases v<;>cases V<;>first | exact x | exact VR.mono h x
def EqLe (y:Nat):Ren G->Nat->Nat->Prop:=λ_ a A=>a=A/\a<=y
def EqBd (c:Nat):Ren G->Nat × Nat × Nat->Nat × Nat × Nat->Prop:=λ_ a A=>a=A/\a.2.1<=c/\a.2.2<=c
theorem rel_sliceBound {x X:Value}(h:VR FN β x X)(y:Nat)(c:BoundsCode):SemR P FN (EqLe y) β (Instr.sliceBound x y c) (Instr.sliceBound X y c):=by
 unfold Instr.sliceBound;refine SemR.bnd (rel_asIntOf h) λδ hd k K e=>?_
 cases e;obtain⟨k,i⟩:=k;simp only;split
 ·exact .pur ⟨rfl,by omega⟩
 ·exact .bnp
theorem rel_sliceBounds {isS:Bool}{len cap:Nat}{l L h H m M:Option Value}(hl:OptR FN β l L)(hh:OptR FN β h H)(hm:OptR FN β m M) :
  SemR P FN (EqBd (max len cap)) β (Instr.sliceBounds isS len cap l h m) (Instr.sliceBounds isS len cap L H M):=by
 unfold Instr.sliceBounds;cases m with
 | none=>
  cases M with
  | some _=>exact hm.elim
  | none=>
  refine SemR.bnd (RA:=EqLe cap) (.pur ⟨rfl,Nat.le_refl _⟩) λδ hd m M0 e0=>?_
  obtain⟨rfl,hmc⟩:=e0;cases h with
  | none=>
   cases H with
   | some _=>exact hh.elim
   | none=>
   refine SemR.bnd (RA:=EqLe len) (.pur ⟨rfl,Nat.le_refl _⟩) λε he h H0 eh=>?_
   obtain⟨rfl,hhl⟩:=eh;cases l with
   | none=>cases L with
    | none=>exact SemR.same_bind (.pur rfl) λ_ _ _=>.pur ⟨rfl,by simp only;omega,by simp only;omega⟩
    | some _=>exact hl.elim
   | some l=>cases L with
    | none=>exact hl.elim
    | some L=>exact SemR.bnd (rel_sliceBound (VR.mono he (VR.mono hd hl)) _ _) λ_ _ a A e=>by obtain⟨rfl,_⟩:=e;exact .pur ⟨rfl,by simp only;omega,by simp only;omega⟩
  | some h=>
   cases H with
   | none=>exact hh.elim
   | some H=>
   refine SemR.bnd (rel_sliceBound (VR.mono hd hh) _ _) λε he a A e=>?_
   obtain⟨rfl,hal⟩:=e;cases l with
   | none=>cases L with
    | none=>exact SemR.same_bind (.pur rfl) λ_ _ _=>.pur ⟨rfl,by simp only;omega,by simp only;omega⟩
    | some _=>exact hl.elim
   | some l=>cases L with
    | none=>exact hl.elim
    | some L=>exact SemR.bnd (rel_sliceBound (VR.mono he (VR.mono hd hl)) _ _) λ_ _ a A e=>by obtain⟨rfl,_⟩:=e;exact .pur ⟨rfl,by simp only;omega,by simp only;omega⟩
 | some m=>
  cases M with
  | none=>exact hm.elim
  | some M=>
  refine SemR.bnd (rel_sliceBound hm _ _) λδ hd b B e=>?_
  obtain⟨rfl,hmc⟩:=e;cases h with
  | none=>
   cases H with
   | some _=>exact hh.elim
   | none=>exact .dead (Dead.bind (dead_stuck _) _)
  | some h=>
   cases H with
   | none=>exact hh.elim
   | some H=>
   refine SemR.bnd (rel_sliceBound (VR.mono hd hh) _ _) λε he a A e=>?_
   obtain⟨rfl,hal⟩:=e;cases l with
   | none=>cases L with
    | none=>exact SemR.same_bind (.pur rfl) λ_ _ _=>.pur ⟨rfl,by simp only;omega,by simp only;omega⟩
    | some _=>exact hl.elim
   | some l=>cases L with
    | none=>exact hl.elim
    | some L=>exact SemR.bnd (rel_sliceBound (VR.mono he (VR.mono hd hl)) _ _) λ_ _ a A e=>by obtain⟨rfl,_⟩:=e;exact .pur ⟨rfl,by simp only;omega,by simp only;omega⟩
theorem rel_slice {t:TypeId}{x X:Value}{l L h H m M:Option Value}(hx:VR FN β x X)(hl:OptR FN β l L)(hh:OptR FN β h H)(hm:OptR FN β m M)(hok:slcT P t=true) :
  SemR P FN (VR FN) β (Instr.sliceAt t x l h m) (Instr.sliceAt t X L H M):=by
 unfold slcT at hok;unfold Instr.sliceAt;refine SemR.bnd (rel_und t) λδ hd d D e=>?_
 obtain⟨rfl,hu⟩:=e;rw[hu] at hok;cases d with
 | array n e=>
  refine SemR.bnd (rel_sureAddr (hx.mono hd)) λε he a A ha=>?_
  have ld:=(hl.mono hd).mono he;have hd':=(hh.mono hd).mono he;have md:=(hm.mono hd).mono he;refine SemR.bnd (rel_sliceBounds ld hd' md) λζ hz b B e=>?_
  obtain⟨rfl,_⟩:=e;obtain⟨lo,hi,mx⟩:=b;refine SemR.same_bind (rel_sizeOf _) λη hη n=>?_
  refine .pur (.slice _ _ ?_);split
  ·exact(ha.mono hz).mono hη
  ·exact((ha.mono hz).mono hη).add _
 | slice e=>
  show SemR P FN (VR FN) δ (Instr.slice t x l h m) (Instr.slice t X L H M);unfold Instr.slice;refine SemR.bnd (rel_und t) λε he d D e'=>?_
  obtain⟨rfl,hu'⟩:=e';rw[hu] at hu';cases hu';have hx':=(hx.mono hd).mono he;have ld:=(hl.mono hd).mono he;have hd':=(hh.mono hd).mono he;have md:=(hm.mono hd).mono he;cases hx' with
  | slice0 n c=>
   refine SemR.bnd (rel_sliceBounds ld hd' md) λζ hz b B e=>?_
   obtain⟨rfl,hmx⟩:=e;obtain⟨lo,hi,mx⟩:=b;refine SemR.same_bind (rel_sizeOf _) λη hη n=>?_
   simp only[Option.map_none,ite_self];exact .pur (.slice0 _ _)
  | slice n c ha=>
   refine SemR.bnd (rel_sliceBounds ld hd' md) λζ hz b B e=>?_
   obtain⟨rfl,hmx⟩:=e;obtain⟨lo,hi,mx⟩:=b;refine SemR.same_bind (rel_sizeOf _) λη hη n=>?_
   refine .pur ?_;simp only[Option.map_some];split
   ·exact .slice _ _ ((ha.mono hz).mono hη)
   ·exact .slice _ _ (((ha.mono hz).mono hη).add _)
  | sliceE a A=>
   refine SemR.bnd (rel_sliceBounds ld hd' md) λζ hz b B e=>?_
   obtain⟨rfl,hmx⟩:=e;obtain⟨lo,hi,mx⟩:=b;refine SemR.same_bind (rel_sizeOf _) λη hη n=>?_
   refine .pur ?_;obtain⟨hh1,hm1⟩:=hmx;have hh1:hi<=max 0 0:=hh1;have hm1:mx<=max 0 0:=hm1;obtain rfl:hi=0:=by omega
   obtain rfl:mx=0:=by omega
   simp only[Option.map_some,Nat.zero_sub];split<;>exact .sliceE _ _
  | _=>exact .stuck_
 | _=>cases hok
end
end Go.Fw
end
