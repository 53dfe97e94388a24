/-
  Part 3 of the common ground of this seat: what single parts show stands ahead of each.
  No condition.
-/
import Derived.Test.YtkmgcggoemlaaaaGreatDoorJ02
set_option linter.unusedSimpArgs false
set_option linter.unusedVariables false
set_option linter.constructorNameAsVariable false
section
/- Related operations, part 7: makeSlice, makeFunc, pick, nilCheck, build, buildSlice. -/
namespace Go.Fw
open Go
variable {P:Program} {FN:FuncId->Bool} {β:Ren P.globals.size}
theorem rel_pick {c C a A b B:Value}(hc:VR FN β c C)(ha:VR FN β a A)(hb:VR FN β b B) :
  SemR P FN (VR FN) β (do pure (if ←asBool c then a else b)) (do pure (if ←asBool C then A else B)):=by
 refine SemR.bnd (rel_asBool hc) λδ hd x X hx=>?_
 obtain rfl:x=X:=hx;cases x
 ·exact .pur (hb.mono hd)
 ·exact .pur (ha.mono hd)
theorem rel_makeFunc {f:FuncId}{xs XS ys YS:Array Value}(hf:FN f=true)(h1:ArrR FN β xs XS)(h2:ArrR FN β ys YS) :
  SemR P FN (VR FN) β (Instr.makeFunc (.func f) xs ys) (Instr.makeFunc (.func f) XS YS):=.pur (.func hf h1.1 h1.2 h2.1 h2.2)
def zeroNe (P:Program)(t:TypeId):Bool:=match P.info? t with
 | some i=>match i.zero with
  | some v=>v.cells.size != 0
  | none=>true
 | none=>true
theorem rel_zeroValueN (t:TypeId)(h:zeroOk P t=true)(h':zeroNe P t=true):SemR P FN (λδ z Z=>VR FN δ z Z/\z.cells.size≠0) β (zeroValue t) (zeroValue t):=by
 unfold zeroOk at h;unfold zeroNe at h';refine .program ?_;show SemR P FN _ β (Sem.bind (Sem.bind (.pure P) _) _) (Sem.bind (Sem.bind (.pure P) _) _);simp only[Sem.bind];cases hi:P.info? t with
 | none=>exact .dead (Dead.bind (dead_stuck _) _)
 | some i=>
  rw[hi] at h h';show SemR P FN _ β (Sem.bind (.pure i) _) (Sem.bind (.pure i) _);simp only[Sem.bind];cases hz:i.zero with
  | none=>exact .unsup trivial
  | some v=>simp only[hz] at h h';exact .pur ⟨VR.of_plain 5 v h,by simpa using h'⟩
def makeOk (P:Program)(t:TypeId):Bool:=match P.underlying t with
 | some (.slice e)=>zeroOk P e && zeroNe P e
 | _=>true
theorem rel_made {elem:TypeId}(hz:zeroOk P elem=true)(hz':zeroNe P elem=true)(l c n:Nat) :
  SemR P FN (VR FN) β
   (if n=0 then (do let zero ←(pure #[]:Sem (Array Value));let a ←newRow elem (Array.map (λx=>zero[x%zero.size]!) (Array.range n));pure (Value.slice (some a) l c))
    else (do let z ←zeroValue elem;let zero ←(pure z.cells:Sem (Array Value));let a ←newRow elem (Array.map (λx=>zero[x%zero.size]!) (Array.range n));pure (Value.slice (some a) l c)))
   (if n=0 then (do let zero ←(pure #[]:Sem (Array Value));let a ←newRow elem (Array.map (λx=>zero[x%zero.size]!) (Array.range n));pure (Value.slice (some a) l c))
    else (do let z ←zeroValue elem;let zero ←(pure z.cells:Sem (Array Value));let a ←newRow elem (Array.map (λx=>zero[x%zero.size]!) (Array.range n));pure (Value.slice (some a) l c))):=by
 have tail:∀(δ:Ren P.globals.size) (z Z:Array Value),ArrR FN δ z Z->(z.size≠0\/n=0)->SemR P FN (VR FN) δ (do let a ←newRow elem (Array.map (λx=>z[x%z.size]!) (Array.range n));pure (Value.slice (some a) l c))
   (do let a ←newRow elem (Array.map (λx=>Z[x%Z.size]!) (Array.range n));pure (Value.slice (some a) l c)):=λδ z Z h hne=>by
  refine SemR.bnd (rel_newRow ?_) λγ hg a A ha=>.pur (.slice l c ha)
  exact ArrR.ofFn_mod h n hne
 by_cases h:n=0
 ·rw[if_pos h];exact tail β #[] #[] ArrR.nil (.inr h)
 ·rw[if_neg h];exact SemR.bnd (rel_zeroValueN elem hz hz') λδ hd z Z hzz=>tail δ _ _ hzz.1.cells (.inl hzz.2)
theorem rel_makeSlice {t:TypeId}{x X y Y:Value}(hok:makeOk P t=true)(hx:VR FN β x X)(hy:VR FN β y Y) :
  SemR P FN (VR FN) β (Instr.makeSlice t x y) (Instr.makeSlice t X Y):=by
 unfold Instr.makeSlice;refine rel_und' λδ hd d hu=>?_
 cases d with
 | slice elem=>
  refine SemR.bnd (rel_asInt (hx.mono hd)) λδ1 hd1 l L hl=>?_
  obtain rfl:l=L:=hl;refine SemR.bnd (rel_asInt (hy.mono (Ren.le_trans hd hd1))) λδ2 hd2 c C hc=>?_
  obtain rfl:c=C:=hc;refine SemR.bnd (rel_typeInfo elem) λδ3 hd3 i I hi=>?_
  obtain rfl:i=I:=hi;have hz:zeroOk P elem=true/\zeroNe P elem=true:=by
   unfold makeOk at hok;have hu':P.underlying t=some (.slice elem):=hu;rw[hu'] at hok;simpa using hok
  dsimp only;by_cases h1:(decide (IntKind.i64.wrap c<0) || decide (↑i.bytes*IntKind.i64.wrap c>2 ^ 48) || decide (IntKind.i64.wrap l<0) || decide (IntKind.i64.wrap l>IntKind.i64.wrap c))=true
  ·rw[if_pos h1];split
   ·exact .deadB (dead_runtimePanic _)
   ·split
    ·exact .deadB (dead_runtimePanic _)
    ·refine .dead (.choose λx=>?_);exact(dead_runtimePanic (α:=Unit) (.error (if (x == 1)=true then "makeslice: cap out of range" else "makeslice: len out of range"))).bind _
  ·rw[if_neg h1];refine SemR.bnd (rel_askRoom _) λδ4 hd4 u U hu'=>?_
   refine SemR.bnd (rel_sizeOf elem) λδ5 hd5 s S hs=>?_
   obtain rfl:s=S:=hs;exact rel_made hz.1 hz.2 _ _ _
 | _=>exact SemR.stuck_
def PartsR (FN:FuncId->Bool)(β:Ren P.globals.size):List (Nat × Value)->List (Nat × Value)->Prop
 | [],[]=>True
 | x :: xs,X :: XS=>(x.1=X.1/\VR FN β x.2 X.2)/\PartsR FN β xs XS
 | _,_=>False
theorem PartsR.mono {γ:Ren P.globals.size}(h:β.le γ):∀{l L:List (Nat × Value)},PartsR FN β l L->PartsR FN γ l L
 | [],[],_=>trivial
 | _ :: _,_ :: _,⟨a,b⟩=>⟨⟨a.1,a.2.mono h⟩,PartsR.mono h b⟩
 | [],_ :: _,x=>x.elim
 | _ :: _,[],x=>x.elim
theorem rel_setFold {cs CS:Array Value}(h:ArrR FN β cs CS)(off:Nat):∀(l L:List Value) (j:Nat),LstR FN β l L->
  ArrR FN β ((l.zipIdx j).foldl (λcs (c,j)=>cs.setIfInBounds (off+j) c) cs) ((L.zipIdx j).foldl (λcs (c,j)=>cs.setIfInBounds (off+j) c) CS):=by
 intro l;induction l generalizing cs CS with
 | nil=>
  intro L j hl;cases L with
  | nil=>exact h
  | cons=>exact hl.elim
 | cons x l ih=>
  intro L j hl;cases L with
  | nil=>exact hl.elim
  | cons X L=>exact ih (h.set hl.1 _) L (j+1) hl.2
theorem fill_cons (place:Nat->Option (Nat × Nat))(cs:Array Value)(i:Nat)(v:Value)(l:List (Nat × Value)) :
  Instr.fill place cs ((i,v) :: l)=match place i with
   | none=>none
   | some (off,size)=>if v.cells.size≠size || off+v.cells.size>cs.size then none else Instr.fill place (v.cells.zipIdx.foldl (λcs (c,j)=>cs.setIfInBounds (off+j) c) cs) l:=rfl
theorem zipIdx_foldl_list (off:Nat)(x cs:Array Value) :
  x.zipIdx.foldl (λcs (c,j)=>cs.setIfInBounds (off+j) c) cs=(x.toList.zipIdx).foldl (λcs (c,j)=>cs.setIfInBounds (off+j) c) cs:=by
 rw[←Array.foldl_toList];simp
theorem rel_fill (place:Nat->Option (Nat × Nat)):∀(l L:List (Nat × Value)) (cs CS:Array Value),PartsR FN β l L->ArrR FN β cs CS->
  (Instr.fill place cs l=none/\Instr.fill place CS L=none)\/∃r R,Instr.fill place cs l=some r/\Instr.fill place CS L=some R/\ArrR FN β r R:=by
 intro l;induction l with
 | nil=>
  intro L cs CS hp hc;cases L with
  | nil=>exact .inr ⟨cs,CS,by rw[Instr.fill],by rw[Instr.fill],hc⟩
  | cons=>exact hp.elim
 | cons x l ih=>
  intro L cs CS hp hc;cases L with
  | nil=>exact hp.elim
  | cons X L=>
   obtain⟨i,v⟩:=x;obtain⟨I,V⟩:=X;obtain⟨⟨hi,hv⟩,hp'⟩:=hp;simp only at hi hv;subst hi;rw[fill_cons,fill_cons];cases place i with
   | none=>exact .inl ⟨rfl,rfl⟩
   | some os=>
    obtain⟨off,size⟩:=os;have e1:v.cells.size=V.cells.size:=hv.cells.1;simp only[e1,hc.1];split
    ·exact .inl ⟨rfl,rfl⟩
    ·refine ih L _ _ hp' ?_;rw[zipIdx_foldl_list,zipIdx_foldl_list];exact rel_setFold hc off _ _ 0 hv.cells.list
theorem rel_buildSlice {t:TypeId}{len:Nat}{l L:Array (Nat × Value)}(hok:makeOk P t=true)(hp:PartsR FN β l.toList L.toList) :
  SemR P FN (VR FN) β (Instr.buildSlice t len l) (Instr.buildSlice t len L):=by
 unfold Instr.buildSlice;refine rel_und' λδ hd d hu=>?_
 cases d with
 | slice elem=>
  have hz:zeroOk P elem=true/\zeroNe P elem=true:=by
   unfold makeOk at hok;have hu':P.underlying t=some (.slice elem):=hu;rw[hu'] at hok;simpa using hok
  refine SemR.bnd (rel_sizeOf elem) λδ1 hd1 s S hs=>?_
  obtain rfl:s=S:=hs;have tail:∀(γ:Ren P.globals.size) (_:β.le γ) (z Z:Array Value),ArrR FN γ z Z->(z.size≠0\/len*s=0)->
    (Instr.fill (λi=>some (i*s,s)) ((Array.range (len*s)).map (z[· % z.size]!)) l.toList=none/\Instr.fill (λi=>some (i*s,s)) ((Array.range (len*s)).map (Z[· % Z.size]!)) L.toList=none)\/
    ∃r R,Instr.fill (λi=>some (i*s,s)) ((Array.range (len*s)).map (z[· % z.size]!)) l.toList=some r/\Instr.fill (λi=>some (i*s,s)) ((Array.range (len*s)).map (Z[· % Z.size]!)) L.toList=some R/\ArrR FN γ r R:=
   λγ hγ z Z h hne=>rel_fill (λi=>some (i*s,s)) l.toList L.toList _ _ (hp.mono hγ) (ArrR.ofFn_mod h (len*s) hne)
  dsimp only;have hle:β.le δ1:=Ren.le_trans hd hd1;by_cases h1:len*s>2 ^ 24
  ·rw[if_pos h1];exact .deadB (dead_unsup trivial)
  ·rw[if_neg h1,if_neg h1];by_cases h0:len*s=0
   ·rw[if_pos h0,if_pos h0];simp only[pure_bind];rcases tail δ1 hle #[] #[] ArrR.nil (.inr h0) with⟨e1,e2⟩|⟨r,R,e1,e2,hr⟩
    ·rw[e1,e2];exact SemR.stuck_
    ·rw[e1,e2];exact SemR.bnd (rel_newRow hr) λγ hg a A ha=>.pur (VR.slice len len ha)
   ·rw[if_neg h0,if_neg h0];refine SemR.bnd (rel_zeroValueN elem hz.1 hz.2) λδ2 hd2 z Z hzz=>?_
    simp only[pure_bind];rcases tail δ2 (Ren.le_trans hle hd2) _ _ hzz.1.cells (.inl hzz.2) with⟨e1,e2⟩|⟨r,R,e1,e2,hr⟩
    ·rw[e1,e2];exact SemR.stuck_
    ·rw[e1,e2];exact SemR.bnd (rel_newRow hr) λγ hg a A ha=>.pur (VR.slice len len ha)
 | _=>exact SemR.stuck_
theorem rel_mapM {f:Field->Sem (Nat × Nat)}(hf:∀{β:Ren P.globals.size} x,SemR P FN Eq2 β (f x) (f x)):∀(l:List Field) {β:Ren P.globals.size},SemR P FN Eq2 β (l.mapM f) (l.mapM f)
 | [],β=>by rw[List.mapM_nil];exact .pur rfl
 | x :: l,β=>by
  rw[List.mapM_cons];exact SemR.same_bind (hf x) λδ hd a=>SemR.same_bind (rel_mapM hf l) λδ' hd' b=>.pur rfl
theorem rel_build {t:TypeId}{l L:Array (Nat × Value)}(hok:zeroOk P t=true)(hp:PartsR FN β l.toList L.toList) :
  SemR P FN (VR FN) β (Instr.build t l) (Instr.build t L):=by
 unfold Instr.build;refine SemR.bnd (rel_zeroValue t hok) λδ hd z Z hz=>?_
 refine rel_und' λδ1 hd1 d hu=>?_
 have hle:=Ren.le_trans hd hd1;have hzc:ArrR FN δ1 z.cells Z.cells:=(hz.mono hd1).cells;cases d with
 | struct fields=>
  have hm:SemR P FN Eq2 δ1 (fields.mapM λf=>do pure (f.offset,←sizeOf f.type)) (fields.mapM λf=>do pure (f.offset,←sizeOf f.type)):=by
   rw[Array.mapM_eq_mapM_toList];refine SemR.same_bind (rel_mapM (λx=>SemR.same_bind (rel_sizeOf x.type) λ_ _ a=>.pur rfl) _) λ_ _ a=>.pur rfl
  refine SemR.bnd hm λδ2 hd2 pl PL hpl=>?_
  obtain rfl:pl=PL:=hpl;rcases rel_fill (pl[·]?) l.toList L.toList _ _ (hp.mono (Ren.le_trans hle hd2)) (hzc.mono hd2) with⟨e1,e2⟩|⟨r,R,e1,e2,hr⟩
  ·rw[e1,e2];exact SemR.stuck_
  ·rw[e1,e2];exact .pur (VR.agg' hr)
 | array n elem=>
  refine SemR.bnd (rel_sizeOf elem) λδ2 hd2 s S hs=>?_
  obtain rfl:s=S:=hs;rcases rel_fill (λi=>some (i*s,s)) l.toList L.toList _ _ (hp.mono (Ren.le_trans hle hd2)) (hzc.mono hd2) with⟨e1,e2⟩ | ⟨r,R,e1,e2,hr⟩
  ·rw[e1,e2];exact SemR.stuck_
  ·rw[e1,e2];exact .pur (VR.agg' hr)
 | _=>exact SemR.stuck_
/- Related operations, part 8: calls, nilCheck, the builtin functions. -/
def bodyOk (P:Program)(f:FuncId):Bool:=match P.funcs[f]? with
 | none=>false
 | some fn=>fn.name != "runtime.NumGoroutine" && fn.body.isSome
inductive NextR (FN:FuncId->Bool) (β:Ren P.globals.size):Next->Next->Prop
 | value {v V:Value} (h:VR FN β v V):NextR FN β (.value v) (.value V)
 | skip:NextR FN β .skip .skip
 | enter {f:FuncId} {xs XS:Array Value} (hf:FN f=true) (hb:bodyOk P f=true) (h:ArrR FN β xs XS):NextR FN β (.enter f xs) (.enter f XS)
theorem rel_v {s S:Sem Value}(h:SemR P FN (VR FN) β s S):SemR P FN (NextR FN) β (do pure (.value (←s))) (do pure (.value (←S))):=
 SemR.bnd h λ_ _ _ _ hv=>.pur (.value hv)
theorem rel_u {s S:Sem Unit}(h:SemR P FN Eq2 β s S):SemR P FN (NextR FN) β (do s;pure .skip) (do S;pure .skip):=
 SemR.bnd h λ_ _ _ _ _=>.pur .skip
def CallOk (P:Program)(FN:FuncId->Bool)(f:FuncId):Prop:=
 ∀(β:Ren P.globals.size) (xs XS:Array Value),ArrR FN β xs XS->SemR P FN (NextR FN) β (callFunc f xs) (callFunc f XS)
theorem callOk_body {f:FuncId}(h:bodyOk P f=true)(hf:FN f=true):CallOk P FN f:=by
 intro β xs XS hx;unfold callFunc;refine .program ?_;show SemR P FN (NextR FN) β (Sem.bind (.pure P) _) (Sem.bind (.pure P) _);simp only[Sem.bind];have hb:=h;unfold bodyOk at h;cases hfn:P.funcs[f]? with
 | none=>rw[hfn] at h;cases h
 | some fn=>
  rw[hfn] at h;simp only[Bool.and_eq_true,bne_iff_ne,ne_eq] at h;have h1:(fn.name == "runtime.NumGoroutine")=false:=by simpa using h.1
  have h2:fn.body.isNone=false:=by
   cases hb:fn.body with
   | none=>rw[hb] at h;simp at h
   | some c=>rfl
  simp only[h1,h2,Bool.false_eq_true,if_false];exact .pur (.enter hf hb hx)
theorem rel_callValue {f F:Value}{xs XS:Array Value}(hall:∀g,FN g=true->CallOk P FN g)(hf:VR FN β f F)(hx:ArrR FN β xs XS) :
  SemR P FN (NextR FN) β (do let d ←Deferred.ofValue f xs;invoke d.target d.args) (do let d ←Deferred.ofValue F XS;invoke d.target d.args):=by
 cases hf with
 | func hg h1 h2 h3 h4=>
  rename_i g fs FS ys YS;show SemR P FN (NextR FN) β (Sem.bind (.pure _) _) (Sem.bind (.pure _) _);simp only[Sem.bind];exact hall g hg β _ _ ((ArrR.app ⟨h1,h2⟩ hx).app ⟨h3,h4⟩)
 | nilFunc=>
  show SemR P FN (NextR FN) β (Sem.bind (.pure _) _) _;simp only[Sem.bind];unfold invoke;exact .dead (dead_runtimePanic _)
 | junkF f ys zs=>
  show SemR P FN (NextR FN) β (Sem.bind (.pure _) _) _;simp only[Sem.bind];have e:((#[Value.nilIface]:Array Value)++xs)[0]? = some .nilIface:=by rw[Array.getElem?_append_left (by show 0<1;omega)];rfl
  unfold invoke;simp only[e];unfold callMethod;exact .dead (dead_runtimePanic _)
 | @bound g ys YS h1 h2=>
  show SemR P FN (NextR FN) β (Sem.bind (.pure _) _) _;simp only[Sem.bind];have e:((#[Value.nilIface,.int .i64 (g:Int)]:Array Value)++xs)[0]? = some .nilIface:=by rw[Array.getElem?_append_left (by show 0<2;omega)];rfl
  unfold invoke;simp only[e];unfold callMethod;exact .dead (dead_runtimePanic _)
 | yld l=>
  show SemR P FN (NextR FN) β (Sem.bind (.pure _) _) _;simp only[Sem.bind];have e:((#[Value.nilIface,.nilIface,.int .i64 (l:Int)]:Array Value)++xs)[0]? = some .nilIface:=by rw[Array.getElem?_append_left (by show 0<3;omega)];rfl
  unfold invoke;simp only[e];unfold callMethod;exact .dead (dead_runtimePanic _)
 | _=>exact .deadB (dead_stuck _)
end Go.Fw
end
section
/- Related operations: type assertions, methods, package reflectlite's entries. -/
namespace Go.Fw
open Go Go.Extern
variable {P:Program} {FN:FuncId->Bool} {β:Ren P.globals.size}
theorem dead_panicString {α:Type}(m:String):Dead (panicString m:Sem α):=by
 refine .program λp=>?_
 exact dead_goPanic _
theorem dead_panicOp (v:Value):Dead (Instr.panic v):=by
 cases v with
 | iface t v=>exact dead_goPanic _
 | nilIface=>
  refine .sys λr=>?_
  cases r with
  | strings env=>
   refine .program λp=>?_
   show Dead (ite _ _ _);split
   ·exact dead_goPanic _
   ·exact dead_runtimePanic _
  | _=>exact dead_stuck _
 | _=>exact dead_stuck _
theorem rel_noPack (what:String)(t:TypeId):SemR P FN Eq2 β (Rtype.noPack what t) (Rtype.noPack what t):=by
 unfold Rtype.noPack;refine .program ?_;show SemR P FN Eq2 β (Sem.bind (.pure P) _) (Sem.bind (.pure P) _);simp only[Sem.bind];split
 ·exact .unsup trivial
 ·exact .pur rfl
theorem rel_noPackMethods (what:String)(t:TypeId):SemR P FN Eq2 β (Rtype.noPackMethods what t) (Rtype.noPackMethods what t):=by
 unfold Rtype.noPackMethods;refine .program ?_;show SemR P FN Eq2 β (Sem.bind (.pure P) _) (Sem.bind (.pure P) _);simp only[Sem.bind];refine .program ?_;show SemR P FN Eq2 β (Sem.bind (.pure P) _) (Sem.bind (.pure P) _);simp only[Sem.bind];split
 ·exact .unsup trivial
 ·exact .pur rfl
theorem rel_noPackNamed (what:String)(t:TypeId):SemR P FN Eq2 β (Rtype.noPackNamed what t) (Rtype.noPackNamed what t):=by
 unfold Rtype.noPackNamed;refine .program ?_;show SemR P FN Eq2 β (Sem.bind (.pure P) _) (Sem.bind (.pure P) _);simp only[Sem.bind];refine .program ?_;show SemR P FN Eq2 β (Sem.bind (.pure P) _) (Sem.bind (.pure P) _);simp only[Sem.bind];split
 ·exact .unsup trivial
 ·exact .pur rfl
theorem rel_typeStr (t:TypeId):SemR P FN Eq2 β (typeStr t) (typeStr t):=by
 unfold typeStr;refine SemR.same_bind (rel_typeInfo t) λδ hd i=>?_
 dsimp only;split
 ·exact .unsup trivial
 ·exact .pur rfl
theorem rel_spelt (t:TypeId):SemR P FN Eq2 β (Rtype.spelt t) (Rtype.spelt t):=by
 unfold Rtype.spelt;exact SemR.same_bind (rel_noPackNamed _ t) λδ hd _=>rel_typeStr t
theorem rel_under (t:TypeId):SemR P FN Eq2 β (Rtype.under t) (Rtype.under t):=by
 unfold Rtype.under;refine SemR.same_bind (rel_typeInfo t) λδ hd i=>?_
 cases i.desc with
 | named a u=>exact SemR.same_bind (rel_typeInfo u) λε he j=>.pur rfl
 | _=>exact .pur rfl
theorem rel_kind (t:TypeId):SemR P FN Eq2 β (Rtype.kind t) (Rtype.kind t):=by
 unfold Rtype.kind;refine SemR.same_bind (rel_under t) λδ hd i=>?_
 obtain⟨u,i⟩:=i;dsimp only;cases i.desc with
 | int k=>cases k<;>first | exact .pur rfl | (dsimp only;exact .pur rfl)
 | float k=>cases k<;>exact .pur rfl
 | complex k=>cases k<;>exact .pur rfl
 | invalid=>exact .stuck_
 | tuple _=>exact .stuck_
 | named _ _=>exact .stuck_
 | _=>exact .pur rfl
theorem rel_elem? (t:TypeId):SemR P FN Eq2 β (Rtype.elem? t) (Rtype.elem? t):=by
 unfold Rtype.elem?;refine SemR.same_bind (rel_under t) λδ hd i=>?_
 cases i.2.desc<;>exact .pur rfl
theorem rel_hasName (t:TypeId):SemR P FN Eq2 β (Rtype.hasName t) (Rtype.hasName t):=by
 unfold Rtype.hasName;refine SemR.same_bind (rel_typeInfo t) λδ hd i=>?_
 cases i.desc<;>exact .pur rfl
theorem rel_implements (t v:TypeId):SemR P FN Eq2 β (Rtype.implements t v) (Rtype.implements t v):=by
 unfold Rtype.implements;refine SemR.same_bind (rel_noPackMethods _ v) λ_ _ _=>SemR.same_bind (rel_noPackMethods _ t) λ_ _ _=>SemR.same_bind (rel_under t) λ_ _ i=>SemR.same_bind (rel_under v) λ_ _ j=>?_
 cases i.2.desc with
 | interface want=>
  cases j.2.desc with
  | interface got=>exact .pur rfl
  | _=>exact SemR.same_bind (rel_typeInfo v) λ_ _ _=>.pur rfl
 | _=>exact .pur rfl
theorem rel_directly (t v:TypeId):SemR P FN Eq2 β (Rtype.directlyAssignable t v) (Rtype.directlyAssignable t v):=by
 unfold Rtype.directlyAssignable;by_cases h:(t == v)=true
 ·simp only[h,if_true];exact .pur rfl
 ·simp only[h,Bool.false_eq_true,if_false];refine SemR.same_bind (rel_hasName t) λ_ _ b1=>SemR.same_bind (rel_hasName v) λ_ _ b2=>?_
  by_cases hb:(b1 && b2)=true
  ·simp only[hb,if_true];exact .pur rfl
  ·simp only[hb,if_false];refine SemR.same_bind (rel_under t) λ_ _ i=>SemR.same_bind (rel_under v) λ_ _ j=>?_
   split<;>exact .pur rfl
theorem rel_handle (t:TypeId):SemR P FN (VR FN) β (Rtype.handle t) (Rtype.handle t):=by
 refine .program ?_;exact .pur (.ptr ⟨β.sp _ (.inr rfl),rfl,rfl⟩)
theorem rel_ofHandle {h H:Value}(x:VR FN β h H):SemR P FN Eq2 β (Rtype.ofHandle h) (Rtype.ofHandle H):=by
 unfold Rtype.ofHandle;refine .program ?_;show SemR P FN Eq2 β (Sem.bind (.pure P) _) (Sem.bind (.pure P) _);simp only[Sem.bind];have e:handleType P h=handleType P H\/handleType P h=none:=by
  cases x with
  | @ptr a A ha=>
   have hs:=β.sp P.globals.size (.inr rfl);have hiff:a.block=P.globals.size↔A.block=P.globals.size:=⟨λe=>by have:=ha.1;rw[e,hs] at this;exact(Option.some.inj this).symm,λe=>β.inj _ _ _ ha.1 (by rw[e];exact hs)⟩;unfold handleType;by_cases hb:a.block=P.globals.size
   ·left;simp[hb,hiff.1 hb,ha.2.1]
   ·have hB:¬A.block=P.globals.size:=λe=>hb (hiff.2 e)
    left;simp[hb,hB]
  | junk h=>exact .inr rfl
  | _=>exact .inl rfl
 rcases e with e|e
 case inr=>rw[e];exact .stuck_
 rw[e];cases handleType P H with
 | none=>exact .stuck_
 | some t=>exact .pur rfl
theorem ArrR.two {a A b B:Value}(h1:VR FN β a A)(h2:VR FN β b B):ArrR FN β #[a,b] #[A,B]:=by
 have:=(ArrR.one h1).push h2;simpa using this
theorem ArrR.three {a A b B c C:Value}(h1:VR FN β a A)(h2:VR FN β b B)(h3:VR FN β c C):ArrR FN β #[a,b,c] #[A,B,C]:=by
 have:=(ArrR.two h1 h2).push h3;simpa using this
theorem rel_cutType (n:String):SemR P FN Eq2 β (cutType n) (cutType n):=by
 refine .program ?_;show SemR P FN Eq2 β (Sem.bind (.pure P) _) (Sem.bind (.pure P) _);simp only[Sem.bind];cases P.cutTypes.find? (·.1 == n) with
 | none=>exact .stuck_
 | some x=>exact .pur rfl
theorem rel_toType (t:TypeId):SemR P FN (VR FN) β (ReflectliteType.toType t) (ReflectliteType.toType t):=by
 unfold ReflectliteType.toType;refine SemR.same_bind (rel_cutType _) λδ hd u=>?_
 exact SemR.bnd (rel_handle t) λε he h H hh=>.pur (.iface _ (.agg' (ArrR.one hh)))
theorem rel_mkV {t:TypeId}{a A:Addr}(ha:AR β a A)(fl:Nat):SemR P FN (VR FN) β (ReflectliteValue.mk t a fl) (ReflectliteValue.mk t A fl):=by
 unfold ReflectliteValue.mk;refine SemR.bnd (rel_handle t) λδ hd h H hh=>?_
 exact SemR.same_bind (rel_kind t) λε he k=>.pur (.agg' (ArrR.three (hh.mono he) (.ptr ((ha.mono hd).mono he)) (.int _ _)))
theorem zeroV_rel:VR FN β ReflectliteValue.zeroV ReflectliteValue.zeroV:=.agg' (ArrR.three .ptr0 .ptr0 (.int _ _))
theorem rel_unpack {v V:Value}(h:VR FN β v V):SemR P FN (VR FN) β (ReflectliteValue.unpack v) (ReflectliteValue.unpack V):=by
 cases h with
 | nilIface=>exact .pur zeroV_rel
 | iface t hv=>exact SemR.bnd (rel_newVar hv) λδ hd a A ha=>rel_mkV ha 0
 | _=>exact .stuck_
theorem rel_valueError {α:Type}{RA:Ren P.globals.size->α->α->Prop}(m:String)(k:Nat):SemR P FN RA β (ReflectliteValue.valueError m k) (ReflectliteValue.valueError m k):=by
 unfold ReflectliteValue.valueError;refine SemR.same_bind (rel_cutType _) λδ hd t=>?_
 refine .dead (dead_elemOf_then _ _ λe=>?_);exact .new λr=>dead_goPanic _
theorem rel_valueErrorL {α:Type}{RA:Ren P.globals.size->α->α->Prop}(m:String)(k:Nat){S:Sem α}:SemR P FN RA β (ReflectliteValue.valueError m k) S:=by
 unfold ReflectliteValue.valueError cutType;refine .progL ?_;show SemR P FN RA β (Sem.bind (Sem.bind (.pure P) _) _) S;simp only[Sem.bind];cases P.cutTypes.find? (·.1 == "*internal/reflectlite.ValueError") with
 | none=>exact .dead (Dead.bind (dead_stuck _) _)
 | some x=>exact .dead (dead_elemOf_then _ _ λe=>.new λr=>dead_goPanic _)
def PartR:Ren P.globals.size->Option (TypeId × Addr × Nat)->Option (TypeId × Addr × Nat)->Prop:=λδ x X=>
 (x=none/\X=none)\/∃t a A n,x=some (t,a,n)/\X=some (t,A,n)/\AR δ a A
theorem rel_partsAny {v V:Value}(h:VR FN β v V):SemR P FN (PartR (P:=P)) β (ReflectliteValue.partsAny v) (ReflectliteValue.partsAny V):=by
 cases h with
 | @agg xs XS h1 h2=>
  have hx:ArrR FN β xs XS:=⟨h1,h2⟩;unfold ReflectliteValue.partsAny;obtain⟨xs⟩:=xs;obtain⟨XS⟩:=XS;match xs,XS,h1,hx with
  | [a,b,c],[A,B,C],_,hx=>
   have ra:=hx.2 0 a A rfl rfl;have rb:=hx.2 1 b B rfl rfl;have rc:=hx.2 2 c C rfl rfl;cases rc with
   | int k n=>
    have key:(k=.u64/\n=0)\/¬(k=.u64/\n=0):=Classical.em _;rcases key with⟨rfl,rfl⟩|h0
    ·exact .pur (.inl ⟨rfl,rfl⟩)
    ·cases k with
     | u64=>
      have hn:n≠0:=λe=>h0 ⟨rfl,e⟩
      cases rb with
      | @ptr a A ha'=>
       have e1:∀(h:Value) (a:Addr),ReflectliteValue.partsAny (.agg #[h,.pointer (some a),.int .u64 n])=(do pure (some (←Rtype.ofHandle h,a,n.toNat)):Sem (Option (TypeId × Addr × Nat))):=λh a=>by
        cases n with
        | ofNat m=>cases m with
         | zero=>exact absurd rfl hn
         | succ m=>rfl
        | negSucc m=>rfl
       have:=rel_ofHandle (P:=P) ra;show SemR P FN (PartR (P:=P)) β (ReflectliteValue.partsAny (.agg #[_,.pointer (some a),.int .u64 n])) (ReflectliteValue.partsAny (.agg #[_,.pointer (some A),.int .u64 n]));rw[e1,e1];exact SemR.bnd this λδ hd t T e=>by cases e;exact .pur (.inr ⟨_,_,_,_,rfl,rfl,ha'.mono hd⟩)
      | _=>cases n with
       | ofNat m=>cases m with
        | zero=>exact absurd rfl hn
        | succ m=>exact .stuck_
       | negSucc m=>exact .stuck_
     | _=>exact .stuck_
   | _=>exact .stuck_
  | [],[],_,_=>exact .stuck_
  | [_],[_],_,_=>exact .stuck_
  | [_,_],[_,_],_,_=>exact .stuck_
  | _ :: _ :: _ :: _ :: _,_ :: _ :: _ :: _ :: _,_,_=>exact .stuck_
 | _=>exact .stuck_
theorem rel_parts {v V:Value}(h:VR FN β v V):SemR P FN (PartR (P:=P)) β (ReflectliteValue.parts v) (ReflectliteValue.parts V):=by
 unfold ReflectliteValue.parts;refine SemR.bnd (rel_partsAny h) λδ hd x X hx=>?_
 rcases hx with⟨rfl,rfl⟩|⟨t,a,A,n,rfl,rfl,ha⟩
 ·exact .pur (.inl ⟨rfl,rfl⟩)
 ·exact SemR.same_bind (rel_noPack _ t) λε he _=>.pur (.inr ⟨t,a,A,n,rfl,rfl,ha.mono he⟩)
def FR (P:Program)(FN:FuncId->Bool)(f:TypeId->Addr->Nat->Nat->Sem Value):Prop:=∀(δ:Ren P.globals.size) t a A n k,AR δ a A->SemR P FN (VR FN) δ (f t a n k) (f t A n k)
theorem rel_method {z:Sem Value}{f:TypeId->Addr->Nat->Nat->Sem Value}(hz:∀δ:Ren P.globals.size,SemR P FN (VR FN) δ z z)(hf:FR P FN f){xs XS:Array Value}(h:ArrR FN β xs XS):SemR P FN (VR FN) β (ReflectliteValue.method z f xs) (ReflectliteValue.method z f XS):=by
 obtain⟨xs⟩:=xs;obtain⟨XS⟩:=XS;have hs:=h.1;match xs,XS,hs with
 | [v],[V],_=>
  show SemR P FN (VR FN) β (ReflectliteValue.parts v >>= _) (ReflectliteValue.parts V >>= _);refine SemR.bnd (rel_parts (h.2 0 v V rfl rfl)) λδ hd x X hx=>?_
  rcases hx with⟨rfl,rfl⟩|⟨t,a,A,n,rfl,rfl,ha⟩
  ·exact hz δ
  ·exact hf δ t a A n _ ha
 | [],[],_=>exact .stuck_
 | _ :: _ :: _,_ :: _ :: _,_=>exact .stuck_
theorem rel_methodAny {z:Sem Value}{f:TypeId->Addr->Nat->Nat->Sem Value}(hz:∀δ:Ren P.globals.size,SemR P FN (VR FN) δ z z)(hf:FR P FN f){xs XS:Array Value}(h:ArrR FN β xs XS):SemR P FN (VR FN) β (ReflectliteValue.methodAny z f xs) (ReflectliteValue.methodAny z f XS):=by
 obtain⟨xs⟩:=xs;obtain⟨XS⟩:=XS;have hs:=h.1;match xs,XS,hs with
 | [v],[V],_=>
  show SemR P FN (VR FN) β (ReflectliteValue.partsAny v >>= _) (ReflectliteValue.partsAny V >>= _);refine SemR.bnd (rel_partsAny (h.2 0 v V rfl rfl)) λδ hd x X hx=>?_
  rcases hx with⟨rfl,rfl⟩|⟨t,a,A,n,rfl,rfl,ha⟩
  ·exact hz δ
  ·exact hf δ t a A n _ ha
 | [],[],_=>exact .stuck_
 | _ :: _ :: _,_ :: _ :: _,_=>exact .stuck_
theorem isNil_rel:FR P FN ReflectliteValue.isNil:=by
 intro δ t a A n k ha;unfold ReflectliteValue.isNil;have tail:SemR P FN (VR FN) δ (do
   match ←loadVar t a with
   | .chan none | .nilFunc | .nilIface | .map none | .pointer none | .slice none _ _=>pure (.bool true)
   | _=>pure (.bool false)) (do
   match ←loadVar t A with
   | .chan none | .nilFunc | .nilIface | .map none | .pointer none | .slice none _ _=>pure (.bool true)
   | _=>pure (.bool false)):=by
  refine SemR.bnd (rel_loadVar ha) λε he v V hv=>?_
  cases hv with
  | chan r=>cases r<;>exact .pur (.bool _)
  | junk h=>
   have key:SemR P FN (VR FN) ε (Pure.pure (.bool false)) (Pure.pure (.bool false)):=.pur (.bool false);cases V with
   | pointer a=>cases a with
    | none=>cases h
    | some a=>exact key
   | slice a l c=>cases a with
    | none=>cases h
    | some a=>exact key
   | map a=>cases a with
    | none=>cases h
    | some a=>exact key
   | _=>first | (cases h;done) | exact key
  | _=>exact .pur (.bool _)
 split
 ·exact SemR.bnd (RA:=λ_ _ _=>False) (rel_valueError _ k) λε he _ _ h=>h.elim
 ·exact tail
theorem elem_rel:FR P FN ReflectliteValue.elem:=by
 intro δ t a A n k ha;unfold ReflectliteValue.elem;have tail:SemR P FN (VR FN) δ (do
   match k,←loadVar t a,←Rtype.elem? t with
   | 20,i,_=>ReflectliteValue.unpack i
   | 22,.pointer none,_=>pure ReflectliteValue.zeroV
   | 22,.pointer (some p),some e=>ReflectliteValue.mk e p ReflectliteValue.flagAddr
   | _,_,_=>ReflectliteValue.valueError "reflectlite.Value.Elem" k) (do
   match k,←loadVar t A,←Rtype.elem? t with
   | 20,i,_=>ReflectliteValue.unpack i
   | 22,.pointer none,_=>pure ReflectliteValue.zeroV
   | 22,.pointer (some p),some e=>ReflectliteValue.mk e p ReflectliteValue.flagAddr
   | _,_,_=>ReflectliteValue.valueError "reflectlite.Value.Elem" k):=by
  refine SemR.bnd (rel_loadVar ha) λε he v V hv=>SemR.same_bind (rel_elem? t) λη hη e=>?_
  have hv':=hv.mono hη;by_cases h20:k=20
  ·subst h20;exact rel_unpack hv'
  ·by_cases h22:k=22
   ·subst h22;cases hv' with
    | ptr0=>exact .pur zeroV_rel
    | ptr hp=>
     cases e with
     | none=>exact rel_valueError _ _
     | some e=>exact rel_mkV hp _
    | junk h=>exact rel_valueErrorL _ _
    | _=>exact rel_valueError _ _
   ·have e1:∀(v:Value) (e:Option TypeId),(match k,v,e with
     | 20,i,_=>ReflectliteValue.unpack i
     | 22,.pointer none,_=>pure ReflectliteValue.zeroV
     | 22,.pointer (some p),some e=>ReflectliteValue.mk e p ReflectliteValue.flagAddr
     | _,_,_=>ReflectliteValue.valueError "reflectlite.Value.Elem" k)=ReflectliteValue.valueError "reflectlite.Value.Elem" k:=λv e=>by
     split<;>first | exact absurd rfl h20 | exact absurd rfl h22 | rfl
    rw[e1,e1];exact rel_valueError _ _
 split
 ·exact SemR.bnd (RA:=λ_ _ _=>False) (rel_valueError _ k) λε he _ _ h=>h.elim
 ·exact tail
theorem rel_set {xs XS:Array Value}(h:ArrR FN β xs XS):SemR P FN (VR FN) β (ReflectliteValue.set xs) (ReflectliteValue.set XS):=by
 obtain⟨xs⟩:=xs;obtain⟨XS⟩:=XS;have hs:=h.1;match xs,XS,hs with
 | [v,x],[V,X],_=>
  have rv:=h.2 0 v V rfl rfl;have rx:=h.2 1 x X rfl rfl;show SemR P FN (VR FN) β (ReflectliteValue.parts v >>= _) (ReflectliteValue.parts V >>= _);refine SemR.bnd (rel_parts rv) λδ1 h1 p Q hp=>?_
  refine SemR.bnd (rel_parts (rx.mono h1)) λδ2 h2 p2 Q2 hp2=>?_
  rcases hp with⟨rfl,rfl⟩|⟨t,a,A,n,rfl,rfl,ha⟩
  ·exact .unsup trivial
  ·rcases hp2 with⟨rfl,rfl⟩ | ⟨t2,a2,A2,n2,rfl,rfl,ha2⟩
   ·exact .unsup trivial
   ·dsimp only;have ha':=ha.mono h2;have fin:∀(ε:Ren P.globals.size),δ2.le ε->∀y Y,VR FN ε y Y->SemR P FN (VR FN) ε (do storeVar t a y;pure (.tuple #[])) (do storeVar t A Y;pure (.tuple #[])):=λε he y Y hy=>
     SemR.bnd (rel_storeVar (ha'.mono he) hy) λ_ _ _ _ _=>.pur VR.undef
    split
    ·exact SemR.bnd (RA:=λ_ _ _=>False) (.unsup (by exact trivial)) λ_ _ _ _ h=>h.elim
    ·refine SemR.bnd (rel_loadVar ha2) λδ3 h3 y Y hy=>SemR.same_bind (rel_directly t t2) λδ4 h4 b=>?_
     have hy4:=hy.mono h4;cases b with
     | true=>exact fin δ4 (Ren.le_trans h3 h4) y Y hy4
     | false=>
      simp only[Bool.false_eq_true,if_false];refine SemR.same_bind (rel_implements t t2) λδ5 h5 b=>?_
      have hy5:=hy4.mono h5;cases b with
      | true=>
       simp only[if_true];refine SemR.same_bind (rel_kind t2) λδ6 h6 kk=>?_
       have hy6:=hy5.mono h6;have hle:=Ren.le_trans (Ren.le_trans (Ren.le_trans h3 h4) h5) h6;by_cases hk:(kk == 20)=true
       ·simp only[hk,if_true];cases hy6 with
        | nilIface=>exact SemR.bnd (RA:=λ_ _ _=>False) (.unsup (by exact trivial)) λ_ _ _ _ h=>h.elim
        | mapNil=>exact fin δ6 hle _ _ .mapNil
        | junkF f xs ys=>exact fin δ6 hle _ _ (.junkF f xs ys)
        | bound h1 h2=>exact fin δ6 hle _ _ (.bound h1 h2)
        | yld l=>exact fin δ6 hle _ _ (.yld l)
        | junk hj=>
         have hfin:=fin δ6 hle _ _ (.junk hj);generalize Y=Y at *;cases Y with
         | nilIface=>cases hj
         | _=>exact hfin
        | _=>exact fin δ6 hle _ _ (by first | exact .bool _ | exact .int _ _ | exact .string _ | exact .ptr0 | exact .ptr (by assumption) | exact .slice0 _ _ | exact .sliceE _ _ | exact .slice _ _ (by assumption) | exact .chan _ | exact .nilFunc | exact .iface _ (by assumption) | exact .func (by assumption) (by assumption) (by assumption) (by assumption) (by assumption) | exact .agg (by assumption) (by assumption) | exact .tuple (by assumption) (by assumption))
       ·simp only[hk,if_false];exact fin δ6 hle _ _ (.iface t2 hy6)
      | false=>
       simp only[Bool.false_eq_true,if_false];refine SemR.same_bind (rel_spelt t2) λ_ _ _=>SemR.same_bind (rel_spelt t) λ_ _ _=>?_
       exact SemR.bnd (RA:=λ_ _ _=>False) (.dead (dead_panicString _)) λ_ _ _ _ h=>h.elim
 | [],[],_=>exact .stuck_
 | [_],[_],_=>exact .stuck_
 | _ :: _ :: _ :: _,_ :: _ :: _ :: _,_=>exact .stuck_
theorem rel_ofRtype {v V:Value}(h:VR FN β v V):SemR P FN Eq2 β (ReflectliteType.ofRtype v) (ReflectliteType.ofRtype V):=by
 cases h with
 | @agg xs XS h1 h2=>
  obtain⟨xs⟩:=xs;obtain⟨XS⟩:=XS;match xs,XS,h1,h2 with
  | [a],[A],_,h2=>exact SemR.bnd (rel_ofHandle (h2 0 a A rfl rfl)) λδ hd t T e=>by cases e;exact SemR.same_bind (rel_noPack _ t) λ_ _ _=>.pur rfl
  | [],[],_,_=>exact .stuck_
  | _ :: _ :: _,_ :: _ :: _,_,_=>exact .stuck_
 | _=>exact .stuck_
theorem rel_typeOf {xs XS:Array Value}(h:ArrR FN β xs XS):SemR P FN (VR FN) β (ReflectliteType.typeOf xs) (ReflectliteType.typeOf XS):=by
 obtain⟨xs⟩:=xs;obtain⟨XS⟩:=XS;have hs:=h.1;match xs,XS,hs with
 | [v],[V],_=>
  have hv:=h.2 0 v V rfl rfl;cases hv with
  | nilIface=>exact .pur .nilIface
  | iface t hv=>exact rel_toType t
  | _=>exact .stuck_
 | [],[],_=>exact .stuck_
 | _ :: _ :: _,_ :: _ :: _,_=>exact .stuck_
theorem rel_tmethod {f:TypeId->Sem Value}(hf:∀(δ:Ren P.globals.size) t,SemR P FN (VR FN) δ (f t) (f t)){xs XS:Array Value}(h:ArrR FN β xs XS):SemR P FN (VR FN) β (ReflectliteType.method f xs) (ReflectliteType.method f XS):=by
 obtain⟨xs⟩:=xs;obtain⟨XS⟩:=XS;have hs:=h.1;match xs,XS,hs with
 | [v],[V],_=>exact SemR.bnd (rel_ofRtype (h.2 0 v V rfl rfl)) λδ hd t T e=>by cases e;exact hf δ t
 | [],[],_=>exact .stuck_
 | _ :: _ :: _,_ :: _ :: _,_=>exact .stuck_
theorem rel_telem (δ:Ren P.globals.size)(t:TypeId):SemR P FN (VR FN) δ (ReflectliteType.elem t) (ReflectliteType.elem t):=by
 unfold ReflectliteType.elem;refine SemR.same_bind (rel_elem? t) λε he e=>?_
 cases e with
 | none=>exact SemR.same_bind (rel_spelt t) λ_ _ _=>.dead (dead_panicString _)
 | some e=>exact rel_toType e
theorem rel_relation {what:String}{f:TypeId->TypeId->Sem Bool}(hf:∀(δ:Ren P.globals.size) u t,SemR P FN Eq2 δ (f u t) (f u t)){xs XS:Array Value}(h:ArrR FN β xs XS):SemR P FN (VR FN) β (ReflectliteType.relation what f xs) (ReflectliteType.relation what f XS):=by
 obtain⟨xs⟩:=xs;obtain⟨XS⟩:=XS;have hs:=h.1;match xs,XS,hs with
 | [r,v],[R,V],_=>
  have hr:=h.2 0 r R rfl rfl;have hv:=h.2 1 v V rfl rfl;cases hv with
  | nilIface=>exact .dead (dead_panicString _)
  | iface t hu=>
   refine SemR.bnd (rel_ofRtype hu) λδ hd u U e=>?_
   cases e;refine SemR.bnd (rel_ofRtype (hr.mono hd)) λε he t T e=>?_
   cases e;exact SemR.same_bind (hf ε u t) λ_ _ b=>.pur (.bool b)
  | _=>exact .stuck_
 | [],[],_=>exact .stuck_
 | [_],[_],_=>exact .stuck_
 | _ :: _ :: _ :: _,_ :: _ :: _ :: _,_=>exact .stuck_
theorem rel_implements_ (δ:Ren P.globals.size)(u t:TypeId):SemR P FN Eq2 δ (ReflectliteType.implements_ u t) (ReflectliteType.implements_ u t):=by
 unfold ReflectliteType.implements_;refine SemR.same_bind (rel_kind u) λε he k=>?_
 have tail:∀(ε:Ren P.globals.size),SemR P FN Eq2 ε (do Rtype.noPackMethods "Implements" t;Rtype.noPack "Implements" u;Rtype.implements u t) (do Rtype.noPackMethods "Implements" t;Rtype.noPack "Implements" u;Rtype.implements u t):=λε=>
  SemR.same_bind (rel_noPackMethods _ t) λ_ _ _=>SemR.same_bind (rel_noPack _ u) λ_ _ _=>rel_implements u t
 split
 ·exact SemR.bnd (RA:=λ_ _ _=>False) (.dead (dead_panicString _)) λ_ _ _ _ h=>h.elim
 ·exact tail _
theorem rel_assignableTo (δ:Ren P.globals.size)(u t:TypeId):SemR P FN Eq2 δ (ReflectliteType.assignableTo u t) (ReflectliteType.assignableTo u t):=by
 unfold ReflectliteType.assignableTo;have tail:∀(ε:Ren P.globals.size),SemR P FN Eq2 ε (do pure ((←Rtype.directlyAssignable u t) || (←Rtype.implements u t))) (do pure ((←Rtype.directlyAssignable u t) || (←Rtype.implements u t))):=λε=>
  SemR.same_bind (rel_directly u t) λ_ _ a=>SemR.same_bind (rel_implements u t) λ_ _ b=>.pur rfl
 split
 ·exact SemR.same_bind (rel_noPackMethods _ t) λ_ _ _=>SemR.same_bind (rel_noPackMethods _ u) λ_ _ _=>tail _
 ·exact tail _
theorem rel_abiKind {xs XS:Array Value}(h:ArrR FN β xs XS):SemR P FN (VR FN) β (ReflectliteType.abiMethod (λt=>do pure (.int .u8 (←Rtype.kind t))) xs) (ReflectliteType.abiMethod (λt=>do pure (.int .u8 (←Rtype.kind t))) XS):=by
 obtain⟨xs⟩:=xs;obtain⟨XS⟩:=XS;have hs:=h.1;match xs,XS,hs with
 | [v],[V],_=>
  refine SemR.bnd (rel_ofHandle (h.2 0 v V rfl rfl)) λδ hd t T e=>?_
  cases e;exact SemR.same_bind (rel_noPack _ t) λ_ _ _=>SemR.same_bind (rel_kind t) λ_ _ k=>.pur (.int _ _)
 | [],[],_=>exact .stuck_
 | _ :: _ :: _,_ :: _ :: _,_=>exact .stuck_
theorem rel_loadBytesE:∀(n:Nat) {β:Ren P.globals.size} {a A:Addr} (acc:ByteArray),AR β a A->SemR P FN Eq2 β (Bytes.loadBytes a n acc) (Bytes.loadBytes A n acc)
 | 0,_,_,_,_,_=>.pur rfl
 | n+1,β,a,A,acc,ha=>by
  show SemR P FN Eq2 β (load a >>= _) (load A >>= _);refine SemR.bnd (rel_load ha) λδ hd v V hv=>?_
  cases hv with
  | int k m=>
   cases k with
   | u8=>exact rel_loadBytesE n _ ((ha.mono hd).add 1)
   | _=>exact .stuck_
  | _=>exact .stuck_
theorem rel_bytesOf {v V:Value}(h:VR FN β v V):SemR P FN Eq2 β (Bytes.bytesOf v) (Bytes.bytesOf V):=by
 cases h with
 | string s=>exact .pur rfl
 | slice0 l c=>exact .pur rfl
 | slice l c ha=>exact rel_loadBytesE _ _ ha
 | sliceE a A=>exact .pur rfl
 | _=>exact .stuck_
theorem rel_compare {xs XS:Array Value}(h:ArrR FN β xs XS):SemR P FN (VR FN) β (BytealgCompare.compare xs) (BytealgCompare.compare XS):=by
 obtain⟨xs⟩:=xs;obtain⟨XS⟩:=XS;have hs:=h.1;match xs,XS,hs with
 | [a,b],[A,B],_=>
  refine SemR.bnd (rel_bytesOf (h.2 0 a A rfl rfl)) λδ hd x X e=>?_
  cases e;refine SemR.bnd (rel_bytesOf ((h.2 1 b B rfl rfl).mono hd)) λε he y Y e=>?_
  cases e;exact .pur (.int _ _)
 | [],[],_=>exact .stuck_
 | [_],[_],_=>exact .stuck_
 | _ :: _ :: _ :: _,_ :: _ :: _ :: _,_=>exact .stuck_
theorem callOk_extern {f:FuncId}{fn:Func}{e:Array Value->Sem Value}(hf:P.funcs[f]? = some fn)(hname:(fn.name == "runtime.NumGoroutine")=false) (hb:fn.body.isNone=true) (hn:Extern.findNext fn=none) (he:Extern.find fn=some e)
  (h:∀(δ:Ren P.globals.size) xs XS,ArrR FN δ xs XS->SemR P FN (VR FN) δ (e xs) (e XS)):CallOk P FN f:=by
 intro β xs XS hx;unfold callFunc;refine .program ?_;show SemR P FN (NextR FN) β (Sem.bind (.pure P) _) (Sem.bind (.pure P) _);simp only[Sem.bind,hf,hname,hb,hn,he,Bool.false_eq_true,if_false,if_true];exact .mark trivial (rel_v (h β xs XS hx))
theorem callOk_none {f:FuncId}{fn:Func}(hf:P.funcs[f]? = some fn)(hname:(fn.name == "runtime.NumGoroutine")=false) (hb:fn.body.isNone=true) (hn:Extern.findNext fn=none) (he:Extern.find fn=none)
  (hi:(fn.name.endsWith ".init" && !fn.name.startsWith "(" && !fn.name.startsWith "gosem.")=false):CallOk P FN f:=by
 intro β xs XS hx;unfold callFunc;refine .program ?_;show SemR P FN (NextR FN) β (Sem.bind (.pure P) _) (Sem.bind (.pure P) _);simp only[Sem.bind,hf,hname,hb,hn,he,hi,Bool.false_eq_true,if_false,if_true];exact .mark trivial (.unsup trivial)
theorem struct_methods {info:TypeId->Option TypeInfo}{fs:Array Field}{i:TypeInfo}(h:Made.reckonStruct info fs=some i):i.methods=#[]:=by
 unfold Made.reckonStruct at h;simp only[Option.bind_eq_bind,Option.bind_eq_some_iff,Option.pure_def] at h;obtain⟨st,_,h⟩:=h;split at h<;>(simp only[Option.some.injEq] at h;rw[←h])
theorem reckon_methods {info:TypeId->Option TypeInfo}{d:TypeDesc}{i:TypeInfo}(h:Made.reckon info d=some i):i.methods=#[]:=by
 unfold Made.reckon at h;cases d with
 | struct fs=>exact struct_methods h
 | pointer e=>
  simp only[Option.bind_eq_bind,Option.bind_eq_some_iff,Option.pure_def] at h;obtain⟨x,_,h⟩:=h;split at h
  ·cases h
  ·split at h
   ·cases h
   ·simp only[Option.bind_eq_some_iff,Option.some.injEq] at h;obtain⟨s,_,h⟩:=h;rw[←h];rfl
  ·simp only[Option.bind_eq_some_iff,Option.some.injEq] at h;obtain⟨s,_,h⟩:=h;rw[←h];rfl
 | slice e=>
  simp only[Option.bind_eq_bind,Option.bind_eq_some_iff,Option.pure_def,Option.some.injEq] at h;obtain⟨x,_,s,_,h⟩:=h;rw[←h];rfl
 | map k e=>
  simp only[Option.bind_eq_bind,Option.bind_eq_some_iff,Option.pure_def,Option.some.injEq] at h;obtain⟨x,_,s,_,y,_,z,_,h⟩:=h;rw[←h];rfl
 | chan dir e=>
  simp only[Option.bind_eq_bind,Option.bind_eq_some_iff,Option.pure_def,Option.some.injEq] at h;obtain⟨x,_,s,_,h⟩:=h;rw[←h];rfl
 | func ps rs v=>
  simp only[Option.bind_eq_bind,Option.bind_eq_some_iff,Option.pure_def,Option.some.injEq] at h;obtain⟨x,_,h⟩:=h;rw[←h];rfl
 | array n e=>
  simp only[Option.bind_eq_bind,Option.bind_eq_some_iff,Option.pure_def,Option.some.injEq] at h;obtain⟨x,_,s,_,h⟩:=h;rw[←h]
 | _=>cases h
theorem infoAt_methods {T:Tables}:∀(n:Nat) {t:TypeId} {i:TypeInfo},T.types.size<=t->Made.infoAt T n t=some i->i.methods=#[]
 | 0,_,_,_,h=>by cases h
 | n+1,t,i,ht,h=>by
  unfold Made.infoAt at h;rw[if_neg (Nat.not_lt.2 ht),Option.bind_eq_some_iff] at h;obtain⟨d,_,h⟩:=h;exact reckon_methods h
def methRow (P:Program)(FN:FuncId->Bool)(t:TypeId)(m:Method):Bool:=m.path.all (λs=>!s.deref) && match m.func with
 | none=>false
 | some (f,pr)=>FN f && (pr || match P.underlying t with | some (.pointer _)=>false | _=>true) && (m.path.isEmpty || pr)
def methOk (P:Program)(FN:FuncId->Bool)(name:String):Bool:=(List.range P.types.size).all λt=>match P.types[t]? with
 | none=>true
 | some i=>match i.methods.find? (·.name == name) with
  | none=>true
  | some m=>methRow P FN t m
def PlR (FN:FuncId->Bool):Ren P.globals.size->TypeId × Place->TypeId × Place->Prop:=λδ x X=>x.1=X.1/\∃v V,x.2=.val v/\X.2=.val V/\VR FN δ v V
theorem rel_follow:∀(p:List FieldStep) {β:Ren P.globals.size} (t:TypeId) {v V:Value},p.all (λs=>!s.deref)=true->VR FN β v V->SemR P FN (PlR FN) β (follow p t (.val v)) (follow p t (.val V))
 | [],β,t,v,V,_,h=>.pur ⟨rfl,v,V,rfl,rfl,h⟩
 | s :: rest,β,t,v,V,hp,h=>by
  simp only[List.all_cons,Bool.and_eq_true,Bool.not_eq_true'] at hp;show SemR P FN (PlR FN) β (underlying s.struct >>= _) (underlying s.struct >>= _);refine SemR.same_bind (rel_underlying s.struct) λδ hd d=>?_
  have h':=h.mono hd;cases d with
  | struct fields=>
   dsimp only;cases fields[s.index]? with
   | none=>exact .stuck_
   | some f=>
    simp only[hp.1,Bool.false_eq_true,if_false];cases h' with
    | agg h1 h2=>exact SemR.bnd (rel_part ⟨h1,h2⟩ _) λε he x X hx=>rel_follow rest f.type hp.2 hx
    | _=>exact .stuck_
  | _=>exact .stuck_
def MethR (FN:FuncId->Bool):Ren P.globals.size->FuncId × Value->FuncId × Value->Prop:=λδ x X=>x.1=X.1/\FN x.1=true/\VR FN δ x.2 X.2
theorem rel_meth {name:String}(hok:methOk P FN name=true):∀(n:Nat) (t:TypeId) {v V:Value},VR FN β v V->SemR P FN (MethR FN) β (Go.method n t v name) (Go.method n t V name)
 | 0,t,v,V,h=>.unsup trivial
 | n+1,t,v,V,h=>by
  show SemR P FN (MethR FN) β (typeInfo t >>= _) (typeInfo t >>= _);have hti:SemR P FN (λ_ i I=>i=I/\P.info? t=some i) β (typeInfo t) (typeInfo t):=by
   refine .program ?_;show SemR P FN _ β (Sem.bind (.pure P) _) (Sem.bind (.pure P) _);simp only[Sem.bind];cases hi:P.info? t with
   | none=>exact .stuck_
   | some i=>exact .pur ⟨rfl,rfl⟩
  refine SemR.bnd hti λδ hd i I hi=>?_
  obtain⟨rfl,hi⟩:=hi;have hrow:∀m,i.methods.find? (·.name == name)=some m->methRow P FN t m=true:=λm hm=>by
   unfold Tables.info? at hi;by_cases hlt:t<P.types.size
   ·rw[if_pos hlt] at hi;have:=List.all_eq_true.1 hok t (List.mem_range.2 hlt);simp only[hi,hm] at this;exact this
   ·rw[if_neg hlt] at hi;rw[infoAt_methods _ (Nat.not_lt.1 hlt) hi] at hm;simp at hm
  cases hm:i.methods.find? (·.name == name) with
  | none=>exact .stuck_
  | some m=>
   have hr:=hrow m hm;unfold methRow at hr;simp only[Bool.and_eq_true] at hr;obtain⟨hp,hf⟩:=hr;cases hfn:m.func with
   | none=>rw[hfn] at hf;cases hf
   | some fp=>
    obtain⟨f,pr⟩:=fp;rw[hfn] at hf;simp only[Bool.and_eq_true] at hf;obtain⟨⟨hf1,hf2⟩,hf3⟩:=hf;have rest:∀(ε:Ren P.globals.size) (xt:TypeId) {v' V':Value},VR FN ε v' V'->(pr=false->xt=t)->SemR P FN (MethR FN) ε (do
      match (some (f,pr):Option (FuncId × Bool)) with
      | none=>
       match ←(Place.val v').get xt with
       | .iface t' v'=>Go.method n t' v' name
       | .nilIface=>runtimePanic .nilDeref
       | _=>stuck "method row: interface value expected"
      | some (f,pointerReceiver)=>
       pure (f,←receiverAt xt (.val v') pointerReceiver (if m.path.isEmpty then some ((name.splitOn ".").getLastD name) else none))) (do
      match (some (f,pr):Option (FuncId × Bool)) with
      | none=>
       match ←(Place.val V').get xt with
       | .iface t' v'=>Go.method n t' v' name
       | .nilIface=>runtimePanic .nilDeref
       | _=>stuck "method row: interface value expected"
      | some (f,pointerReceiver)=>
       pure (f,←receiverAt xt (.val V') pointerReceiver (if m.path.isEmpty then some ((name.splitOn ".").getLastD name) else none))):=by
     intro ε xt v' V' hv hxt;dsimp only;refine SemR.bnd (RA:=VR FN) ?_ λη hη y Y hy=>.pur ⟨rfl,hf1,hy⟩
     unfold receiverAt;have hun:SemR P FN (λ_ d D=>d=D/\P.underlying xt=some d) ε (underlying xt) (underlying xt):=rel_und xt;refine SemR.bnd hun λη hη d D hD=>?_
     obtain⟨rfl,hD⟩:=hD;have hv':=hv.mono hη;cases pr with
     | true=>cases d<;>first | exact .pur hv' | exact .stuck_
     | false=>
      have e:=hxt rfl;subst e;simp only[Bool.false_or] at hf2;rw[hD] at hf2;cases d<;>first | exact .pur hv' | (exfalso;simp at hf2)
    dsimp only;cases hpp:m.path.toList with
    | nil=>
     show SemR P FN (MethR FN) δ (Sem.bind (.pure (t,Place.val v)) _) (Sem.bind (.pure (t,Place.val V)) _);simp only[Sem.bind,hfn];exact rest _ t (h.mono hd) λ_=>rfl
    | cons s l=>
     have hpt:pr=true:=by
      cases pr with
      | true=>rfl
      | false=>
       simp only[Bool.or_false] at hf3;have:m.path=#[]:=by simpa using hf3
       rw[this] at hpp;cases hpp
     rw[←hpp];refine SemR.bnd (RA:=PlR FN) (rel_follow m.path.toList t (by rw[Array.all_toList];exact hp) (h.mono hd)) λε he x X hx=>?_
     obtain⟨xt,x⟩:=x;obtain⟨Xt,X⟩:=X;obtain⟨e1,v',V',e2,e3,hv⟩:=hx;simp only at e1 e2 e3;subst e1 e2 e3;have:=rest ε xt hv λe=>by rw[hpt] at e;cases e
     simp only[hfn];exact this
theorem rel_callMethod {name:String}(hok:methOk P FN name=true)(hall:∀g,FN g=true->CallOk P FN g){r R:Value}(hr:VR FN β r R){xs XS:Array Value}(hx:ArrR FN β xs XS) :
  SemR P FN (NextR FN) β (callMethod r name xs) (callMethod R name XS):=by
 cases hr with
 | nilIface=>
  show SemR P FN (NextR FN) β (runtimePanic .nilDeref) _;exact SemR.rtp
 | iface t hv=>
  refine .program ?_;show SemR P FN (NextR FN) β (Go.method _ t _ name >>= _) (Go.method _ t _ name >>= _);refine SemR.bnd (rel_meth hok _ t hv) λδ hd x X hm=>?_
  obtain⟨f,v⟩:=x;obtain⟨F,V⟩:=X;obtain⟨e,h1,h2⟩:=hm;simp only at e h1 h2;subst e;exact hall f h1 δ _ _ ((ArrR.one h2).app (hx.mono hd))
 | _=>exact .stuck_
theorem rel_typeAssert {x X:Value}(hx:VR FN β x X){xt asserted:TypeId}(hz:zeroOk P asserted=true):SemR P FN (VR FN) β (Instr.typeAssert x xt asserted true) (Instr.typeAssert X xt asserted true):=by
 unfold Instr.typeAssert;refine SemR.same_bind (rel_underlying asserted) λδ hd d=>?_
 have hx':=hx.mono hd;have fails:∀(ε:Ren P.globals.size),SemR P FN (VR FN) ε (do pure (.tuple #[←zeroValue asserted,.bool false])) (do pure (.tuple #[←zeroValue asserted,.bool false])):=λε=>
  SemR.bnd (rel_zeroValue asserted hz) λ_ _ v V hv=>.pur (VR.tuple' (ArrR.two hv (.bool false)))
 have holds:∀(ε:Ren P.globals.size) (v V:Value),VR FN ε v V->SemR P FN (VR FN) ε (pure (.tuple #[v,.bool true])) (pure (.tuple #[V,.bool true])):=λε v V hv=>.pur (VR.tuple' (ArrR.two hv (.bool true)))
 dsimp only;cases hx' with
 | nilIface=>cases d<;>exact fails _
 | iface t hv=>
  cases d with
  | interface want=>
   refine SemR.same_bind (rel_typeInfo t) λε he i=>?_
   cases Instr.missingMethod want i.methods with
   | none=>exact holds _ _ _ ((VR.iface t hv).mono he)
   | some m=>exact fails _
  | _=>
   show SemR P FN (VR FN) δ (if t=asserted then _ else _) (if t=asserted then _ else _);by_cases ht:t=asserted
   ·simp only[if_pos ht];exact holds _ _ _ hv
   ·simp only[if_neg ht];exact fails _
 | _=>cases d<;>exact .stuck_
end Go.Fw
end
section
/- Related operations, part 9: all kinds of operations that a list of functions uses, by one check. -/
namespace Go.Fw
open Go
variable {P:Program} {FN:FuncId->Bool} {β:Ren P.globals.size}
def okX (FN:FuncId->Bool):Operand->Bool
 | .tmp _=>true
 | .const v=>plainV 5 v
 | .func f=>FN f
 | .global g=>g == 0
def isNilC:Operand->Bool
 | .const v=>nilV v
 | _=>false
structure OpnR (FN:FuncId->Bool) (β:Ren P.globals.size) (ρ R:Operand->Value):Prop where
 x:∀o,okX FN o=true->VR FN β (ρ o) (R o)
 c:∀v,ρ (.const v)=v/\R (.const v)=v
def okBuiltin (P:Program)(b:Builtin)(ts:Array TypeId)(n:Nat):Bool:=match b with
 | .len | .cap=>(ts.size == 1 && seqT P (ts.getD 0 0)) && (n == 1)
 | .max | .min=>true
 | .append=>(ts.size == 2 && (ts.getD 0 0 == ts.getD 1 0) && sliceZeroOk P (ts.getD 0 0)) && (n == 2)
 | .copy=>ts.size == 2 && n == 2
 | .clear=>(ts.size == 1 && sliceZeroOk P (ts.getD 0 0)) && (n == 1)
 | _=>false
theorem one_of {α:Type}{xs:Array α}(h:xs.size=1):∃x,xs=#[x]:=by
 obtain⟨l⟩:=xs;match l,h with
 | [x],_=>exact⟨x,rfl⟩
theorem two_of {α:Type}{xs:Array α}(h:xs.size=2):∃x y,xs=#[x,y]:=by
 obtain⟨l⟩:=xs;match l,h with
 | [x,y],_=>exact⟨x,y,rfl⟩
theorem rel_builtin {b:Builtin}{ts:Array TypeId}{ty:TypeId}{cs:Array Bool}{xs XS:Array Value}(hok:okBuiltin P b ts xs.size=true)(hx:ArrR FN β xs XS) :
  SemR P FN (NextR FN) β (builtin b ts ty cs xs) (builtin b ts ty cs XS):=by
 have hsz:=hx.1;cases b with
 | len=>
  simp only[okBuiltin,Bool.and_eq_true,beq_iff_eq] at hok;obtain⟨x,rfl⟩:=one_of hok.2;obtain⟨X,rfl⟩:=one_of (hsz.symm.trans hok.2);obtain⟨t,rfl⟩:=one_of hok.1.1;exact rel_v (rel_len hok.1.2 (hx.2 0 x X rfl rfl))
 | cap=>
  simp only[okBuiltin,Bool.and_eq_true,beq_iff_eq] at hok;obtain⟨x,rfl⟩:=one_of hok.2;obtain⟨X,rfl⟩:=one_of (hsz.symm.trans hok.2);obtain⟨t,rfl⟩:=one_of hok.1.1;exact rel_v (rel_cap hok.1.2 (hx.2 0 x X rfl rfl))
 | clear=>
  simp only[okBuiltin,Bool.and_eq_true,beq_iff_eq] at hok;obtain⟨x,rfl⟩:=one_of hok.2;obtain⟨X,rfl⟩:=one_of (hsz.symm.trans hok.2);obtain⟨t,rfl⟩:=one_of hok.1.1;exact rel_v (rel_clear hok.1.2 (hx.2 0 x X rfl rfl))
 | append=>
  simp only[okBuiltin,Bool.and_eq_true,beq_iff_eq] at hok;obtain⟨x,y,rfl⟩:=two_of hok.2;obtain⟨X,Y,rfl⟩:=two_of (hsz.symm.trans hok.2);obtain⟨t,t',rfl⟩:=two_of hok.1.1.1;obtain rfl:t=t':=hok.1.1.2;exact rel_v (rel_append hok.1.2 (hx.2 0 x X rfl rfl) (hx.2 1 y Y rfl rfl))
 | copy=>
  simp only[okBuiltin,Bool.and_eq_true,beq_iff_eq] at hok;obtain⟨x,y,rfl⟩:=two_of hok.2;obtain⟨X,Y,rfl⟩:=two_of (hsz.symm.trans hok.2);obtain⟨t,t',rfl⟩:=two_of hok.1;exact rel_v (rel_copy (hx.2 0 x X rfl rfl) (hx.2 1 y Y rfl rfl))
 | max=>exact rel_v (rel_max hx)
 | min=>exact rel_v (rel_min hx)
 | _=>simp[okBuiltin] at hok
def okOp (P:Program)(FN:FuncId->Bool)(o:Oper):Bool:=match o.op with
 | .move x | .assign x | .box _ x | .load _ x | .nilCheck x | .unOp _ _ x | .makeInterface _ x | .extract x _ | .field _ x _=>okX FN x
 | .pick c a b=>okX FN c && okX FN a && okX FN b
 | .alloc e=>zeroOk P e
 | .store _ a x | .indexAddr _ a x | .index _ a x=>okX FN a && okX FN x
 | .convert s d x=>convOk P s d && okX FN x
 | .fieldAddr s x k=>fieldOk P s k && okX FN x
 | .makeSlice t l c=>makeOk P t && okX FN l && okX FN c
 | .build t parts=>zeroOk P t && parts.all λp=>okX FN p.2
 | .buildSlice t _ parts=>makeOk P t && parts.all λp=>okX FN p.2
 | .makeFunc (.func f) first captured=>FN f && first.all (okX FN) && captured.all (okX FN)
 | .slice t x lo hi mx=>slcT P t && okX FN x && lo.all (okX FN) && hi.all (okX FN) && mx.all (okX FN)
 | .binOp op t x y _=>okX FN x && okX FN y && (if op matches .eql | .neq then intT P t || (nilT P t && isNilC y) else intT P t)
 | .call { callee:=.value f,args,.. }=>okX FN f && args.all (okX FN)
 | .call { callee:=.builtin b,args,argTypes }=>okBuiltin P b argTypes args.size && args.all (okX FN)
 | .call { callee:=.invoke r n,args,.. }=>methOk P FN n && okX FN r && args.all (okX FN)
 | .typeAssert x _ t ok=>ok && zeroOk P t && okX FN x
 | .panic _=>true
 | _=>false
theorem OpnR.opt {ρ R:Operand->Value}(h:OpnR FN β ρ R){x:Option Operand}(hx:x.all (okX FN)=true):OptR FN β (x.map ρ) (x.map R):=by
 cases x with
 | none=>trivial
 | some x=>exact h.x x (by simpa using hx)
theorem OpnR.arr {ρ R:Operand->Value}(h:OpnR FN β ρ R){xs:Array Operand}(hx:xs.all (okX FN)=true):ArrR FN β (xs.map ρ) (xs.map R):=by
 refine⟨by simp,λi a A ha hA=>?_⟩;simp only[Array.getElem?_map,Option.map_eq_some_iff] at ha hA;obtain⟨x,hx1,rfl⟩:=ha;obtain⟨x',hx2,rfl⟩:=hA;rw[hx1] at hx2;cases hx2;refine h.x x ?_;obtain⟨hi,e⟩:=Array.getElem?_eq_some_iff.1 hx1;rw[Array.all_eq_true] at hx;rw[←e];exact hx i hi
theorem OpnR.partsL {ρ R:Operand->Value}(h:OpnR FN β ρ R):∀(l:List (Nat × Operand)),l.all (λp=>okX FN p.2)=true->PartsR FN β (l.map λ(i,x)=>(i,ρ x)) (l.map λ(i,x)=>(i,R x))
 | [],_=>trivial
 | x :: l,hl=>by
  simp only[List.all_cons,Bool.and_eq_true] at hl;exact⟨⟨rfl,h.x x.2 hl.1⟩,OpnR.partsL h l hl.2⟩
theorem OpnR.parts {ρ R:Operand->Value}(h:OpnR FN β ρ R){xs:Array (Nat × Operand)}(hx:(xs.all λp=>okX FN p.2)=true) :
  PartsR FN β (xs.map λ(i,x)=>(i,ρ x)).toList (xs.map λ(i,x)=>(i,R x)).toList:=by
 rw[Array.toList_map,Array.toList_map];exact h.partsL xs.toList (by rw[Array.all_toList];exact hx)
theorem rel_execOp {o:Oper}{ρ R:Operand->Value}(hok:okOp P FN o=true)(hall:∀g,FN g=true->CallOk P FN g)(h:OpnR FN β ρ R) :
  SemR P FN (NextR FN) β (execOp ρ o) (execOp R o):=by
 obtain⟨dst,op,ty,pos,after,guard⟩:=o;unfold okOp at hok;unfold execOp;cases op with
 | move x=>exact .pur (.value (h.x x hok))
 | assign x=>exact .pur (.value (h.x x hok))
 | pick c a b=>
  simp only[Bool.and_eq_true] at hok;have:=rel_pick (P:=P) (h.x c hok.1.1) (h.x a hok.1.2) (h.x b hok.2);exact SemR.bnd (rel_asBool (h.x c hok.1.1)) λδ hd t T ht=>by
   obtain rfl:t=T:=ht;cases t
   ·exact .pur (.value ((h.x b hok.2).mono hd))
   ·exact .pur (.value ((h.x a hok.1.2).mono hd))
 | alloc e=>exact rel_v (rel_alloc hok)
 | box e x=>exact rel_v (rel_box (h.x x hok))
 | load t a=>exact rel_v (rel_loadAt (h.x a hok))
 | store t a x=>
  simp only[Bool.and_eq_true] at hok;exact rel_u (rel_storeAt (h.x a hok.1) (h.x x hok.2))
 | makeInterface t x=>exact rel_v (rel_makeInterface (h.x x hok))
 | extract t i=>exact rel_v (rel_extract (h.x t hok) i)
 | field t x i=>exact rel_v (rel_field (h.x x hok) i)
 | unOp op t x=>exact rel_v (rel_unary (h.x x hok))
 | convert s d x=>
  simp only[Bool.and_eq_true] at hok;exact rel_v (rel_convert hok.1 (h.x x hok.2))
 | fieldAddr s x k=>
  simp only[Bool.and_eq_true] at hok;exact rel_v (rel_fieldAt (h.x x hok.2) hok.1)
 | indexAddr t x i=>
  simp only[Bool.and_eq_true] at hok;exact rel_v (rel_indexAt (h.x x hok.1) (h.x i hok.2))
 | index t x i=>
  simp only[Bool.and_eq_true] at hok;exact rel_v (rel_index (h.x x hok.1) (h.x i hok.2))
 | makeSlice t l c=>
  simp only[Bool.and_eq_true] at hok;exact rel_v (rel_makeSlice hok.1.1 (h.x l hok.1.2) (h.x c hok.2))
 | build t parts=>
  simp only[Bool.and_eq_true] at hok;exact rel_v (rel_build hok.1 (h.parts hok.2))
 | buildSlice t n parts=>
  simp only[Bool.and_eq_true] at hok;exact rel_v (rel_buildSlice hok.1 (h.parts hok.2))
 | makeFunc fn first captured=>
  cases fn with
  | func f=>
   simp only[Bool.and_eq_true] at hok;exact rel_v (rel_makeFunc hok.1.1 (h.arr hok.1.2) (h.arr hok.2))
  | _=>simp at hok
 | slice t x lo hi mx=>
  simp only[Bool.and_eq_true] at hok;exact rel_v (rel_slice (h.x x hok.1.1.1.2) (h.opt hok.1.1.2) (h.opt hok.1.2) (h.opt hok.2) hok.1.1.1.1)
 | nilCheck x=>
  have hx:=h.x x hok;dsimp only;generalize ρ x=v at hx ⊢;generalize R x=V at hx ⊢;cases hx with
  | ptr0=>exact SemR.rtp
  | nilIface=>exact SemR.rtp
  | nilFunc=>exact SemR.rtp
  | ptr h=>exact .pur (.value (.ptr h))
  | bool b=>exact .pur (.value (.bool b))
  | int k n=>exact .pur (.value (.int k n))
  | string s=>exact .pur (.value (.string s))
  | slice0 l c=>exact .pur (.value (.slice0 l c))
  | slice l c h=>exact .pur (.value (.slice l c h))
  | sliceE a A=>exact .pur (.value (.sliceE a A))
  | chan r=>exact .pur (.value (.chan r))
  | iface t h=>exact .pur (.value (.iface t h))
  | func hf h1 h2 h3 h4=>exact .pur (.value (.func hf h1 h2 h3 h4))
  | agg h1 h2=>exact .pur (.value (.agg h1 h2))
  | tuple h1 h2=>exact .pur (.value (.tuple h1 h2))
  | mapNil=>exact .pur (.value .mapNil)
  | junkF f xs ys=>exact SemR.rtp
  | bound h1 h2=>exact SemR.rtp
  | yld l=>exact SemR.rtp
  | junk h=>
   have key:SemR P FN (NextR FN) β (Pure.pure (.value (.map (some 0)))) (Pure.pure (.value V)):=.pur (.value (.junk h));cases V with
   | pointer a=>cases a with
    | none=>cases h
    | some a=>exact key
   | _=>first | (cases h;done) | exact key
 | binOp op t x y yt=>
  simp only[Bool.and_eq_true] at hok;refine rel_v ?_;have hx:=h.x x hok.1.1;have hy:=h.x y hok.1.2;have int:intT P t=true->SemR P FN (VR FN) β (do eqGuard op t x y (ρ x) (ρ y);binOp op t (ρ x) (ρ y)) (do eqGuard op t x y (R x) (R y);binOp op t (R x) (R y)):=λht=>
   SemR.bnd (rel_eqGuard_int ht hx hy) λδ hd _ _ _=>by
    by_cases h1:op=.eql
    ·subst h1;exact rel_binOp_eql ht (hx.mono hd) (hy.mono hd)
    ·by_cases h2:op=.neq
     ·subst h2;exact rel_binOp_neq ht (hx.mono hd) (hy.mono hd)
     ·exact rel_binOp_num h1 h2 ht (hx.mono hd) (hy.mono hd)
  have nil_:(op=.eql\/op=.neq)->nilT P t=true->isNilC y=true->SemR P FN (VR FN) β (do eqGuard op t x y (ρ x) (ρ y);binOp op t (ρ x) (ρ y)) (do eqGuard op t x y (R x) (R y);binOp op t (R x) (R y)):=λhop ht hn=>by
   cases y with
   | const v=>
    obtain⟨e1,e2⟩:=h.c v;rw[e1,e2];exact SemR.bnd (rel_eqGuard_nil hx hn) λδ hd _ _ _=>rel_binOp_nil hop ht (hx.mono hd) hn
   | _=>simp[isNilC] at hn
  have hcase:=hok.2;cases op with
  | eql=>
   simp only[if_true,Bool.or_eq_true,Bool.and_eq_true] at hcase;rcases hcase with h1|h1
   ·exact int h1
   ·exact nil_ (.inl rfl) h1.1 h1.2
  | neq=>
   simp only[if_true,Bool.or_eq_true,Bool.and_eq_true] at hcase;rcases hcase with h1|h1
   ·exact int h1
   ·exact nil_ (.inr rfl) h1.1 h1.2
  | _=>exact int (by simpa using hcase)
 | call c=>
  obtain⟨callee,args,ats⟩:=c;cases callee with
  | value f=>
   simp only[Bool.and_eq_true] at hok;exact rel_callValue hall (h.x f hok.1) (h.arr hok.2)
  | builtin b=>
   simp only[Bool.and_eq_true] at hok;show SemR P FN (NextR FN) β (Sem.bind (.pure _) _) (Sem.bind (.pure _) _);simp only[Sem.bind];exact rel_builtin (by simpa using hok.1) (h.arr hok.2)
  | invoke r n=>
   simp only[Bool.and_eq_true] at hok;have e:∀ρ:Operand->Value,(do let d ←resolve ρ { callee:=.invoke r n,args,argTypes:=ats } ty;invoke d.target d.args)=callMethod (ρ r) n (args.map ρ):=λρ=>by
    show invoke (.fn (.method n) #[]) (#[ρ r]++args.map ρ)=_;have h0:(#[ρ r]++args.map ρ)[0]? = some (ρ r):=by rw[Array.getElem?_append_left (Nat.zero_lt_one)];rfl
    unfold invoke;simp only[h0];congr 1;apply Array.ext_getElem?;intro i;rw[Array.getElem?_extract];simp only[Array.size_append,Array.size_map,List.size_toArray,List.length_cons,List.length_nil];by_cases hi:i<args.size
    ·rw[if_pos (by omega),Array.getElem?_append_right (by simp)];simp
    ·rw[if_neg (by omega),Array.getElem?_eq_none (by simpa using hi)]
   dsimp only;rw[e,e];exact rel_callMethod hok.1.1 hall (h.x r hok.1.2) (h.arr hok.2)
 | typeAssert x xt t ok=>
  simp only[Bool.and_eq_true] at hok;obtain⟨⟨rfl,hz⟩,hx⟩:=hok;exact rel_v (rel_typeAssert (h.x x hx) hz)
 | panic x=>exact .dead (Dead.bind (dead_panicOp _) _)
 | _=>simp at hok
end Go.Fw
end
