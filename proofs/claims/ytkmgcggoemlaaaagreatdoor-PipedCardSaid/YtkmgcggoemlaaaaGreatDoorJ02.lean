/-
  Part 2 of the common ground of this seat: what single parts show stands ahead of each.
  No condition.
-/
import Derived.Test.YtkmgcggoemlaaaaGreatDoorJ01
import Derived.Laws.Sem
set_option linter.unusedSimpArgs false
set_option linter.unusedVariables false
set_option linter.constructorNameAsVariable false
section
/- The operations of the model, one by one, continued: arithmetic and comparison. -/
namespace Go.Fw
open Go
section
variable {P:Program} {FN:FuncId->Bool} {β:Ren P.globals.size}
theorem dead_unsup {α:Type}{u:Unsupported}(h:HaltOk (.unsupported u)):Dead (Go.unsupported u:Sem α):=.halt h
theorem rel_viewAt {r R:Nat}(h:β.f r=some R):SemR P FN (λ_ a A=>a=none/\A=none) β (viewAt r) (viewAt R):=by
 unfold viewAt;refine .shape h λx=>?_
 cases x with
 | some x=>exact .pur ⟨rfl,rfl⟩
 | none=>exact .getObj h λa A l ha=>.pur ⟨rfl,rfl⟩
def NumR:Ren P.globals.size->Option (Addr × Bool)->Option (Addr × Bool)->Prop:=λβ x X=>(x=none/\X=none)\/∃a A l,x=some (a,l)/\X=some (A,l)/\AR β a A
theorem rel_numberAt {r R:Nat}(h:β.f r=some R):SemR P FN NumR β (numberAt r) (numberAt R):=by
 unfold numberAt;refine .shape h λx=>?_
 cases x with
 | some x=>exact .pur (.inl ⟨rfl,rfl⟩)
 | none=>exact .getObj h λa A l ha=>.pur (.inr ⟨a,A,l,rfl,rfl,ha⟩)
theorem rel_behindNumber {a A:Addr}(h:AR β a A):SemR P FN (λδ x X=>AR δ x.1 X.1/\x.2=X.2) β (behindNumber a) (behindNumber A):=by
 unfold behindNumber;refine SemR.bnd (rel_numberAt h.1) λδ hd x X e=>?_
 rcases e with⟨rfl,rfl⟩|⟨b,B,l,rfl,rfl,hb⟩
 ·exact .pur ⟨h.mono hd,rfl⟩
 ·exact .pur ⟨hb,rfl⟩
theorem rel_noView {a A:Addr}(h:AR β a A):SemR P FN Eq2 β (noView a) (noView A):=by
 unfold noView;refine SemR.bnd (rel_viewAt h.1) λδ hd x X e=>?_
 obtain⟨rfl,rfl⟩:=e;exact .pur rfl
theorem rel_byteOf {a A:Addr}(h:AR β a A):SemR P FN Eq2 β (byteOf a) (byteOf A):=by
 unfold byteOf;obtain⟨hb,ho,hs⟩:=h;rw[hs,ho];cases a.spot with
 | some s=>exact .pur rfl
 | none=>
  refine .program ?_;show SemR P FN Eq2 β (Sem.bind (.pure P) _) (Sem.bind (.pure P) _);simp only[Sem.bind];refine SemR.bnd (rel_noView (P:=P) ⟨hb,ho,hs⟩) λδ hd _ _ _=>?_
  refine .shape (hd _ _ hb) λx=>?_
  cases x with
  | none=>exact .stuck_
  | some x=>
   obtain⟨e,n⟩:=x;simp only[Sem.bind];show SemR P FN Eq2 δ (if _ then _ else _) (if _ then _ else _);split
   ·exact .pur rfl
   ·split
    ·exact .pur rfl
    ·exact .stuck_
theorem blk_eq {a b A B:Addr}(ha:AR β a A)(hb:AR β b B):(a.block == b.block)=(A.block == B.block):=by
 rw[Bool.eq_iff_iff,beq_iff_eq,beq_iff_eq];constructor
 ·intro e;have h1:=ha.1;have h2:=hb.1;rw[e,h2] at h1;exact(Option.some.inj h1).symm
 ·intro e;exact β.inj _ _ B.block (by rw[←e];exact ha.1) hb.1
theorem blk_lt {a A:Addr}(ha:AR β a A):(a.block<P.globals.size)↔(A.block<P.globals.size):=(β.glob _ _ ha.1).1
theorem addr_eq {a b A B:Addr}(ha:AR β a A)(hb:AR β b B):(a == b)=(A == B):=by
 have h:=blk_eq ha hb;rw[Bool.eq_iff_iff] at h ⊢;simp only[beq_iff_eq] at h ⊢;obtain⟨a1,a2,a3⟩:=a;obtain⟨b1,b2,b3⟩:=b;obtain⟨A1,A2,A3⟩:=A;obtain⟨B1,B2,B3⟩:=B;obtain⟨_,e1,e2⟩:=ha;obtain⟨_,e3,e4⟩:=hb;simp only at h e1 e2 e3 e4;simp only[Addr.mk.injEq,h,e1,e2,e3,e4]
theorem rel_twoPlaces {a b A B:Addr}(ha:AR β a A)(hb:AR β b B):SemR P FN Eq2 β (Op.twoPlaces a b) (Op.twoPlaces A B):=by
 unfold Op.twoPlaces;refine .program ?_;show SemR P FN Eq2 β (Sem.bind (.pure P) _) (Sem.bind (.pure P) _);simp only[Sem.bind];have e1:(a.block != b.block)=(A.block != B.block):=by simp only[bne,blk_eq ha hb]
 have e2:decide (a.block≥P.globals.size)=decide (A.block≥P.globals.size):=by
  have:=blk_lt ha;rw[decide_eq_decide];omega
 rw[e1,e2];split
 ·exact .dead (Dead.bind (dead_unsup (by exact trivial)) _)
 ·refine SemR.bnd (rel_byteOf ha) λδ hd x X e=>?_
  cases e;refine SemR.bnd (rel_byteOf (hb.mono hd)) λε he y Y e=>?_
  cases e;exact .pur rfl
theorem rel_addrSub {k:IntKind}{a b A B:Addr}(ha:AR β a A)(hb:AR β b B):SemR P FN (VR FN) β (Op.addrSub k a b) (Op.addrSub k A B):=by
 unfold Op.addrSub;exact SemR.bnd (rel_twoPlaces ha hb) λδ hd x X e=>by cases e;exact .pur (.int _ _)
theorem rel_addrCmp {op:BinOp}{a b A B:Addr}(ha:AR β a A)(hb:AR β b B):SemR P FN (VR FN) β (Op.addrCmp op a b) (Op.addrCmp op A B):=by
 unfold Op.addrCmp;refine SemR.bnd (rel_twoPlaces ha hb) λδ hd x X e=>?_
 cases e;obtain⟨x,y⟩:=x;cases op<;>first | exact .pur (.bool _) | exact .unsup trivial
theorem rel_addrMod {k:IntKind}{a A:Addr}{n:Int}(ha:AR β a A):SemR P FN (VR FN) β (Op.addrMod k a n) (Op.addrMod k A n):=by
 unfold Op.addrMod;refine .shape ha.1 λx=>?_
 cases x with
 | none=>exact .unsup trivial
 | some x=>
  obtain⟨e,m⟩:=x;simp only[Sem.bind];refine SemR.same_bind (rel_typeInfo e) λδ hd i=>?_
  split
  ·exact .dead (Dead.bind (dead_unsup (by exact trivial)) _)
  ·exact SemR.bnd (rel_byteOf (ha.mono hd)) λε he y Y e=>by cases e;exact .pur (.int _ _)
def PtrR:Ren P.globals.size->Value->Value->Prop:=λβ v V=>(v=.pointer none/\V=.pointer none)\/∃a A,v=.pointer (some a)/\V=.pointer (some A)/\AR β a A
theorem rel_unsafeAdd {t:TypeId}{x X y Y:Value}(hx:VR FN β x X)(hy:VR FN β y Y):SemR P FN (PtrR) β (Builtin.unsafeAdd_ #[] t #[x,y]) (Builtin.unsafeAdd_ #[] t #[X,Y]):=by
 unfold Builtin.unsafeAdd_;cases hx with
 | ptr0=>
  refine SemR.bnd (rel_asInt hy) λδ hd n N e=>?_
  cases e;by_cases h0:n=0
  ·simp only[h0,if_true];exact .dead (Dead.bind (dead_unsup (by exact trivial)) _)
  ·simp only[h0,if_false];by_cases h1:n<0
   ·simp only[h1,if_true];exact .dead (Dead.bind (dead_unsup (by exact trivial)) _)
   ·simp only[h1,if_false];exact .unsup (by exact trivial)
 | @ptr a A ha=>
  refine SemR.bnd (rel_asInt hy) λδ hd n N e=>?_
  cases e;have ha':=ha.mono hd;by_cases h0:n=0
  ·simp only[h0,if_true];refine SemR.bnd (rel_viewAt ha'.1) λε he x X e=>?_
   obtain⟨rfl,rfl⟩:=e;exact .pur (.inr ⟨a,A,rfl,rfl,ha'.mono he⟩)
  ·simp only[h0,if_false];by_cases h1:n<0
   ·simp only[h1,if_true];exact .dead (Dead.bind (dead_unsup (by exact trivial)) _)
   ·simp only[h1,if_false];refine .shape ha'.1 λx=>?_
    cases x with
    | none=>exact .unsup (by exact trivial)
    | some x=>
     obtain⟨e,m⟩:=x;refine .program ?_;simp only[Sem.bind];rw[ha.2.1];cases cellAtBytes P P.depth e (m/P.cellsOf e) a.off n with
     | none=>exact .unsup (by exact trivial)
     | some off=>exact .pur (.inr ⟨_,_,rfl,rfl,ha'.1,rfl,ha.2.2⟩)
 | _=>exact .stuck_
theorem rel_asNumber {a A:Addr}{l:Bool}(ha:AR β a A):SemR P FN (VR FN) β (asNumber a l) (asNumber A l):=by
 unfold asNumber;refine .new ⟨ha,rfl⟩ λr R hr=>?_
 exact .pure (.ptr ⟨Ren.ext_same _ _ _ hr,rfl,rfl⟩)
theorem rel_movedNumber {t:TypeId}{x X y Y:Value}(hx:VR FN β x X)(hy:VR FN β y Y):SemR P FN (VR FN) β (movedNumber t x y) (movedNumber t X Y):=by
 unfold movedNumber;refine SemR.same_bind (rel_underlying t) λδ hd d=>?_
 have key:SemR P FN (VR FN) δ
   (do
    let .pointer (some n):=x | Builtin.unsafeAdd_ #[] t #[x,y]
    let (a,lost) ←behindNumber n
    match ←Builtin.unsafeAdd_ #[] t #[.pointer (some a),y] with
    | .pointer (some b)=>asNumber b lost
    | v=>pure v)
   (do
    let .pointer (some n):=X | Builtin.unsafeAdd_ #[] t #[X,Y]
    let (a,lost) ←behindNumber n
    match ←Builtin.unsafeAdd_ #[] t #[.pointer (some a),Y] with
    | .pointer (some b)=>asNumber b lost
    | v=>pure v):=by
  have hx':=hx.mono hd;have hy':=hy.mono hd;have toV:∀{ε:Ren P.globals.size} {s S:Sem Value},SemR P FN (PtrR) ε s S->SemR P FN (VR FN) ε s S:=λh=>by
   have:=SemR.bind (RB:=VR FN) (f:=Sem.pure) (F:=Sem.pure) h λε he v V e=>by
    rcases e with⟨rfl,rfl⟩|⟨a,A,rfl,rfl,ha⟩
    ·exact .pure .ptr0
    ·exact .pure (.ptr ha)
   rwa [Sem.bind_pure',Sem.bind_pure'] at this
  cases hx' with
  | @ptr n N hn=>
   refine SemR.bnd (rel_behindNumber hn) λε he p Q e=>?_
   obtain⟨p1,p2⟩:=p;obtain⟨q1,q2⟩:=Q;obtain⟨e1,e2⟩:=e;simp only at e1 e2;subst e2;refine SemR.bnd (rel_unsafeAdd (.ptr e1) (hy'.mono he)) λζ hz v V e=>?_
   rcases e with⟨rfl,rfl⟩|⟨b,B,rfl,rfl,hb⟩
   ·exact .pur .ptr0
   ·exact rel_asNumber hb
  | junk h=>
   show SemR P FN (VR FN) δ (Builtin.unsafeAdd_ #[] t #[.map (some 0),y]) _;unfold Builtin.unsafeAdd_;exact .stuck_
  | _=>exact toV (rel_unsafeAdd (hx.mono hd) hy')
 cases d with
 | unsafePointer=>exact SemR.dead (Dead.halt (h:=.unsupported (.unsafePointer "arithmetic at a pointer's type")) trivial)
 | _=>exact key
theorem rel_intArith {op:BinOp}{k:IntKind}{x y:Int}:SemR P FN (VR FN) β (Op.intArith op k x y) (Op.intArith op k x y):=by
 unfold Op.intArith;cases op<;>first | exact .pur (.int _ _) | exact .stuck_
theorem rel_intDiv {op:BinOp}{k:IntKind}{x y:Int}:SemR P FN (VR FN) β (Op.intDiv op k x y) (Op.intDiv op k x y):=by
 unfold Op.intDiv;split
 ·exact .rtp
 ·cases op<;>first | exact .pur (.int _ _) | exact .stuck_
theorem rel_intBits {op:BinOp}{k:IntKind}{x y:Int}:SemR P FN (VR FN) β (Op.intBits op k x y) (Op.intBits op k x y):=by
 unfold Op.intBits;cases op<;>first | exact .pur (.int _ _) | exact .stuck_
theorem rel_intCmp {op:BinOp}{x y:Int}:SemR P FN (VR FN) β (Op.intCmp op x y) (Op.intCmp op x y):=by
 unfold Op.intCmp;cases op<;>first | exact .pur (.bool _) | exact .stuck_
theorem rel_shift {op:BinOp}{k yk:IntKind}{x y:Int}:SemR P FN (VR FN) β (Op.shift op k x yk y) (Op.shift op k x yk y):=by
 unfold Op.shift;split
 ·exact .rtp
 ·cases op<;>first | exact .pur (.int _ _) | exact .stuck_
end
end Go.Fw
end
section
/- The operations of the model, one by one, continued: binary operations. -/
namespace Go.Fw
open Go
section
variable {P:Program} {FN:FuncId->Bool} {β:Ren P.globals.size}
def intT (P:Program)(t:TypeId):Bool:=match P.underlying t with
 | some (.int _) | some .bool=>true
 | none=>true
 | _=>false
theorem rel_und' {t:TypeId}{γ:Type}{RB:Ren P.globals.size->γ->γ->Prop}{f F:TypeDesc->Sem γ}(h:∀δ,β.le δ->∀d,P.underlying t=some d->SemR P FN RB δ (f d) (F d)) :
  SemR P FN RB β (underlying t >>= f) (underlying t >>= F):=
 SemR.bnd (rel_und t) λδ hd d D e=>by obtain⟨rfl,hu⟩:=e;exact h δ hd d hu
theorem rel_eq_int {t:TypeId}{x X y Y:Value}(ht:intT P t=true)(hx:VR FN β x X)(hy:VR FN β y Y):SemR P FN Eq2 β (Op.equal t x y) (Op.equal t X Y):=by
 unfold Op.equal;rw[show Op.maxDepth=9999+1 from rfl,Op.equalIn,Op.equalIn];refine rel_und' λδ hd d hu=>?_
 unfold intT at ht;rw[hu] at ht;have hx':=hx.mono hd;have hy':=hy.mono hd;cases d with
 | bool=>cases hx'<;>cases hy'<;>first | exact .pur rfl | exact .stuck_
 | int k=>
  cases hx' with
  | int k1 a=>
   cases hy' with
   | int k2 b=>
    show SemR P FN Eq2 δ (if _ then _ else _) (if _ then _ else _);split
    ·exact .pur rfl
    ·exact .stuck_
   | ptr hb=>
    cases a with
    | ofNat n=>cases n with
     | zero=>exact .pur rfl
     | succ n=>exact .unsup (by exact trivial)
    | negSucc n=>exact .unsup (by exact trivial)
   | ptr0=>exact .unsup (by exact trivial)
   | _=>exact .stuck_
  | ptr0=>cases hy'<;>exact .unsup (by exact trivial)
  | @ptr a A ha=>
   cases hy' with
   | int k2 b=>
    cases b with
    | ofNat n=>cases n with
     | zero=>exact .pur rfl
     | succ n=>exact .unsup (by exact trivial)
    | negSucc n=>exact .unsup (by exact trivial)
   | @ptr b B hb=>
    refine SemR.bnd (rel_behindNumber ha) λε he p Q e1=>?_
    obtain⟨p1,p2⟩:=p;obtain⟨q1,q2⟩:=Q;obtain⟨e1,e2⟩:=e1;simp only at e1 e2;refine SemR.bnd (rel_behindNumber (hb.mono he)) λζ hz r R e3=>?_
    obtain⟨r1,r2⟩:=r;obtain⟨s1,s2⟩:=R;obtain⟨e3,e4⟩:=e3;simp only at e3 e4;have e1':=e1.mono hz;refine .program ?_;show SemR P FN Eq2 ζ (Sem.bind (.pure P) _) (Sem.bind (.pure P) _);simp only[Sem.bind];have c1:(p1.block == r1.block && decide (p1.block<P.globals.size))=(q1.block == s1.block && decide (q1.block<P.globals.size)):=by
     rw[blk_eq e1' e3,decide_eq_decide.2 (blk_lt e1')]
    simp only[c1];split
    ·refine SemR.bnd (rel_byteOf e1') λη hη m M e5=>?_
     cases e5;refine SemR.bnd (rel_byteOf (e3.mono hη)) λθ hθ n N e6=>?_
     cases e6;exact .pur rfl
    ·refine SemR.same_bind (rel_typeInfo t) λη hη i=>?_
     split
     ·rw[addr_eq e1' e3];split
      ·exact .pur rfl
      ·exact .unsup (by exact trivial)
     ·exact .unsup (by exact trivial)
   | _=>exact .unsup (by exact trivial)
  | _=>cases hy'<;>first | exact .stuck_ | exact .unsup (by exact trivial)
 | _=>cases ht
def nilT (P:Program)(t:TypeId):Bool:=match P.underlying t with
 | some (.pointer _) | some (.slice _) | some (.func _ _ _) | some (.interface _)=>true
 | none=>true
 | _=>false
def nilV:Value->Bool
 | .pointer none | .slice none _ _ | .nilFunc | .nilIface=>true
 | _=>false
theorem rel_eq_nil {t:TypeId}{x X y:Value}(ht:nilT P t=true)(hx:VR FN β x X)(hy:nilV y=true):SemR P FN Eq2 β (Op.equal t x y) (Op.equal t X y):=by
 unfold Op.equal;rw[show Op.maxDepth=9999+1 from rfl,Op.equalIn,Op.equalIn];refine rel_und' λδ hd d hu=>?_
 unfold nilT at ht;rw[hu] at ht;have hx':=hx.mono hd;unfold nilV at hy;split at hy<;>first | (cases hy;done) | skip
 all_goals (cases d<;>first | (cases ht;done) | (cases hx'<;>first | exact .pur rfl | exact .stuck_))
theorem und_left {α:Type}{RB:Ren P.globals.size->α->α->Prop}{t:TypeId}{f:TypeDesc->Sem α}{S:Sem α}(h:∀d,P.underlying t=some d->SemR P FN RB β (f d) S):SemR P FN RB β (underlying t >>= f) S:=by
 refine .progL ?_;show SemR P FN RB β (Sem.bind (Sem.bind (.pure P) _) _) S;simp only[Sem.bind];cases hd:P.underlying t with
 | none=>exact .dead (Dead.bind (dead_stuck _) _)
 | some d=>exact h d hd
theorem assoc_left {α γ δ:Type}{RB:Ren P.globals.size->δ->δ->Prop}{s:Sem α}{f:α->Sem γ}{g:γ->Sem δ}{S:Sem δ}(h:SemR P FN RB β (s >>= λx=>f x >>= g) S):SemR P FN RB β ((s >>= f) >>= g) S:=by
 rwa [show ((s >>= f) >>= g)=(s >>= λx=>f x >>= g) from bind_assoc s f g]
theorem eqJ_l {α:Type}{RB:Ren P.globals.size->α->α->Prop}{t:TypeId}{y:Value}{g:Bool->Sem α}{S:Sem α}(ht:intT P t=true):SemR P FN RB β (Op.equal t (.map (some 0)) y >>= g) S:=by
 unfold Op.equal;rw[show Op.maxDepth=9999+1 from rfl,Op.equalIn];refine assoc_left (und_left λd hu=>?_);unfold intT at ht;rw[hu] at ht;cases d<;>first | (cases ht;done) | (cases y<;>first | exact .dead (Dead.bind (dead_stuck _) _) | exact .dead (Dead.bind (Dead.halt (h:=.unsupported .addressObserved) trivial) _))
theorem eqJ_r {α:Type}{RB:Ren P.globals.size->α->α->Prop}{t:TypeId}{x:Value}{g:Bool->Sem α}{S:Sem α}(ht:intT P t=true):SemR P FN RB β (Op.equal t x (.map (some 0)) >>= g) S:=by
 unfold Op.equal;rw[show Op.maxDepth=9999+1 from rfl,Op.equalIn];refine assoc_left (und_left λd hu=>?_);unfold intT at ht;rw[hu] at ht;cases d<;>first
  | (cases ht;done)
  |(cases x with
    | pointer a=>cases a<;>(first | exact .dead (Dead.bind (dead_stuck _) _) | exact .dead (Dead.bind (Dead.halt (h:=.unsupported .addressObserved) trivial) _))
    | _=>first | exact .dead (Dead.bind (dead_stuck _) _) | exact .dead (Dead.bind (Dead.halt (h:=.unsupported .addressObserved) trivial) _))
theorem eqJ_n {α:Type}{RB:Ren P.globals.size->α->α->Prop}{t:TypeId}{y:Value}{g:Bool->Sem α}{S:Sem α}(ht:nilT P t=true)(hy:nilV y=true):SemR P FN RB β (Op.equal t (.map (some 0)) y >>= g) S:=by
 unfold Op.equal;rw[show Op.maxDepth=9999+1 from rfl,Op.equalIn];refine assoc_left (und_left λd hu=>?_);unfold nilT at ht;rw[hu] at ht;unfold nilV at hy;split at hy<;>first | (cases hy;done) | skip
 all_goals (cases d<;>first | (cases ht;done) | exact .dead (Dead.bind (dead_stuck _) _))
theorem eqGuard_opq {op:BinOp}{t:TypeId}{x y:Operand}{a b:Value}(h:opaqueV a=true\/opaqueV b=true):eqGuard op t x y a b=Pure.pure ():=by
 rcases h with h|h
 ·cases op<;>first | rfl | (cases a<;>first | (cases h;done) | rfl)
 ·cases op<;>first | rfl | (cases a<;>first | rfl | (cases b<;>first | (cases h;done) | rfl))
theorem rel_eqGuardIn {t:TypeId}{x X y Y:Value}(ht:intT P t=true):SemR P FN Eq2 β (Op.eqGuardIn Op.maxDepth t x y) (Op.eqGuardIn Op.maxDepth t X Y):=by
 rw[show Op.maxDepth=9999+1 from rfl,Op.eqGuardIn,Op.eqGuardIn];refine rel_und' λδ hd d hu=>?_
 unfold intT at ht;rw[hu] at ht;cases d<;>first | (cases ht;done) | exact .pur rfl
theorem rel_guardTail {t:TypeId}{why:String}{x X y Y:Value}(ht:intT P t=true) :
  SemR P FN Eq2 β (do if ←Op.eqGuardIn Op.maxDepth t x y then unsupported (.noEntry why)) (do if ←Op.eqGuardIn Op.maxDepth t X Y then unsupported (.noEntry why)):=by
 refine SemR.bnd (rel_eqGuardIn ht) λδ hd c C e=>?_
 cases e;cases c
 ·exact .pur rfl
 ·exact .unsup (by exact trivial)
theorem rel_guardAgg {t:TypeId}{why:String}{x X y Y:Value}(ht:intT P t=true) :
  SemR P FN Eq2 β
   (do
    if !(←program).eqGuardType (←program).depth t then return
    if ←Op.eqGuardIn Op.maxDepth t x y then unsupported (.noEntry why))
   (do
    if !(←program).eqGuardType (←program).depth t then return
    if ←Op.eqGuardIn Op.maxDepth t X Y then unsupported (.noEntry why)):=by
 refine .program ?_;show SemR P FN Eq2 β (Sem.bind (.pure P) _) (Sem.bind (.pure P) _);simp only[Sem.bind];refine .program ?_;show SemR P FN Eq2 β (Sem.bind (.pure P) _) (Sem.bind (.pure P) _);simp only[Sem.bind];cases P.eqGuardType P.depth t
 ·exact .pur rfl
 ·exact rel_guardTail ht
theorem rel_eqGuard_int {op:BinOp}{t:TypeId}{x y:Operand}{a A b B:Value}(ht:intT P t=true)(ha:VR FN β a A)(hb:VR FN β b B) :
  SemR P FN Eq2 β (eqGuard op t x y a b) (eqGuard op t x y A B):=by
 have key:∀op,(op=.eql\/op=.neq)->SemR P FN Eq2 β (eqGuard op t x y a b) (eqGuard op t x y A B):=by
  rintro op (rfl|rfl);all_goals
   cases ha<;>cases hb<;>first
    | exact .pur rfl
    | exact rel_guardAgg ht
    | (rw[eqGuard_opq (.inl rfl),eqGuard_opq (.inl (by assumption))];exact .pur rfl)
    | (rw[eqGuard_opq (.inr rfl),eqGuard_opq (.inr (by assumption))];exact .pur rfl)
    | (cases x<;>cases y<;>first | exact .pur rfl | exact rel_guardTail ht)
 cases op<;>first | exact .pur rfl | exact key _ (.inl rfl) | exact key _ (.inr rfl)
theorem rel_eqGuard_nil {op:BinOp}{t:TypeId}{x:Operand}{a A b:Value}(ha:VR FN β a A)(hb:nilV b=true) :
  SemR P FN Eq2 β (eqGuard op t x (.const b) a b) (eqGuard op t x (.const b) A b):=by
 have key:∀op,(op=.eql\/op=.neq)->SemR P FN Eq2 β (eqGuard op t x (.const b) a b) (eqGuard op t x (.const b) A b):=by
  unfold nilV at hb;rintro op (rfl|rfl);all_goals
   split at hb<;>first | (cases hb;done) | skip
   all_goals (cases ha<;>first | exact .pur rfl | (rw[eqGuard_opq (.inl rfl),eqGuard_opq (.inl (by assumption))];exact .pur rfl) | (cases x<;>exact .pur rfl))
 cases op<;>first | exact .pur rfl | exact key _ (.inl rfl) | exact key _ (.inr rfl)
theorem rel_stringOp {op:BinOp}{x y:ByteArray}:SemR P FN (VR FN) β (Op.stringOp op x y) (Op.stringOp op x y):=by
 unfold Op.stringOp;cases op with
 | add=>
  show SemR P FN (VR FN) β (if _ then _ else _) (if _ then _ else _);split
  ·exact .unsup (by exact trivial)
  ·exact .pur (.string _)
 | eql=>show SemR P FN (VR FN) β (Pure.pure (Value.bool _)) (Pure.pure (Value.bool _));exact .pur (.bool _)
 | neq=>show SemR P FN (VR FN) β (Pure.pure (Value.bool _)) (Pure.pure (Value.bool _));exact .pur (.bool _)
 | lss=>show SemR P FN (VR FN) β (Pure.pure (Value.bool _)) (Pure.pure (Value.bool _));exact .pur (.bool _)
 | leq=>show SemR P FN (VR FN) β (Pure.pure (Value.bool _)) (Pure.pure (Value.bool _));exact .pur (.bool _)
 | gtr=>show SemR P FN (VR FN) β (Pure.pure (Value.bool _)) (Pure.pure (Value.bool _));exact .pur (.bool _)
 | geq=>show SemR P FN (VR FN) β (Pure.pure (Value.bool _)) (Pure.pure (Value.bool _));exact .pur (.bool _)
 | _=>exact .stuck_
theorem rel_binOp_ii {op:BinOp}{t:TypeId}{k k':IntKind}{a b:Int}:SemR P FN (VR FN) β (binOp op t (.int k a) (.int k' b)) (binOp op t (.int k a) (.int k' b)):=by
 cases op with
 | shl=>exact rel_shift (op:=.shl) (k:=k) (yk:=k') (x:=a) (y:=b)
 | shr=>exact rel_shift (op:=.shr) (k:=k) (yk:=k') (x:=a) (y:=b)
 | _=>
  show SemR P FN (VR FN) β (if _ then _ else _) (if _ then _ else _);split
  ·exact .stuck_
  ·first | exact rel_intArith | exact rel_intDiv | exact rel_intBits | exact rel_intCmp
theorem rel_binOp_ss {op:BinOp}{t:TypeId}{a b:ByteArray}:SemR P FN (VR FN) β (binOp op t (.string a) (.string b)) (binOp op t (.string a) (.string b)):=by
 cases op<;>first | exact rel_stringOp (op:=.add) (x:=a) (y:=b) | exact rel_stringOp (op:=.eql) (x:=a) (y:=b) | exact rel_stringOp (op:=.neq) (x:=a) (y:=b) | exact rel_stringOp (op:=.lss) (x:=a) (y:=b) | exact rel_stringOp (op:=.leq) (x:=a) (y:=b) | exact rel_stringOp (op:=.gtr) (x:=a) (y:=b) | exact rel_stringOp (op:=.geq) (x:=a) (y:=b) | exact .stuck_
theorem rel_boolOf {s S:Sem Bool}(h:SemR P FN Eq2 β s S):SemR P FN (VR FN) β (do pure (.bool (←s))) (do pure (.bool (←S))):=
 SemR.bnd h λδ hd a A e=>by cases e;exact .pur (.bool _)
theorem rel_boolOfN {s S:Sem Bool}(h:SemR P FN Eq2 β s S):SemR P FN (VR FN) β (do pure (.bool (!(←s)))) (do pure (.bool (!(←S)))):=
 SemR.bnd h λδ hd a A e=>by cases e;exact .pur (.bool _)
theorem rel_behind2 {γ:Type}{RB:Ren P.globals.size->γ->γ->Prop}{a A:Addr}{f F:Addr × Bool->Sem γ}(ha:AR β a A)
  (h:∀δ,β.le δ->∀(p q:Addr × Bool),AR δ p.1 q.1->SemR P FN RB δ (f p) (F q)):SemR P FN RB β (behindNumber a >>= f) (behindNumber A >>= F):=
 SemR.bnd (rel_behindNumber ha) λδ hd p q e=>h δ hd p q e.1
theorem rel_binOp_eql {t:TypeId}{x X y Y:Value}(ht:intT P t=true)(hx:VR FN β x X)(hy:VR FN β y Y):SemR P FN (VR FN) β (binOp .eql t x y) (binOp .eql t X Y):=by
 have h:=rel_boolOf (rel_eq_int ht hx hy);cases hx with
 | int k a=>cases hy with
  | int k' b=>exact rel_binOp_ii
  | junk hj=>exact eqJ_r ht
  | _=>exact h
 | string a=>cases hy with
  | string b=>exact rel_binOp_ss
  | junk hj=>exact eqJ_r ht
  | _=>exact h
 | junk hj=>cases hy<;>exact eqJ_l ht
 | _=>cases hy<;>first | exact h | exact eqJ_r ht
theorem rel_binOp_neq {t:TypeId}{x X y Y:Value}(ht:intT P t=true)(hx:VR FN β x X)(hy:VR FN β y Y):SemR P FN (VR FN) β (binOp .neq t x y) (binOp .neq t X Y):=by
 have h:=rel_boolOfN (rel_eq_int ht hx hy);cases hx with
 | int k a=>cases hy with
  | int k' b=>exact rel_binOp_ii
  | junk hj=>exact eqJ_r ht
  | _=>exact h
 | string a=>cases hy with
  | string b=>exact rel_binOp_ss
  | junk hj=>exact eqJ_r ht
  | _=>exact h
 | junk hj=>cases hy<;>exact eqJ_l ht
 | _=>cases hy<;>first | exact h | exact eqJ_r ht
theorem rel_binOp_nil {op:BinOp}(hop:op=.eql\/op=.neq){t:TypeId}{x X y:Value}(ht:nilT P t=true)(hx:VR FN β x X)(hy:nilV y=true):SemR P FN (VR FN) β (binOp op t x y) (binOp op t X y):=by
 have h1:=rel_boolOf (rel_eq_nil ht hx hy);have h2:=rel_boolOfN (rel_eq_nil ht hx hy);unfold nilV at hy;rcases hop with rfl|rfl
 ·split at hy<;>first | (cases hy;done) | skip
  all_goals (cases hx<;>first | exact h1 | exact eqJ_n ht rfl)
 ·split at hy<;>first | (cases hy;done) | skip
  all_goals (cases hx<;>first | exact h2 | exact eqJ_n ht rfl)
theorem rel_binOp_num {op:BinOp}(h1:op≠.eql)(h2:op≠.neq){t:TypeId}{x X y Y:Value}(ht:intT P t=true)(hx:VR FN β x X)(hy:VR FN β y Y):SemR P FN (VR FN) β (binOp op t x y) (binOp op t X Y):=by
 have hmn:∀{x X y Y:Value},VR FN β x X->VR FN β y Y->SemR P FN (VR FN) β (do if (←underlying t) matches .unsafePointer then movedPointer t x y else movedNumber t x y) (do if (←underlying t) matches .unsafePointer then movedPointer t X Y else movedNumber t X Y):=λhx hy=>by
  refine rel_und' λδ hd d hu=>?_
  unfold intT at ht;rw[hu] at ht;cases d<;>first | (cases ht;done) | exact rel_movedNumber (hx.mono hd) (hy.mono hd)
 cases op with
 | eql=>exact absurd rfl h1
 | neq=>exact absurd rfl h2
 | add=>
  cases hx with
  | int k a=>cases hy with
   | int k' b=>exact rel_binOp_ii
   | ptr0=>exact rel_movedNumber (t:=t) (x:=.pointer none) (X:=.pointer none) (y:=.int k a) (Y:=.int k a) .ptr0 (.int _ _)
   | @ptr b B hb=>exact rel_movedNumber (t:=t) (x:=.pointer (some b)) (X:=.pointer (some B)) (y:=.int k a) (Y:=.int k a) (.ptr hb) (.int _ _)
   | _=>exact .stuck_
  | ptr0=>cases hy with
   | int k b=>exact hmn .ptr0 (.int k b)
   | _=>exact .unsup (by exact trivial)
  | ptr ha=>cases hy with
   | int k b=>exact hmn (.ptr ha) (.int k b)
   | _=>exact .unsup (by exact trivial)
  | string a=>cases hy with
   | string b=>exact rel_binOp_ss
   | _=>first | exact .stuck_ | exact .unsup (by exact trivial)
  | _=>cases hy<;>first | exact .stuck_ | exact .unsup (by exact trivial)
 | sub=>
  cases hx with
  | int k a=>cases hy with
   | int k' b=>exact rel_binOp_ii
   | _=>first | exact .stuck_ | exact .unsup (by exact trivial)
  | ptr0=>cases hy with
   | int k b=>exact rel_movedNumber (t:=t) (x:=.pointer none) (X:=.pointer none) (y:=.int k (-b)) (Y:=.int k (-b)) .ptr0 (.int _ _)
   | _=>exact .unsup (by exact trivial)
  | @ptr a A ha=>cases hy with
   | int k b=>exact rel_movedNumber (t:=t) (x:=.pointer (some a)) (X:=.pointer (some A)) (y:=.int k (-b)) (Y:=.int k (-b)) (.ptr ha) (.int _ _)
   | @ptr b B hb=>exact rel_behind2 ha λδ hd p q h=>rel_behind2 (AR.mono hd hb) λε he r s h'=>rel_addrSub (h.mono he) h'
   | _=>exact .unsup (by exact trivial)
  | string a=>cases hy with
   | string b=>exact rel_binOp_ss
   | _=>first | exact .stuck_ | exact .unsup (by exact trivial)
  | _=>cases hy<;>first | exact .stuck_ | exact .unsup (by exact trivial)
 | lss=>
  cases hx with
  | int k a=>cases hy with
   | int k' b=>exact rel_binOp_ii
   | _=>first | exact .stuck_ | exact .unsup (by exact trivial)
  | @ptr a A ha=>cases hy with
   | @ptr b B hb=>exact rel_behind2 ha λδ hd p q h=>rel_behind2 (AR.mono hd hb) λε he r s h'=>rel_addrCmp (h.mono he) h'
   | _=>exact .unsup (by exact trivial)
  | string a=>cases hy with
   | string b=>exact rel_binOp_ss
   | _=>first | exact .stuck_ | exact .unsup (by exact trivial)
  | _=>cases hy<;>first | exact .stuck_ | exact .unsup (by exact trivial)
 | leq=>
  cases hx with
  | int k a=>cases hy with
   | int k' b=>exact rel_binOp_ii
   | _=>first | exact .stuck_ | exact .unsup (by exact trivial)
  | @ptr a A ha=>cases hy with
   | @ptr b B hb=>exact rel_behind2 ha λδ hd p q h=>rel_behind2 (AR.mono hd hb) λε he r s h'=>rel_addrCmp (h.mono he) h'
   | _=>exact .unsup (by exact trivial)
  | string a=>cases hy with
   | string b=>exact rel_binOp_ss
   | _=>first | exact .stuck_ | exact .unsup (by exact trivial)
  | _=>cases hy<;>first | exact .stuck_ | exact .unsup (by exact trivial)
 | gtr=>
  cases hx with
  | int k a=>cases hy with
   | int k' b=>exact rel_binOp_ii
   | _=>first | exact .stuck_ | exact .unsup (by exact trivial)
  | @ptr a A ha=>cases hy with
   | @ptr b B hb=>exact rel_behind2 ha λδ hd p q h=>rel_behind2 (AR.mono hd hb) λε he r s h'=>rel_addrCmp (h.mono he) h'
   | _=>exact .unsup (by exact trivial)
  | string a=>cases hy with
   | string b=>exact rel_binOp_ss
   | _=>first | exact .stuck_ | exact .unsup (by exact trivial)
  | _=>cases hy<;>first | exact .stuck_ | exact .unsup (by exact trivial)
 | geq=>
  cases hx with
  | int k a=>cases hy with
   | int k' b=>exact rel_binOp_ii
   | _=>first | exact .stuck_ | exact .unsup (by exact trivial)
  | @ptr a A ha=>cases hy with
   | @ptr b B hb=>exact rel_behind2 ha λδ hd p q h=>rel_behind2 (AR.mono hd hb) λε he r s h'=>rel_addrCmp (h.mono he) h'
   | _=>exact .unsup (by exact trivial)
  | string a=>cases hy with
   | string b=>exact rel_binOp_ss
   | _=>first | exact .stuck_ | exact .unsup (by exact trivial)
  | _=>cases hy<;>first | exact .stuck_ | exact .unsup (by exact trivial)
 | rem=>
  cases hx with
  | int k a=>cases hy with
   | int k' b=>exact rel_binOp_ii
   | _=>first | exact .stuck_ | exact .unsup (by exact trivial)
  | @ptr a A ha=>cases hy with
   | int k b=>exact rel_behind2 ha λδ hd p q h=>rel_addrMod h
   | _=>exact .unsup (by exact trivial)
  | string a=>cases hy with
   | string b=>exact rel_binOp_ss
   | _=>first | exact .stuck_ | exact .unsup (by exact trivial)
  | _=>cases hy<;>first | exact .stuck_ | exact .unsup (by exact trivial)
 | and=>
  cases hx with
  | int k a=>cases hy with
   | int k' b=>exact rel_binOp_ii
   | @ptr b B hb=>exact rel_behind2 hb λδ hd p q h=>rel_addrMod h
   | _=>first | exact .stuck_ | exact .unsup (by exact trivial)
  | @ptr a A ha=>cases hy with
   | int k b=>exact rel_behind2 ha λδ hd p q h=>rel_addrMod h
   | _=>exact .unsup (by exact trivial)
  | string a=>cases hy with
   | string b=>exact rel_binOp_ss
   | _=>first | exact .stuck_ | exact .unsup (by exact trivial)
  | _=>cases hy<;>first | exact .stuck_ | exact .unsup (by exact trivial)
 | _=>
  cases hx with
  | int k a=>cases hy with
   | int k' b=>exact rel_binOp_ii
   | _=>first | exact .stuck_ | exact .unsup (by exact trivial)
  | string a=>cases hy with
   | string b=>exact rel_binOp_ss
   | _=>first | exact .stuck_ | exact .unsup (by exact trivial)
  | _=>cases hy<;>first | exact .stuck_ | exact .unsup (by exact trivial)
end
end Go.Fw
end
section
/- The operations of the model, one by one, continued: unary operations, conversions, built-in functions, literals. -/
namespace Go.Fw
open Go
section
variable {P:Program} {FN:FuncId->Bool} {β:Ren P.globals.size}
theorem rel_unary {op:UnOp}{x X:Value}(hx:VR FN β x X):SemR P FN (VR FN) β (Op.unary op x) (Op.unary op X):=by
 cases op<;>cases hx<;>first | exact rel_intArith (op:=.sub) (x:=0) | exact rel_intBits (op:=.xor) | exact .pur (.bool _) | exact .stuck_ | exact .unsup (by exact trivial)
def convOk (P:Program)(s d:TypeId):Bool:=match P.underlying s,P.underlying d with
 | some (.int _),some (.int _)=>true
 | none,_ | _,none=>true
 | _,_=>false
theorem rel_convert {s d:TypeId}{x X:Value}(hok:convOk P s d=true)(hx:VR FN β x X):SemR P FN (VR FN) β (convert s d x) (convert s d X):=by
 unfold convert;refine rel_und' λδ hd a ha=>?_
 refine rel_und' λε he b hb=>?_
 unfold convOk at hok;rw[ha,hb] at hok;have hx':=(hx.mono hd).mono he;cases a<;>first | (cases hok;done) | skip
 cases b<;>first | (cases hok;done) | skip
 cases hx' with
 | int k n=>exact .pur (.int _ _)
 | ptr h=>exact .unsup (by exact trivial)
 | _=>exact .unsup (by exact trivial)
theorem rel_asBool {x X:Value}(hx:VR FN β x X):SemR P FN Eq2 β (asBool x) (asBool X):=by
 cases hx<;>first | exact .pur rfl | exact .stuck_
theorem rel_extract {x X:Value}(hx:VR FN β x X)(i:Nat):SemR P FN (VR FN) β (Instr.extract x i) (Instr.extract X i):=by
 unfold Instr.extract;cases hx with
 | @tuple xs XS h1 h2=>
  have h:ArrR FN β xs XS:=⟨h1,h2⟩;simp only;cases hi:xs[i]? with
  | none=>exact .stuck_
  | some v=>
   obtain⟨V,hV,hR⟩:=h.get hi;rw[hV];exact .pur hR
 | _=>exact .stuck_
theorem rel_makeInterface {t:TypeId}{x X:Value}(hx:VR FN β x X):SemR P FN (VR FN) β (Instr.makeInterface t x) (Instr.makeInterface t X):=by
 unfold Instr.makeInterface;refine rel_und' λδ hd a ha=>?_
 cases a<;>first | exact .stuck_ | exact .pur (.iface _ (hx.mono hd))
theorem rel_part {t:TypeId}{xs XS:Array Value}(h:ArrR FN β xs XS)(off:Nat):SemR P FN (VR FN) β (part t xs off) (part t XS off):=by
 unfold part;refine SemR.same_bind (rel_isAgg t) λδ hd b=>?_
 cases b with
 | true=>
  refine SemR.same_bind (rel_sizeOf t) λε he n=>?_
  exact .pur (VR.agg' (((h.mono hd).mono he).extract _ _))
 | false=>
  simp only[Bool.false_eq_true,if_false];cases hi:xs[off]? with
  | none=>exact .stuck_
  | some v=>
   obtain⟨V,hV,hR⟩:=h.get hi;rw[hV];exact .pur (hR.mono hd)
theorem rel_asAgg {x X:Value}(hx:VR FN β x X):SemR P FN (ArrR' FN) β (asAgg x) (asAgg X):=by
 cases hx with
 | agg h1 h2=>exact .pur ⟨h1,h2⟩
 | _=>exact .stuck_
theorem rel_field {t:TypeId}{x X:Value}(hx:VR FN β x X)(i:Nat):SemR P FN (VR FN) β (Instr.field t x i) (Instr.field t X i):=by
 unfold Instr.field;refine rel_und' λδ hd a ha=>?_
 cases a with
 | struct fields=>
  simp only;cases fields[i]? with
  | none=>exact .stuck_
  | some f=>exact SemR.bnd (rel_asAgg (hx.mono hd)) λε he xs XS h=>rel_part h _
 | _=>exact .stuck_
theorem rel_index {t:TypeId}{x X i I:Value}(hx:VR FN β x X)(hi:VR FN β i I):SemR P FN (VR FN) β (Instr.index t x i) (Instr.index t X I):=by
 unfold Instr.index;refine SemR.bnd (rel_asIntOf hi) λδ hd k K e=>?_
 cases e;obtain⟨k,n⟩:=k;refine rel_und' λε he a ha=>?_
 have hx':=(hx.mono hd).mono he;cases a with
 | array len elem=>
  cases hx' with
  | agg h1 h2=>
   show SemR P FN (VR FN) ε (if _ then _ else _) (if _ then _ else _);split
   ·refine SemR.same_bind (rel_sizeOf elem) λζ hz m=>?_
    exact rel_part (ArrR.mono hz ⟨h1,h2⟩) _
   ·exact .bnp
  | _=>exact .stuck_
 | string=>
  cases hx' with
  | string s=>
   show SemR P FN (VR FN) ε (match (if 0<=n then s[n.toNat]? else none) with | some b=>pure (.int .u8 b.toNat) | none=>boundsPanic k n s.size .index) (match (if 0<=n then s[n.toNat]? else none) with | some b=>pure (.int .u8 b.toNat) | none=>boundsPanic k n s.size .index);cases (if 0<=n then s[n.toNat]? else none) with
   | none=>exact .bnp
   | some b=>exact .pur (.int _ _)
  | _=>exact .stuck_
 | _=>exact .stuck_
def seqT (P:Program)(t:TypeId):Bool:=match P.underlying t with
 | some (.slice _) | some .string | none=>true
 | _=>false
theorem rel_len {t ty:TypeId}{x X:Value}(hok:seqT P t=true)(hx:VR FN β x X):SemR P FN (VR FN) β (Builtin.len_ #[t] ty #[x]) (Builtin.len_ #[t] ty #[X]):=by
 unfold Builtin.len_;refine rel_und' (P:=P) (FN:=FN) (β:=β) λδ hd a ha=>?_
 have ha:P.underlying t=some a:=ha;unfold seqT at hok;rw[ha] at hok;have hx':=hx.mono hd;cases a<;>first | (cases hok;done) | (cases hx'<;>first | exact .pur (.int _ _) | exact .stuck_)
theorem rel_cap {t ty:TypeId}{x X:Value}(hok:seqT P t=true)(hx:VR FN β x X):SemR P FN (VR FN) β (Builtin.cap_ #[t] ty #[x]) (Builtin.cap_ #[t] ty #[X]):=by
 unfold Builtin.cap_;refine rel_und' (P:=P) (FN:=FN) (β:=β) λδ hd a ha=>?_
 have ha:P.underlying t=some a:=ha;unfold seqT at hok;rw[ha] at hok;have hx':=hx.mono hd;cases a<;>first | (cases hok;done) | (cases hx'<;>first | exact .pur (.int _ _) | exact .stuck_)
theorem rel_max2 {x X y Y:Value}(hx:VR FN β x X)(hy:VR FN β y Y):SemR P FN (VR FN) β (Builtin.max2 x y) (Builtin.max2 X Y):=by
 cases hx with
 | int k a=>cases hy with
  | int k b=>exact .pur (.int _ _)
  | ptr h=>exact .unsup (by exact trivial)
  | _=>exact .stuck_
 | ptr h=>cases hy<;>exact .unsup (by exact trivial)
 | string a=>cases hy with
  | string b=>
   refine SemR.bnd (rel_stringOp (op:=.geq)) λδ hd a A h=>?_
   refine SemR.bnd (rel_asBool h) λε he b B h=>?_
   cases h;exact .pur (.string _)
  | ptr h=>exact .unsup (by exact trivial)
  | _=>exact .stuck_
 | _=>cases hy with
  | ptr h=>exact .unsup (by exact trivial)
  | _=>exact .stuck_
theorem rel_min2 {x X y Y:Value}(hx:VR FN β x X)(hy:VR FN β y Y):SemR P FN (VR FN) β (Builtin.min2 x y) (Builtin.min2 X Y):=by
 cases hx with
 | int k a=>cases hy with
  | int k b=>exact .pur (.int _ _)
  | ptr h=>exact .unsup (by exact trivial)
  | _=>exact .stuck_
 | ptr h=>cases hy<;>exact .unsup (by exact trivial)
 | string a=>cases hy with
  | string b=>
   refine SemR.bnd (rel_stringOp (op:=.leq)) λδ hd a A h=>?_
   refine SemR.bnd (rel_asBool h) λε he b B h=>?_
   cases h;exact .pur (.string _)
  | ptr h=>exact .unsup (by exact trivial)
  | _=>exact .stuck_
 | _=>cases hy with
  | ptr h=>exact .unsup (by exact trivial)
  | _=>exact .stuck_
theorem rel_foldM {f:Value->Value->Sem Value}(hf:∀{β:Ren P.globals.size} {x X y Y},VR FN β x X->VR FN β y Y->SemR P FN (VR FN) β (f x y) (f X Y)) :
  ∀{l L:List Value} {β:Ren P.globals.size} {x X:Value},LstR FN β l L->VR FN β x X->SemR P FN (VR FN) β (l.foldlM f x) (L.foldlM f X)
 | [],[],_,_,_,_,hx=>.pur hx
 | v :: l,V :: L,β,x,X,h,hx=>by
  simp only[List.foldlM_cons];exact SemR.bnd (hf hx h.1) λδ hd a A ha=>rel_foldM hf (h.2.mono hd) ha
 | [],_ :: _,_,_,_,h,_=>h.elim
 | _ :: _,[],_,_,_,h,_=>h.elim
theorem rel_max {ts:Array TypeId}{ty:TypeId}{xs XS:Array Value}(h:ArrR FN β xs XS):SemR P FN (VR FN) β (Builtin.max_ ts ty xs) (Builtin.max_ ts ty XS):=by
 unfold Builtin.max_;have hl:=h.list;revert hl
 cases xs.toList<;>cases XS.toList<;>intro hl<;>first | exact .stuck_ | exact hl.elim | exact rel_foldM rel_max2 hl.2 hl.1
theorem rel_min {ts:Array TypeId}{ty:TypeId}{xs XS:Array Value}(h:ArrR FN β xs XS):SemR P FN (VR FN) β (Builtin.min_ ts ty xs) (Builtin.min_ ts ty XS):=by
 unfold Builtin.min_;have hl:=h.list;revert hl
 cases xs.toList<;>cases XS.toList<;>intro hl<;>first | exact .stuck_ | exact hl.elim | exact rel_foldM rel_min2 hl.2 hl.1
def FcOk (x:Value)(n:Nat):Prop:=∀a,x=.slice (some a) 0 0->n=0
theorem rel_lenOf2 {x X:Value}(hx:VR FN β x X):SemR P FN (λ_ a A=>a=A/\FcOk x a) β (Builtin.lenOf x) (Builtin.lenOf X):=by
 cases hx<;>first | exact .stuck_ | exact .pur ⟨rfl,λa e=>by cases e<;>rfl⟩
theorem ArrR.bytes {γ:Ren P.globals.size}(s:ByteArray):ArrR FN γ (s.data.map λb=>Value.int .u8 b.toNat) (s.data.map λb=>Value.int .u8 b.toNat):=by
 refine⟨rfl,λi x X hx hX=>?_⟩;rw[hx] at hX;cases hX;simp only[Array.getElem?_map,Option.map_eq_some_iff] at hx;obtain⟨b,_,rfl⟩:=hx;exact .int _ _
theorem rel_firstCells {x X:Value}(hx:VR FN β x X)(size n:Nat)(hn:FcOk x n):SemR P FN (ArrR' FN) β (Builtin.firstCells size n x) (Builtin.firstCells size n X):=by
 cases hx with
 | slice l c ha=>exact rel_loadCells ha _
 | sliceE a A=>
  obtain rfl:=hn a rfl;unfold Builtin.firstCells;simp only[Nat.zero_mul];exact .pur ArrR.nil
 | slice0 l c=>exact .pur ArrR.nil
 | string s=>exact .pur (ArrR.bytes _)
 | _=>exact .stuck_
theorem rel_noCells {v V:Value}(hv:VR FN β v V)(m:Nat):SemR P FN (λ_ a A=>a=#[]/\A=#[]) β (Builtin.firstCells m 0 v) (Builtin.firstCells m 0 V):=by
 cases hv with
 | slice l c ha=>unfold Builtin.firstCells;simp only[Nat.zero_mul];exact .pur ⟨rfl,rfl⟩
 | sliceE a A=>unfold Builtin.firstCells;simp only[Nat.zero_mul];exact .pur ⟨rfl,rfl⟩
 | slice0 l c=>exact .pur ⟨rfl,rfl⟩
 | string s=>
  have e:((s.extract 0 0).data.map λb=>Value.int .u8 b.toNat)=#[]:=by
   apply Array.eq_empty_of_size_eq_zero;simp
  exact .pur ⟨e,e⟩
 | _=>exact .stuck_
theorem rel_copy {t ty t':TypeId}{x X y Y:Value}(hx:VR FN β x X)(hy:VR FN β y Y):SemR P FN (VR FN) β (Builtin.copy_ #[t,t'] ty #[x,y]) (Builtin.copy_ #[t,t'] ty #[X,Y]):=by
 unfold Builtin.copy_;refine rel_und' (P:=P) (FN:=FN) (β:=β) λδ hd a ha=>?_
 cases a with
 | slice elem=>
  have hx':=hx.mono hd;have hy':=hy.mono hd;cases hx' with
  | slice0 l c=>
   refine SemR.bnd (rel_lenOf2 hy') λε he n N e=>?_
   obtain⟨rfl,hfc⟩:=e;refine SemR.same_bind (rel_sizeOf elem) λζ hz m=>?_
   refine SemR.bnd (rel_firstCells ((hy'.mono he).mono hz) _ _ (λa e=>by have h1:=hfc a e;have h2:Nat.min n l<=n:=Nat.min_le_left n l;omega)) λη hη cs CS hc=>?_
   exact .pur (.int _ _)
  | sliceE a A=>
   refine SemR.bnd (rel_lenOf2 hy') λε he n N e=>?_
   obtain⟨rfl,hfc⟩:=e;refine SemR.same_bind (rel_sizeOf elem) λζ hz m=>?_
   have hy2:=(hy'.mono he).mono hz;rw[show Nat.min n 0=0 from Nat.min_zero n];refine SemR.bnd (rel_noCells hy2 m) λη hη cs CS hc=>?_
   obtain⟨rfl,rfl⟩:=hc;exact .pur (.int _ _)
  | slice l c hA=>
   refine SemR.bnd (rel_lenOf2 hy') λε he n N e=>?_
   obtain⟨rfl,hfc⟩:=e;refine SemR.same_bind (rel_sizeOf elem) λζ hz m=>?_
   refine SemR.bnd (rel_firstCells ((hy'.mono he).mono hz) _ _ (λa e=>by have h1:=hfc a e;have h2:Nat.min n l<=n:=Nat.min_le_left n l;omega)) λη hη cs CS hc=>?_
   refine SemR.bnd (rel_storeCells (((hA.mono he).mono hz).mono hη) (ArrR.list hc)) λθ hθ _ _ _=>?_
   exact .pur (.int _ _)
  | _=>exact .stuck_
 | _=>exact .stuck_
theorem zeroCells_eq (z:Array Value)(n:Nat):Builtin.zeroCells z n=(Array.range (n*z.size)).map (z[· % z.size]!):=rfl
theorem ArrR.zeroCells {z Z:Array Value}(h:ArrR FN β z Z)(n:Nat):ArrR FN β (Builtin.zeroCells z n) (Builtin.zeroCells Z n):=by
 rw[zeroCells_eq,zeroCells_eq,←h.1];have:=ArrR.ofFn_mod h (n*z.size) (by by_cases h0:z.size=0;exact .inr (by rw[h0];simp);exact .inl h0);rwa [←h.1] at this
def sliceZeroOk (P:Program)(t:TypeId):Bool:=match P.underlying t with
 | some (.slice e)=>zeroOk P e
 | _=>true
theorem rel_clear {t ty:TypeId}{x X:Value}(hok:sliceZeroOk P t=true)(hx:VR FN β x X):SemR P FN (VR FN) β (Builtin.clear_ #[t] ty #[x]) (Builtin.clear_ #[t] ty #[X]):=by
 unfold Builtin.clear_;refine rel_und' (P:=P) (FN:=FN) (β:=β) λδ hd a ha=>?_
 have ha:P.underlying t=some a:=ha;unfold sliceZeroOk at hok;rw[ha] at hok;have hx':=hx.mono hd;have fin:∀{γ:Ren P.globals.size},SemR P FN (VR FN) γ (Pure.pure (Value.tuple #[])) (Pure.pure (Value.tuple #[])):=.pur (VR.tuple' ArrR.nil);cases hx' with
 | slice0 l c=>cases a<;>exact fin
 | sliceE _ _=>cases a<;>exact fin
 | slice l c hA=>
  cases l with
  | zero=>cases a<;>exact fin
  | succ l=>cases a with
   | slice elem=>
    refine SemR.bnd (rel_zeroValue elem hok) λε he z Z hz=>?_
    exact SemR.bnd (rel_storeCells (hA.mono he) (ArrR.list (ArrR.zeroCells hz.cells _))) λζ hz _ _ _=>fin
   | _=>exact .dead (Dead.bind (dead_stuck _) _)
 | mapNil=>cases a<;>exact fin
 | junk h=>
  cases a<;>exact .getObjD (δ.sp 0 (.inl rfl)) λa l=>Dead.halt (h:=.stuck "clear: map expected") trivial
 | _=>cases a<;>exact .dead (Dead.bind (dead_stuck _) _)
end
end Go.Fw
end
section
/- The operations of the model, one by one, continued: append, make, composite literals. -/
namespace Go.Fw
open Go
section
variable {P:Program} {FN:FuncId->Bool} {β:Ren P.globals.size}
theorem rel_askRoom (n:Nat):SemR P FN Eq2 β (askRoom n) (askRoom n):=by
 unfold askRoom;split
 ·exact .mark trivial (.pure rfl)
 ·exact .pur rfl
theorem SemR.deadB {α γ:Type}{RA:Ren P.globals.size->γ->γ->Prop}{s:Sem α}{f:α->Sem γ}{S:Sem γ}(h:Dead s):SemR P FN RA β (s >>= f) S:=.dead (h.bind f)
theorem rel_grow {elem:TypeId}{x X y Y:Value}(hok:zeroOk P elem=true)(hx:VR FN β x X)(hy:VR FN β y Y)(size l c n:Nat)(fx:FcOk x l)(fy:FcOk y n) :
  SemR P FN (VR FN) β
   (do
    let newCap ←choose (.appendCap (l+n) c elem)
    askRoom (newCap*(←typeInfo elem).bytes)
    let old ←Builtin.firstCells size l x
    let new ←Builtin.firstCells size n y
    let rest:=Builtin.zeroCells (←zeroValue elem).cells (newCap-(l+n))
    pure (.slice (some (←newRow elem (old++new++rest))) (l+n) newCap))
   (do
    let newCap ←choose (.appendCap (l+n) c elem)
    askRoom (newCap*(←typeInfo elem).bytes)
    let old ←Builtin.firstCells size l X
    let new ←Builtin.firstCells size n Y
    let rest:=Builtin.zeroCells (←zeroValue elem).cells (newCap-(l+n))
    pure (.slice (some (←newRow elem (old++new++rest))) (l+n) newCap)):=by
 refine .choose λm=>?_
 show SemR P FN (VR FN) β (Sem.bind (.pure m) _) (Sem.bind (.pure m) _);simp only[Sem.bind];refine SemR.same_bind (rel_typeInfo elem) λδ1 h1 i=>?_
 refine SemR.same_bind (rel_askRoom _) λδ2 h2 _=>?_
 have h12:=Ren.le_trans h1 h2;refine SemR.bnd (rel_firstCells (hx.mono h12) _ _ fx) λδ3 h3 old OLD ho=>?_
 refine SemR.bnd (rel_firstCells (hy.mono (Ren.le_trans h12 h3)) _ _ fy) λδ4 h4 nw NW hn=>?_
 refine SemR.bnd (rel_zeroValue elem hok) λδ5 h5 z Z hz=>?_
 have ho':ArrR FN δ5 old OLD:=ArrR.mono h5 (ArrR.mono h4 ho);have hn':ArrR FN δ5 nw NW:=ArrR.mono h5 hn;refine SemR.bnd (rel_newRow ((ho'.app hn').app (ArrR.zeroCells hz.cells _))) λδ6 h6 a A ha=>?_
 exact .pur (.slice _ _ ha)
theorem dead_mayShare {α:Type}(size l n:Nat)(b:Option Addr)(x:Value)(f:Bool->Sem α)(hf:∀v,Dead (f v)):Dead (Builtin.mayShare size l n b x >>= f):=by
 have hc:∀(a:Addr) (m:Nat) {γ:Type} (g:Bool->Sem γ),(∀v,Dead (g v))->Dead (Builtin.holdsCells a m >>= g):=λa m γ g hg=>by
  refine .shape λx=>?_
  cases x with
  | none=>exact hg _
  | some x=>exact hg _
 have tl:∀there:Bool,Dead ((do
   if !there then return true
   match x with
   | .slice (some b') _ _=>do pure (!(←Builtin.holdsCells b' (n*size)) || b.any (·.block == b'.block))
   | _=>pure false:Sem Bool) >>= f):=λthere=>by
  cases there with
  | false=>exact hf _
  | true=>
   cases x with
   | slice a l c=>cases a with
    | none=>exact hf _
    | some a=>
     show Dead ((Builtin.holdsCells a (n*size) >>= _) >>= f);rw[bind_assoc];exact hc _ _ _ λv=>hf _
   | _=>exact hf _
 unfold Builtin.mayShare;cases b with
 | none=>exact tl true
 | some a=>
  show Dead ((Builtin.holdsCells a (l*size) >>= _) >>= f);rw[bind_assoc];refine hc _ _ _ λv=>?_
  refine .frozen λu=>?_
  exact tl (v && !u)
theorem rel_append {t ty:TypeId}{x X y Y:Value}(hok:sliceZeroOk P t=true)(hx:VR FN β x X)(hy:VR FN β y Y) :
  SemR P FN (VR FN) β (Builtin.append_ #[t,t] ty #[x,y]) (Builtin.append_ #[t,t] ty #[X,Y]):=by
 unfold Builtin.append_;refine rel_und' (P:=P) (FN:=FN) (β:=β) λδ hd a ha=>?_
 have ha:P.underlying t=some a:=ha;unfold sliceZeroOk at hok;rw[ha] at hok;cases a with
 | slice elem=>
  have hok:zeroOk P elem=true:=hok;have grow:∀{γ:Ren P.globals.size} {v V:Value} (b B:Option Addr) (l c n size:Nat) (f F:Sem Value),VR FN γ v V->VR FN γ y Y->FcOk v l->FcOk y n->
    SemR P FN (VR FN) γ
     (do
      let i ←typeInfo elem
      if ((l+n:Nat):Int)>IntKind.i64.max/\i.bytes=0 then (do
       runtimePanic (.error "growslice: len out of range")
       f)
      else (do
       let j ←typeInfo elem
       if Builtin.nextslicecap (l+n) c*j.bytes>2 ^ 48 then (do
        (do
         let s ←Builtin.mayShare size l n b y
         if (!s)=true then (do
          mark Mark.noRoom
          unsupported (Unsupported.resourceLimit "append: a slice or a string whose bytes no memory bears"))
         else unsupported (Unsupported.resourceLimit "append: a slice or a string whose bytes no memory bears"))
        let newCap ←choose (.appendCap (l+n) c elem)
        let k ←typeInfo elem
        askRoom (newCap*k.bytes)
        let old ←Builtin.firstCells size l v
        let new ←Builtin.firstCells size n y
        let z ←zeroValue elem
        let r ←newRow elem (old++new++Builtin.zeroCells z.cells (newCap-(l+n)))
        pure (Value.slice (some r) (l+n) newCap))
       else (do
        let newCap ←choose (.appendCap (l+n) c elem)
        let k ←typeInfo elem
        askRoom (newCap*k.bytes)
        let old ←Builtin.firstCells size l v
        let new ←Builtin.firstCells size n y
        let z ←zeroValue elem
        let r ←newRow elem (old++new++Builtin.zeroCells z.cells (newCap-(l+n)))
        pure (Value.slice (some r) (l+n) newCap))))
     (do
      let i ←typeInfo elem
      if ((l+n:Nat):Int)>IntKind.i64.max/\i.bytes=0 then (do
       runtimePanic (.error "growslice: len out of range")
       F)
      else (do
       let j ←typeInfo elem
       if Builtin.nextslicecap (l+n) c*j.bytes>2 ^ 48 then (do
        (do
         let s ←Builtin.mayShare size l n B Y
         if (!s)=true then (do
          mark Mark.noRoom
          unsupported (Unsupported.resourceLimit "append: a slice or a string whose bytes no memory bears"))
         else unsupported (Unsupported.resourceLimit "append: a slice or a string whose bytes no memory bears"))
        let newCap ←choose (.appendCap (l+n) c elem)
        let k ←typeInfo elem
        askRoom (newCap*k.bytes)
        let old ←Builtin.firstCells size l V
        let new ←Builtin.firstCells size n Y
        let z ←zeroValue elem
        let r ←newRow elem (old++new++Builtin.zeroCells z.cells (newCap-(l+n)))
        pure (Value.slice (some r) (l+n) newCap))
       else (do
        let newCap ←choose (.appendCap (l+n) c elem)
        let k ←typeInfo elem
        askRoom (newCap*k.bytes)
        let old ←Builtin.firstCells size l V
        let new ←Builtin.firstCells size n Y
        let z ←zeroValue elem
        let r ←newRow elem (old++new++Builtin.zeroCells z.cells (newCap-(l+n)))
        pure (Value.slice (some r) (l+n) newCap)))):=by
   intro γ v V b B l c n size f F hv hy fv fy;refine SemR.same_bind (rel_typeInfo elem) λθ hθ i=>?_
   by_cases h1:((l+n:Nat):Int)>IntKind.i64.max/\i.bytes=0
   ·rw[if_pos h1];exact .deadB (dead_runtimePanic _)
   ·rw[if_neg h1,if_neg h1];refine SemR.same_bind (rel_typeInfo elem) λκ hκ j=>?_
    by_cases h2:Builtin.nextslicecap (l+n) c*j.bytes>2 ^ 48
    ·rw[if_pos h2];refine .deadB (dead_mayShare size l n b y _ λv=>?_);cases v
     ·exact .mark trivial (.halt (h:=.unsupported (.resourceLimit _)) trivial)
     ·exact .halt (h:=.unsupported (.resourceLimit _)) trivial
    ·rw[if_neg h2,if_neg h2];exact rel_grow hok ((hv.mono hθ).mono hκ) ((hy.mono hθ).mono hκ) size l c n fv fy
  have hx':=hx.mono hd;have hy':=hy.mono hd;cases hx' with
  | slice0 l c=>
   refine SemR.same_bind (rel_sizeOf elem) λε he size=>?_
   refine rel_und' (P:=P) (FN:=FN) λζ hz a2 ha2=>?_
   have ha2:P.underlying t=some a2:=ha2;rw[ha] at ha2;cases ha2;simp only[pure_bind];simp only[Bool.false_eq_true,if_false];refine SemR.bnd (rel_lenOf2 ((hy'.mono he).mono hz)) λη hη n N e=>?_
   obtain⟨rfl,fy⟩:=e;simp only[Bool.not_false,if_true,false_or];have hy4:=((hy'.mono he).mono hz).mono hη;by_cases hle:l+n<=c
   ·rw[if_pos hle,if_pos hle];exact SemR.bnd (rel_firstCells hy4 _ _ fy) λθ hθ cs CS hc=>.pur (.slice0 _ _)
   ·rw[if_neg hle,if_neg hle];exact grow none none l c n size _ _ (.slice0 l c) hy4 (λa e=>by cases e) fy
  | @slice a A l c hA=>
   refine SemR.same_bind (rel_sizeOf elem) λε he size=>?_
   refine rel_und' (P:=P) (FN:=FN) λζ hz a2 ha2=>?_
   have ha2:P.underlying t=some a2:=ha2;rw[ha] at ha2;cases ha2;simp only[pure_bind];simp only[Bool.false_eq_true,if_false];refine SemR.bnd (rel_lenOf2 ((hy'.mono he).mono hz)) λη hη n N e=>?_
   obtain⟨rfl,fy⟩:=e;simp only[Bool.not_false,if_true,false_or];have hy4:=((hy'.mono he).mono hz).mono hη;have hA4:=((hA.mono he).mono hz).mono hη;by_cases hle:l+n<=c
   ·rw[if_pos hle,if_pos hle];refine SemR.bnd (rel_firstCells hy4 _ _ fy) λθ hθ cs CS hc=>?_
    refine SemR.bnd (rel_storeCells ((hA4.mono hθ).add _) (ArrR.list hc)) λκ hκ _ _ _=>?_
    exact .pur (.slice _ _ ((hA4.mono hθ).mono hκ))
   ·rw[if_neg hle,if_neg hle];exact grow (some a) (some A) l c n size _ _ (.slice l c hA4) hy4 (λa e=>by cases e;rfl) fy
  | sliceE a A=>
   refine SemR.same_bind (rel_sizeOf elem) λε he size=>?_
   refine rel_und' (P:=P) (FN:=FN) λζ hz a2 ha2=>?_
   have ha2:P.underlying t=some a2:=ha2;rw[ha] at ha2;cases ha2;simp only[pure_bind];simp only[Bool.false_eq_true,if_false];refine SemR.bnd (rel_lenOf2 ((hy'.mono he).mono hz)) λη hη n N e=>?_
   obtain⟨rfl,fy⟩:=e;simp only[Bool.not_false,if_true,false_or];have hy4:=((hy'.mono he).mono hz).mono hη;by_cases hle:0+n<=0
   ·rw[if_pos hle,if_pos hle];obtain rfl:n=0:=by omega
    refine SemR.bnd (rel_noCells hy4 size) λθ hθ cs CS hc=>?_
    obtain⟨rfl,rfl⟩:=hc;exact .pur (.sliceE _ _)
   ·rw[if_neg hle,if_neg hle];exact grow (some a) (some A) 0 0 n size _ _ (.sliceE a A) hy4 (λa e=>rfl) fy
  | _=>exact .stuck_
 | _=>exact .stuck_
end
end Go.Fw
end
