/-
  Part 18 of the common ground of this seat: what single parts show stands ahead of each.
  No condition.
-/
import Derived.Test.YtkmgcggoemlaaaaGreatDoorJ11
set_option linter.unusedSimpArgs false
set_option linter.unusedVariables false
set_option linter.constructorNameAsVariable false
section
/- The model: the order of what stands at a place, symbol by symbol; ranks. -/
namespace Go.Fwm
def sy (l:List UInt8)(i:Nat):Nat:=match l[i]? with | some x=>x.toNat+1 | none=>0
theorem sy_out {l:List UInt8}{i:Nat}(h:l.length<=i):sy l i=0:=by unfold sy;rw[List.getElem?_eq_none h]
theorem sy_in {l:List UInt8}{i:Nat}(h:i<l.length):sy l i=l[i].toNat+1:=by unfold sy;rw[List.getElem?_eq_getElem h]
theorem sy_pos {l:List UInt8}{i:Nat}(h:i<l.length):0<sy l i:=by rw[sy_in h];omega
def eqK (s:Nat->Nat)(K p q:Nat):Prop:=∀i,i<K->s (p+i)=s (q+i)
def ltK (s:Nat->Nat)(K p q:Nat):Prop:=∃j,j<K/\(∀i,i<j->s (p+i)=s (q+i))/\s (p+j)<s (q+j)
section
variable {s:Nat->Nat} {K L p q r n:Nat}
theorem eqK.symm (h:eqK s K p q):eqK s K q p:=λi hi=>(h i hi).symm
theorem eqK.not_lt (h:eqK s K p q):¬ltK s K p q:=by rintro⟨j,hj,_,hl⟩;have:=h j hj;omega
theorem ltK.mono (h:ltK s K p q)(hk:K<=L):ltK s L p q:=by obtain⟨j,hj,h1,h2⟩:=h;exact⟨j,by omega,h1,h2⟩
theorem tri (s:Nat->Nat)(K p q:Nat):ltK s K p q\/eqK s K p q\/ltK s K q p:=by
 induction K with
 | zero=>exact .inr (.inl λi hi=>by omega)
 | succ K ih=>
  rcases ih with h|h|h
  ·exact .inl (h.mono (by omega))
  ·rcases Nat.lt_trichotomy (s (p+K)) (s (q+K)) with x | x | x
   ·exact .inl ⟨K,by omega,h,x⟩
   ·exact .inr (.inl λi hi=>by rcases Nat.lt_or_eq_of_le (Nat.lt_succ_iff.1 hi) with y | y;exact h i y;rw[y];exact x)
   ·exact .inr (.inr ⟨K,by omega,λi hi=>(h i hi).symm,x⟩)
  ·exact .inr (.inr (h.mono (by omega)))
theorem ltK.trans (h:ltK s K p q)(k:ltK s K q r):ltK s K p r:=by
 obtain⟨i,hi,h1,h2⟩:=h;obtain⟨j,hj,k1,k2⟩:=k;rcases Nat.lt_trichotomy i j with x|x|x
 ·exact⟨i,hi,λt ht=>(h1 t ht).trans (k1 t (by omega)),by rw[←k1 i x];exact h2⟩
 ·subst x;exact⟨i,hi,λt ht=>(h1 t ht).trans (k1 t ht),by omega⟩
 ·exact⟨j,hj,λt ht=>(h1 t (by omega)).trans (k1 t ht),by rw[h1 j x];exact k2⟩
theorem ltK.irrefl:¬ltK s K p p:=by rintro⟨j,_,_,h⟩;omega
theorem ltK.eq (h:ltK s K p q)(k:eqK s K q r):ltK s K p r:=by
 obtain⟨j,hj,h1,h2⟩:=h;exact⟨j,hj,λi hi=>(h1 i hi).trans (k i (by omega)),by rw[←k j hj];exact h2⟩
theorem eqK.lt (h:eqK s K p q)(k:ltK s K q r):ltK s K p r:=by
 obtain⟨j,hj,h1,h2⟩:=k;exact⟨j,hj,λi hi=>(h i (by omega)).trans (h1 i hi),by rw[h j hj];exact h2⟩
theorem ltK.ntrans (h:¬ltK s K p q)(k:¬ltK s K q r):¬ltK s K p r:=by
 intro x;rcases tri s K p q with a|a|a
 ·exact h a
 ·exact k (a.symm.lt x)
 ·exact k (a.trans x)
theorem eqK_add:eqK s (K+L) p q↔eqK s K p q/\eqK s L (p+K) (q+K):=by
 constructor
 ·intro h;exact⟨λi hi=>h i (by omega),λi hi=>by have:=h (K+i) (by omega);rwa [←Nat.add_assoc,←Nat.add_assoc] at this⟩
 ·rintro⟨h1,h2⟩ i hi;by_cases x:i<K
  ·exact h1 i x
  ·have:=h2 (i-K) (by omega);rwa [show p+K+(i-K)=p+i by omega,show q+K+(i-K)=q+i by omega] at this
theorem ltK_add:ltK s (K+L) p q↔ltK s K p q\/(eqK s K p q/\ltK s L (p+K) (q+K)):=by
 constructor
 ·rintro⟨j,hj,h1,h2⟩;by_cases x:j<K
  ·exact .inl ⟨j,x,h1,h2⟩
  ·refine .inr ⟨λi hi=>h1 i (by omega),j-K,by omega,λi hi=>?_,?_⟩
   ·have:=h1 (K+i) (by omega);rwa [←Nat.add_assoc,←Nat.add_assoc] at this
   ·rwa [show p+K+(j-K)=p+j by omega,show q+K+(j-K)=q+j by omega]
 ·rintro(h | ⟨h1,j,hj,h2,h3⟩)
  ·exact h.mono (by omega)
  ·refine⟨K+j,by omega,λi hi=>?_,by rwa [←Nat.add_assoc,←Nat.add_assoc]⟩;by_cases x:i<K
   ·exact h1 i x
   ·have:=h2 (i-K) (by omega);rwa [show p+K+(i-K)=p+i by omega,show q+K+(i-K)=q+i by omega] at this
end
def RankOk (s:Nat->Nat)(n:Nat)(rank:Nat->Nat)(K:Nat):Prop:=∀p q,p<n->q<n->(rank p<rank q↔ltK s K p q)
theorem RankOk.eq {s:Nat->Nat}{n K:Nat}{rank:Nat->Nat}(h:RankOk s n rank K){p q:Nat}(hp:p<n)(hq:q<n):rank p=rank q↔eqK s K p q:=by
 have h1:=h p q hp hq;have h2:=h q p hq hp;constructor
 ·intro e;rcases tri s K p q with x|x|x
  ·have:=h1.2 x;omega
  ·exact x
  ·have:=h2.2 x;omega
 ·intro e;rcases Nat.lt_trichotomy (rank p) (rank q) with x|x|x
  ·exact absurd (h1.1 x) e.not_lt
  ·exact x
  ·exact absurd (h2.1 x) e.symm.not_lt
def atv (rank:Nat->Nat)(n i:Nat):Int:=if i<n then (rank i:Int)+1 else 0
def cfv (rank:Nat->Nat)(n half a b:Nat):Int:=if (rank a:Int)-(rank b:Int)≠0 then (rank a:Int)-(rank b:Int) else atv rank n (a+half)-atv rank n (b+half)
structure Ends_ (s:Nat->Nat) (n:Nat):Prop where
 zero:∀i,n<=i->s i=0
 pos:∀i,i<n->0<s i
theorem sy_ends (l:List UInt8):Ends_ (sy l) l.length:=⟨λ_ h=>sy_out h,λ_ h=>sy_pos h⟩
section
variable {s:Nat->Nat} {n K:Nat} {rank:Nat->Nat}
theorem at_lt (hs:Ends_ s n)(hK:0<K)(h:RankOk s n rank K)(i j:Nat):atv rank n i<atv rank n j↔ltK s K i j:=by
 unfold atv;by_cases hi:i<n<;>by_cases hj:j<n
 ·rw[if_pos hi,if_pos hj,←h i j hi hj];omega
 ·rw[if_pos hi,if_neg hj];constructor
  ·intro x;omega
  ·rintro⟨t,_,_,x⟩;rw[hs.zero (j+t) (by omega)] at x;omega
 ·rw[if_neg hi,if_pos hj];constructor
  ·intro _;exact⟨0,hK,λi hi=>by omega,by rw[hs.zero (i+0) (by omega)];exact hs.pos _ (by omega)⟩
  ·intro _;omega
 ·rw[if_neg hi,if_neg hj];constructor
  ·intro x;omega
  ·rintro⟨t,_,_,x⟩;rw[hs.zero (j+t) (by omega)] at x;omega
theorem at_eq (hs:Ends_ s n)(hK:0<K)(h:RankOk s n rank K)(i j:Nat):atv rank n i=atv rank n j↔eqK s K i j:=by
 have h1:=at_lt hs hK h i j;have h2:=at_lt hs hK h j i;constructor
 ·intro e;rcases tri s K i j with x|x|x
  ·have:=h1.2 x;omega
  ·exact x
  ·have:=h2.2 x;omega
 ·intro e;rcases Int.lt_trichotomy (atv rank n i) (atv rank n j) with x|x|x
  ·exact absurd (h1.1 x) e.not_lt
  ·exact x
  ·exact absurd (h2.1 x) e.symm.not_lt
structure Tells (s:Nat->Nat) (n L:Nat) (cf:Nat->Nat->Int):Prop where
 lt:∀a b,a<n->b<n->(cf a b<0↔ltK s L a b)
 eq:∀a b,a<n->b<n->(cf a b=0↔eqK s L a b)
theorem tells_two (hs:Ends_ s n)(hK:0<K)(h:RankOk s n rank K):Tells s n (K+K) (cfv rank n K) where
 lt a b ha hb:=by
  have h1:=h a b ha hb;have h2:=h.eq ha hb;have h3:=at_lt hs hK h (a+K) (b+K);rw[ltK_add,←h1,←h2,←h3];unfold cfv;split<;>omega
 eq a b ha hb:=by
  have h2:=h.eq ha hb;have h3:=at_eq hs hK h (a+K) (b+K);rw[eqK_add,←h2,←h3];unfold cfv;split<;>omega
theorem tells_one (h:RankOk s n rank K):Tells s n K (cfv rank n n) where
 lt a b ha hb:=by
  rw[←h a b ha hb];unfold cfv atv;rw[if_neg (by omega:¬a+n<n),if_neg (by omega:¬b+n<n)];split<;>omega
 eq a b ha hb:=by
  rw[←h.eq ha hb];unfold cfv atv;rw[if_neg (by omega:¬a+n<n),if_neg (by omega:¬b+n<n)];split<;>omega
structure Srt (s:Nat->Nat) (n L:Nat) (ps:Nat->Nat):Prop where
 lt:∀i,i<n->ps i<n
 onto:∀p,p<n->∃i,i<n/\ps i=p
 inj:∀i j,i<n->j<n->ps i=ps j->i=j
 srt:∀i j,i<j->j<n->¬ltK s L (ps j) (ps i)
theorem ranks_new {L:Nat}{ps nx:Nat->Nat}(h:Srt s n L ps)(h0:0<n->nx (ps 0)=0)(hn:∀j,j+1<n->(ltK s L (ps j) (ps (j+1))->nx (ps (j+1))=nx (ps j)+1)/\(¬ltK s L (ps j) (ps (j+1))->nx (ps (j+1))=nx (ps j))) :
  RankOk s n nx L/\∀p,p<n->nx p<n:=by
 have A:∀j,j<n->nx (ps j)<=j/\∀i,i<j->nx (ps i)<=nx (ps j)/\(nx (ps i)<nx (ps j)↔ltK s L (ps i) (ps j)):=by
  intro j;induction j with
  | zero=>intro hj;exact⟨by rw[h0 hj];exact Nat.le_refl _,λi hi=>by omega⟩
  | succ j ih=>
   intro hj;obtain⟨i1,i2⟩:=ih (by omega);obtain⟨n1,n2⟩:=hn j hj;have hle:nx (ps j)<=nx (ps (j+1))/\nx (ps (j+1))<=nx (ps j)+1:=by
    by_cases x:ltK s L (ps j) (ps (j+1))
    ·have:=n1 x;omega
    ·have:=n2 x;omega
   refine⟨by omega,λi hi=>?_⟩;by_cases e:i=j
   ·subst e;refine⟨hle.1,?_⟩;by_cases x:ltK s L (ps i) (ps (i+1))
    ·have:=n1 x;exact⟨λ_=>x,λ_=>by omega⟩
    ·have:=n2 x;exact⟨λ_=>by omega,λy=>absurd y x⟩
   ·obtain⟨g1,g2⟩:=i2 i (by omega);refine⟨by omega,?_⟩;have hs1:=h.srt i j (by omega) (by omega);have hs2:=h.srt j (j+1) (by omega) hj;constructor
    ·intro x;rcases Nat.lt_or_eq_of_le g1 with y|y
     ·have z:=g2.1 y;rcases tri s L (ps j) (ps (j+1)) with t|t|t
      ·exact z.trans t
      ·exact z.eq t
      ·exact absurd t hs2
     ·have z:¬ltK s L (ps i) (ps j):=λt=>by have:=g2.2 t;omega
      have w:ltK s L (ps j) (ps (j+1)):=Classical.byContradiction λt=>by have:=n2 t;omega
      rcases tri s L (ps i) (ps j) with t|t|t
      ·exact absurd t z
      ·exact t.lt w
      ·exact absurd t hs1
    ·intro x;apply Classical.byContradiction;intro y;have z:¬ltK s L (ps i) (ps j):=λt=>by have:=g2.2 t;omega
     have w:¬ltK s L (ps j) (ps (j+1)):=λt=>by have:=n1 t;omega
     exact ltK.ntrans z w x
 refine⟨λp q hp hq=>?_,λp hp=>?_⟩
 ·obtain⟨i,hi,rfl⟩:=h.onto p hp;obtain⟨j,hj,rfl⟩:=h.onto q hq;rcases Nat.lt_trichotomy i j with x|x|x
  ·exact((A j hj).2 i x).2
  ·subst x;exact⟨λy=>by omega,λy=>absurd y ltK.irrefl⟩
  ·have:=((A i hi).2 j x).1;exact⟨λy=>by omega,λy=>absurd y (h.srt j i x hi)⟩
 ·obtain⟨i,hi,rfl⟩:=h.onto p hp;have:=(A i hi).1;omega
theorem eqK_end (hs:Ends_ s n){L p q:Nat}(hL:n<=L)(hp:p<n)(hq:q<n)(h:eqK s L p q):p=q:=by
 rcases Nat.lt_trichotomy p q with x|x|x
 ·have:=h (n-q) (by omega);rw[hs.zero (q+(n-q)) (by omega)] at this;have:=hs.pos (p+(n-q)) (by omega);omega
 ·exact x
 ·have:=h (n-p) (by omega);rw[hs.zero (p+(n-p)) (by omega)] at this;have:=hs.pos (q+(n-p)) (by omega);omega
theorem Srt.strict (hs:Ends_ s n){L:Nat}{ps:Nat->Nat}(h:Srt s n L ps)(hL:n<=L){i j:Nat}(hij:i<j)(hj:j<n):ltK s L (ps i) (ps j):=by
 rcases tri s L (ps i) (ps j) with x|x|x
 ·exact x
 ·have:=eqK_end hs hL (h.lt i (by omega)) (h.lt j hj) x;have:=h.inj i j (by omega) hj this;omega
 ·exact absurd x (h.srt i j hij hj)
theorem ranks_first (l:List UInt8):RankOk (sy l) l.length (λi=>(l.getD i 0).toNat) 1:=by
 intro p q hp hq;have e:∀i,i<l.length->sy l i=(l.getD i 0).toNat+1:=λi hi=>by rw[sy_in hi,List.getD_eq_getElem?_getD,List.getElem?_eq_getElem hi];rfl
 have h1:=e p hp;have h2:=e q hq;show (l.getD p 0).toNat<(l.getD q 0).toNat↔_;constructor
 ·intro h;exact⟨0,by omega,λi hi=>by omega,by simp only[Nat.add_zero];omega⟩
 ·rintro⟨j,hj,_,h⟩;obtain rfl:j=0:=by omega
  simp only[Nat.add_zero] at h;omega
end
end Go.Fwm
end
section
/- The model: the runs that are found, the steps of them; the steps beside; how long they are. -/
namespace Go.Fwm
def LgOk (old:List UInt8)(lg:List UInt8->Nat × Nat):Prop:=∀b,(lg b).1+(lg b).2<=old.length/\(lg b).2<=b.length/\(old.drop (lg b).1).take (lg b).2=b.take (lg b).2
structure Rn where
 fr:Int
 i:Nat
 j:Nat
def sndR (own e:Nat):List Rn:=if own<e then [⟨-1,own,e⟩] else []
def fnd (lg:List UInt8->Nat × Nat)(next:List UInt8):Nat->Nat->Nat->List Rn
 | 0,_,_=>[]
 | k+1,i,own=>
  if i<next.length then
   if (lg (next.drop i)).2<8 then fnd lg next k (i+1) own
   else sndR own i++⟨((lg (next.drop i)).1:Int),i,i+(lg (next.drop i)).2⟩ :: fnd lg next k (i+(lg (next.drop i)).2) (i+(lg (next.drop i)).2)
  else sndR own next.length
def Rn.stp (next:List UInt8)(r:Rn):Stp:=if r.fr<0 then .own ((next.drop r.i).take (r.j-r.i)) else .copy (r.j-r.i) r.fr.toNat
theorem take_step (l:List UInt8)(a b:Nat)(h:a<=b):l.take a++(l.drop a).take (b-a)=l.take b:=by
 rw[show b=a+(b-a) by omega,List.take_add,show a+(b-a)-a=b-a by omega]
theorem sndR_leads {old next:List UInt8}{own e:Nat}(h:own<=e)(he:e<=next.length){l:List Stp}(hl:Leads old next (next.take e) l):Leads old next (next.take own) ((sndR own e).map (Rn.stp next)++l):=by
 unfold sndR;split
 ·rename_i hlt;have e1:Rn.stp next ⟨-1,own,e⟩=.own ((next.drop own).take (e-own)):=by unfold Rn.stp;rw[if_pos (by show (-1:Int)<0;omega)]
  rw[List.map_cons,List.map_nil,e1];refine .cons ?_ ?_
  ·show 0<((next.drop own).take (e-own)).length;simp only[List.length_take,List.length_drop];omega
  ·show Leads old next (next.take own++(next.drop own).take (e-own)) l
   rw[take_step next own e h];exact hl
 ·obtain rfl:own=e:=by omega
  exact hl
theorem fnd_leads {old next:List UInt8}{lg:List UInt8->Nat × Nat}(hg:LgOk old lg):∀(k i own:Nat),own<=i->i<=next.length->next.length-i<k->Leads old next (next.take own) ((fnd lg next k i own).map (Rn.stp next)):=by
 intro k;induction k with
 | zero=>intro i own _ _ h;omega
 | succ k ih=>
  intro i own h1 h2 h3;unfold fnd;split
  ·rename_i hi;split
   ·exact ih (i+1) own (by omega) (by omega) (by omega)
   ·rename_i hn;obtain⟨g1,g2,g3⟩:=hg (next.drop i);simp only[List.length_drop] at g2;generalize lg (next.drop i)=r at hn g1 g2 g3;obtain⟨f,n⟩:=r;simp only at hn g1 g2 g3 ⊢;rw[List.map_append,List.map_cons];refine sndR_leads h1 (by omega) ?_;have e1:Rn.stp next ⟨(f:Int),i,i+n⟩=.copy n f:=by
     unfold Rn.stp;rw[if_neg (by show ¬(f:Int)<0;omega)];show Stp.copy (i+n-i) (f:Int).toNat=_;rw[show i+n-i=n by omega,Int.toNat_natCast]
    rw[e1];refine .cons (show 0<n/\f+n<=old.length from ⟨by omega,g1⟩) ?_;show Leads old next (next.take i++(old.drop f).take n) _
    have e2:next.take i++(old.drop f).take n=next.take (i+n):=by rw[g3,List.take_add]
    rw[e2];exact ih (i+n) (i+n) (Nat.le_refl _) (by omega) (by omega)
  ·obtain rfl:i=next.length:=by omega
   have:=sndR_leads (old:=old) h1 (Nat.le_refl _) (l:=[]) (by rw[List.take_length];exact .nil);simpa using this
theorem num_len (n:Nat):(num n).length<=2/\1<=(num n).length:=by unfold num;split<;>simp
theorem sndR_len (next:List UInt8)(own e:Nat):(encs ((sndR own e).map (Rn.stp next))).length<=(e-own)+3:=by
 unfold sndR;split
 ·have e1:Rn.stp next ⟨-1,own,e⟩=.own ((next.drop own).take (e-own)):=by unfold Rn.stp;rw[if_pos (by show (-1:Int)<0;omega)]
  rw[List.map_cons,List.map_nil,e1];have:=num_len ((next.drop own).take (e-own)).length;simp only[encs,Stp.enc,List.length_append,List.length_cons,List.length_nil,List.length_take,List.length_drop] at this ⊢;omega
 ·simp[encs]
theorem fnd_len {old next:List UInt8}{lg:List UInt8->Nat × Nat}(hg:LgOk old lg):∀(k i own:Nat),own<=i->i<=next.length->(encs ((fnd lg next k i own).map (Rn.stp next))).length<=(next.length-own)+3:=by
 intro k;induction k with
 | zero=>intro i own _ _;simp[fnd,encs]
 | succ k ih=>
  intro i own h1 h2;unfold fnd;split
  ·rename_i hi;split
   ·exact ih (i+1) own (by omega) (by omega)
   ·rename_i hn;obtain⟨g1,g2,g3⟩:=hg (next.drop i);simp only[List.length_drop] at g2;generalize lg (next.drop i)=r at hn g1 g2 g3;obtain⟨f,n⟩:=r;simp only at hn g1 g2 g3 ⊢;have e1:Rn.stp next ⟨(f:Int),i,i+n⟩=.copy n f:=by
     unfold Rn.stp;rw[if_neg (by show ¬(f:Int)<0;omega)];show Stp.copy (i+n-i) (f:Int).toNat=_;rw[show i+n-i=n by omega,Int.toNat_natCast]
    rw[List.map_append,List.map_cons,encs_app,e1];have a1:=sndR_len next own i
    have a2:=ih (i+n) (i+n) (Nat.le_refl _) (by omega);have a3:=num_len n;have a4:=num_len f;simp only[encs,Stp.enc,List.length_append,List.length_cons] at a1 a2 ⊢;omega
  ·have:=sndR_len next own next.length;omega
def bsd (old next:List UInt8):Nat->Nat->Nat->List Stp
 | 0,_,_=>[]
 | k+1,i,a=>
  if i<next.length then
   if next.getD i 0≠old.getD i 0 then .beside (i-a) (next.getD i 0) :: bsd old next k (i+1) (i+1) else bsd old next k (i+1) a
  else if a<next.length then [.copy (next.length-a) a] else []
theorem take_eq_of {l m:List UInt8}{a i:Nat}(hl:l.length=m.length)(hai:a<=i)(hi:i<=l.length)(h:∀j,a<=j->j<i->l.getD j 0=m.getD j 0):(m.drop a).take (i-a)=(l.drop a).take (i-a):=by
 apply List.ext_getElem
 ·simp only[List.length_take,List.length_drop];omega
 ·intro t h1 h2;simp only[List.length_take,List.length_drop] at h1 h2;have:=h (a+t) (by omega) (by omega);rw[List.getD_eq_getElem?_getD,List.getD_eq_getElem?_getD,List.getElem?_eq_getElem (by omega),List.getElem?_eq_getElem (by omega)] at this;simp only[List.getElem_take,List.getElem_drop];exact this.symm
theorem bsd_leads {old next:List UInt8}(hl:old.length=next.length):∀(k i a:Nat),a<=i->i<=next.length->next.length-i<k->(∀j,a<=j->j<i->next.getD j 0=old.getD j 0)->Leads old next (next.take a) (bsd old next k i a):=by
 intro k;induction k with
 | zero=>intro i a _ _ h;omega
 | succ k ih=>
  intro i a h1 h2 h3 h4;unfold bsd;split
  ·rename_i hi;have hta:(next.take a).length=a:=by rw[List.length_take];omega
   split
   ·refine .cons ?_ ?_
    ·show (next.take a).length+(i-a)<=old.length;omega
    ·show Leads old next (next.take a++((old.drop (next.take a).length).take (i-a)++[next.getD i 0])) _
     rw[hta,take_eq_of hl.symm h1 (by omega) h4,←List.append_assoc,take_step next a i h1];have e:next.take i++[next.getD i 0]=next.take (i+1):=by
      rw[List.take_add_one,List.getElem?_eq_getElem hi,List.getD_eq_getElem?_getD,List.getElem?_eq_getElem hi];rfl
     rw[e];exact ih (i+1) (i+1) (Nat.le_refl _) (by omega) (by omega) λj x y=>by omega
   ·rename_i he;refine ih (i+1) a (by omega) (by omega) (by omega) λj x y=>?_
    rcases Nat.lt_or_eq_of_le (Nat.lt_succ_iff.1 y) with z|z
    ·exact h4 j x z
    ·subst z;exact Classical.byContradiction he
  ·obtain rfl:i=next.length:=by omega
   split
   ·refine .cons (show 0<next.length-a/\a+(next.length-a)<=old.length from ⟨by omega,by omega⟩) ?_;show Leads old next (next.take a++(old.drop a).take (next.length-a)) []
    rw[take_eq_of hl.symm h1 (Nat.le_refl _) h4,take_step next a next.length h1,List.take_length];exact .nil
   ·obtain rfl:a=next.length:=by omega
    rw[List.take_length];exact .nil
def diffs (old next:List UInt8):Nat->Nat->Nat
 | 0,_=>0
 | k+1,i=>(if i<next.length/\next.getD i 0≠old.getD i 0 then 1 else 0)+diffs old next k (i+1)
theorem bsd_len {old next:List UInt8}:∀(k i a:Nat),(encs (bsd old next k i a)).length<=4*diffs old next k i+5:=by
 intro k;induction k with
 | zero=>intro i a;simp[bsd,encs]
 | succ k ih=>
  intro i a;unfold bsd diffs;split
  ·rename_i hi;split
   ·rename_i hne;rw[if_pos ⟨hi,hne⟩];have a1:=ih (i+1) (i+1);have a2:=num_len (i-a);simp only[encs,Stp.enc,List.length_append,List.length_cons,List.length_nil] at a1 ⊢;omega
   ·rename_i hne;rw[if_neg (λh=>hne h.2)];have a1:=ih (i+1) a;omega
  ·split
   ·have a2:=num_len (next.length-a);have a3:=num_len a;simp only[encs,Stp.enc,List.length_append,List.length_cons,List.length_nil];omega
   ·simp[encs]
def runL (lg:List UInt8->Nat × Nat)(next:List UInt8):List Rn:=fnd lg next (next.length+1) 0 0
def stepsR (lg:List UInt8->Nat × Nat)(next:List UInt8):List Stp:=(runL lg next).map (Rn.stp next)
def stepsB (old next:List UInt8):List Stp:=bsd old next (next.length+1) 0 0
def steps (lg:List UInt8->Nat × Nat)(old next:List UInt8):List Stp:=if old.length=next.length/\(encs (stepsB old next)).length<(encs (stepsR lg next)).length then stepsB old next else stepsR lg next
def patchG (lg:List UInt8->Nat × Nat)(old next:List UInt8):List UInt8:=patchOf old next.length (steps lg old next)
theorem stepsR_leads {old:List UInt8}{lg:List UInt8->Nat × Nat}(hg:LgOk old lg)(next:List UInt8):Leads old next [] (stepsR lg next):=by
 have:=fnd_leads (next:=next) hg (next.length+1) 0 0 (Nat.le_refl _) (Nat.zero_le _) (by omega);rwa [List.take_zero] at this
theorem stepsB_leads {old next:List UInt8}(h:old.length=next.length):Leads old next [] (stepsB old next):=by
 have:=bsd_leads (next:=next) h (next.length+1) 0 0 (Nat.le_refl _) (Nat.zero_le _) (by omega) λj x y=>by omega
 rwa [List.take_zero] at this
theorem steps_leads {old:List UInt8}{lg:List UInt8->Nat × Nat}(hg:LgOk old lg)(next:List UInt8):Leads old next [] (steps lg old next):=by
 unfold steps;split
 ·rename_i h;exact stepsB_leads h.1
 ·exact stepsR_leads hg next
theorem stepsR_len {old:List UInt8}{lg:List UInt8->Nat × Nat}(hg:LgOk old lg)(next:List UInt8):(encs (stepsR lg next)).length<=next.length+3:=by
 have:=fnd_len (next:=next) hg (next.length+1) 0 0 (Nat.le_refl _) (Nat.zero_le _);exact this
theorem steps_len {old:List UInt8}{lg:List UInt8->Nat × Nat}(hg:LgOk old lg)(next:List UInt8):(encs (steps lg old next)).length<=next.length+3:=by
 have:=stepsR_len hg next
 unfold steps;split<;>omega
theorem patchOf_len (old:List UInt8)(n:Nat)(l:List Stp):(patchOf old n l).length<=(encs l).length+12/\10<=(patchOf old n l).length:=by
 have a1:=num_len old.length;have a2:=num_len n;simp only[patchOf,bodyOf,headOf,be32,List.length_append,List.length_cons,List.length_nil];omega
end Go.Fwm
end
