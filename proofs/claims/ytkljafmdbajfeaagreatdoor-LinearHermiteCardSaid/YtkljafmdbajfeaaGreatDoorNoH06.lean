/- Lattices of whole vectors: rows by pivots, the normal form is one, how a vector meets a row. Plain mathematics. -/
import Derived.Test.YtkljafmdbajfeaaGreatDoorNoH00
namespace Go.Proofs.YtkljafmdbajfeaaGreatDoor
set_option linter.unusedVariables false
set_option linter.unusedSimpArgs false
open Go.Lib (hid)
section
namespace Lp
abbrev V:=Nat→Int
inductive Gen (R:V→Prop):V→Prop
 | zero:Gen R fun _=>0
 | step (v r:V) (c:Int):Gen R v→R r→Gen R fun i=>v i+c*r i
theorem Gen.cast {R:V→Prop} {v w:V} (h:Gen R v) (e:∀ i,w i=v i):Gen R w:=by
 have:w=v:=funext e
 rw [this];exact h
theorem Gen.addMul {R:V→Prop} {v w:V} (c:Int) (h:Gen R v) (k:Gen R w):Gen R fun i=>v i+c*w i:=by
 induction k with
 | zero=>exact h.cast fun i=>by grind
 | step u r d hu hr ih=>exact (Gen.step _ r (c*d) ih hr).cast fun i=>by grind
theorem Gen.one {R:V→Prop} {r:V} (h:R r):Gen R r:=(Gen.step _ r 1 .zero h).cast fun i=>by grind
theorem Gen.sub {R:V→Prop} {v w:V} (h:Gen R v) (k:Gen R w):Gen R fun i=>v i-w i:=(h.addMul (-1) k).cast fun i=>by grind
theorem Gen.smul {R:V→Prop} {v:V} (c:Int) (h:Gen R v):Gen R fun i=>c*v i:=(Gen.zero.addMul c h).cast fun i=>by grind
theorem Gen.lift {R S:V→Prop} (h:∀ r,R r→Gen S r) {v:V} (k:Gen R v):Gen S v:=by
 induction k with
 | zero=>exact .zero
 | step u r d hu hr ih=>exact ih.addMul d (h r hr)
theorem Gen.prop {R:V→Prop} {P:V→Prop} (h0:P fun _=>0) (h:∀ v r c,P v→R r→P fun i=>v i+c*r i) {v:V} (k:Gen R v):P v:=by
 induction k with
 | zero=>exact h0
 | step u r d hu hr ih=>exact h u r d ih hr
abbrev Lt:=Nat→Option V
def From (L:Lt) (p:Nat) (r:V):Prop:=∃ q,p≤q∧L q=some r
structure Ech (n:Nat) (L:Lt):Prop where
 lt:∀ p r,L p=some r→p<n
 low:∀ p r,L p=some r→∀ i,i<p→r i=0
 high:∀ p r,L p=some r→∀ i,n≤i→r i=0
 pos:∀ p r,L p=some r→0<r p
def Red (L:Lt):Prop:=∀ p r q s,L p=some r→L q=some s→q<p→0≤s p∧s p<r p
variable {n:Nat} {L M:Lt}
theorem Ech.below (h:Ech n L) {p:Nat} {v:V} (k:Gen (From L p) v):∀ i,i<p→v i=0 :=
 Gen.prop (P:=fun v=>∀ i,i<p→v i=0) (fun i hi=>rfl) (fun v r c hv ⟨q,hq,hr⟩ i hi=>by
  have h1:=hv i hi;have h2:=h.low q r hr i (by omega);simp only [h1,h2];omega) k
theorem Gen.split {p:Nat} {v:V} (k:Gen (From L p) v):Gen (From L (p+1)) v∨∃ r c w,L p=some r∧Gen (From L (p+1)) w∧∀ i,v i=w i+c*r i:=by
 induction k with
 | zero=>exact .inl .zero
 | step u r d hu hr ih =>
   obtain ⟨q,hq,hr⟩:=hr
   rcases ih with ih|⟨r',c,w,h1,h2,h3⟩
   ·by_cases e:q=p
    ·subst e;exact .inr ⟨r,d,u,hr,ih,fun i=>rfl⟩
    ·exact .inl (ih.step _ _ _ ⟨q,by omega,hr⟩)
   ·by_cases e:q=p
    ·subst e
     rw [hr] at h1;cases h1
     exact .inr ⟨r,c+d,w,hr,h2,fun i=>by show u i+d*r i=_;rw [h3 i];grind⟩
    ·exact .inr ⟨r',c,_,h1,h2.step _ r d ⟨q,by omega,hr⟩,fun i=>by show u i+d*r i=_;rw [h3 i];grind⟩
theorem Ech.lead (h:Ech n L) {v:V} (k:Gen (From L 0) v):∀ p,(∀ i,i<p→v i=0)→Gen (From L p) v:=by
 intro p
 induction p with
 | zero=>intro _;exact k
 | succ p ih =>
   intro hz
   rcases (ih fun i hi=>hz i (by omega)).split with h1|⟨r,c,w,h1,h2,h3⟩
   ·exact h1
   ·have e:=h3 p
    rw [hz p (by omega),h.below h2 p (by omega)] at e
    have hp:=h.pos p r h1
    have hc:c=0:=by
     rcases Int.mul_eq_zero.1 (show c*r p=0 by omega) with h4|h4<;>omega
    exact h2.cast fun i=>by rw [h3 i,hc];omega
theorem Ech.divides (h:Ech n L) {v:V} (k:Gen (From L 0) v) (p:Nat) (hz:∀ i,i<p→v i=0) (hp:v p≠0):∃ r,L p=some r∧r p ∣ v p:=by
 rcases (h.lead k p hz).split with h1|⟨r,c,w,h1,h2,h3⟩
 ·exact absurd (h.below h1 p (by omega)) hp
 ·refine ⟨r,h1,c,?_⟩
  rw [h3 p,h.below h2 p (by omega),Int.mul_comm];omega
def Least (L:Lt) (v:V):Prop:=∀ p r,L p=some r→0≤v p∧v p<r p
theorem first_of {v:V} (h:∃ i,v i≠0):∃ p,v p≠0∧∀ i,i<p→v i=0:=by
 obtain ⟨i,hi⟩:=h
 induction i using Nat.strongRecOn with
 | _ i ih =>
   by_cases e:∃ j,j<i∧v j≠0
   ·obtain ⟨j,h1,h2⟩:=e;exact ih j h1 h2
   ·exact ⟨i,hi,fun j hj=>Classical.byContradiction fun hn=>e ⟨j,hj,hn⟩⟩
theorem small_div {a b:Int} (h:b ∣ a) (hb:0<b) (h1 : -b<a) (h2:a<b):a=0:=by
 obtain ⟨c,rfl⟩:=h
 have:c=0:=by
  rcases Int.lt_trichotomy c 0 with h3|h3|h3
  ·have:=Int.mul_le_mul_of_nonneg_left (show c ≤ -1 by omega) (show 0≤b by omega);omega
  ·exact h3
  ·have:=Int.mul_le_mul_of_nonneg_left (show 1≤c by omega) (show 0≤b by omega);omega
 rw [this];omega
theorem Ech.unique (h:Ech n L) {v w:V} (hv:Least L v) (hw:Least L w) (hd:Gen (From L 0) fun i=>v i-w i):v=w:=by
 refine Classical.byContradiction fun hn=>?_
 have hex:∃ i,(fun i=>v i-w i) i≠0:=by
  refine Classical.byContradiction fun h2=>hn (funext fun i=>?_)
  refine Classical.byContradiction fun h3=>h2 ⟨i,?_⟩
  show v i-w i≠0;omega
 obtain ⟨p,hp,hz⟩:=first_of hex
 obtain ⟨r,h1,h2⟩:=h.divides hd p hz hp
 have a:=hv p r h1;have b:=hw p r h1
 exact hp (small_div h2 (h.pos p r h1) (by show _<v p-w p;omega) (by show v p-w p<_;omega))
theorem Ech.same (h:Ech n L) (k:Ech n M) (hr:Red L) (kr:Red M) (hg:∀ v,Gen (From L 0) v↔Gen (From M 0) v):∀ p,L p=M p:=by
 have key:∀ {L M:Lt},Ech n L→Ech n M→(∀ v,Gen (From L 0) v↔Gen (From M 0) v)→∀ p r,L p=some r→∃ s,M p=some s∧s p ∣ r p:=by
  intro L M h k hg p r hp
  exact k.divides ((hg r).1 (.one ⟨p,by omega,hp⟩)) p (h.low p r hp) (by have:=h.pos p r hp;omega)
 have dv:∀ p r s,L p=some r→M p=some s→r p=s p:=by
  intro p r s h1 h2
  obtain ⟨s',e1,d1⟩:=key h k hg p r h1
  obtain ⟨r',e2,d2⟩:=key k h (fun v=>(hg v).symm) p s h2
  rw [h2] at e1;cases e1
  rw [h1] at e2;cases e2
  exact Int.dvd_antisymm (by have:=h.pos p r h1;omega) (by have:=k.pos p s h2;omega) d2 d1
 intro p
 cases hp:L p with
 | none =>
   cases hq:M p with
   | none=>rfl
   | some s=>obtain ⟨r,e,_⟩:=key k h (fun v=>(hg v).symm) p s hq;rw [hp] at e;cases e
 | some r =>
   obtain ⟨s,hs,_⟩:=key h k hg p r hp
   rw [hs];congr 1
   refine Classical.byContradiction fun hn=>?_
   have hex:∃ i,(fun i=>r i-s i) i≠0:=by
    refine Classical.byContradiction fun h2=>hn (funext fun i=>?_)
    refine Classical.byContradiction fun h3=>h2 ⟨i,?_⟩
    show r i-s i≠0;omega
   obtain ⟨q,hq,hz⟩:=first_of hex
   have hd:Gen (From L 0) fun i=>r i-s i:=(Gen.one ⟨p,by omega,hp⟩).sub ((hg s).2 (.one ⟨p,by omega,hs⟩))
   obtain ⟨t,ht,hdv⟩:=h.divides hd q hz hq
   obtain ⟨u,hu,_⟩:=key h k hg q t ht
   have e1:=dv q t u ht hu
   have hpq:p<q:=by
    refine Classical.byContradiction fun h5=>?_
    have e2:=dv p r s hp hs
    rcases Nat.lt_or_ge q p with h6|h6
    ·have:=h.low p r hp q h6;have:=k.low p s hs q h6;exact hq (by show r q-s q=0;omega)
    ·have:q=p:=by omega
     subst this;exact hq (by show r q-s q=0;omega)
   have a:=hr q t p r ht hp hpq
   have b:=kr q u p s hu hs hpq
   exact hq (small_div hdv (h.pos q t ht) (by show _<r q-s q;omega) (by show r q-s q<_;omega))
def With (L:Lt) (v:V) (r:V):Prop:=From L 0 r∨r=v
def put (L:Lt) (p:Nat) (r:V):Lt:=fun q=>if q=p then some r else L q
theorem put_same (L:Lt) (p:Nat) (r:V):put L p r p=some r:=by unfold put;rw [if_pos rfl]
theorem put_other (L:Lt) (p:Nat) (r:V) {q:Nat} (h:q≠p):put L p r q=L q:=by unfold put;rw [if_neg h]
theorem put_some {L:Lt} {p:Nat} {r:V} {q:Nat} {s:V} (h:put L p r q=some s):(q=p∧s=r)∨(q≠p∧L q=some s):=by
 unfold put at h;split at h
 ·left;cases h;exact ⟨by assumption,rfl⟩
 ·right;exact ⟨by assumption,h⟩
theorem meet_gen {b v:V} {p:Nat} (hb:L p=some b) (s t k m:Int) (hu:k*s+m*t=1) (x:V) :
 Gen (With (put L p fun i=>s*b i+t*v i) fun i=>k*v i-m*b i) x↔Gen (With L v) x:=by
 constructor
 ·refine Gen.lift fun r hr=>?_
  have hb':Gen (With L v) b:=.one (.inl ⟨p,by omega,hb⟩)
  have hv':Gen (With L v) v:=.one (.inr rfl)
  rcases hr with ⟨q,-,hr⟩|rfl
  ·rcases put_some hr with ⟨rfl,rfl⟩|⟨hne,hr⟩
   ·exact (hb'.smul s).addMul t hv'
   ·exact .one (.inl ⟨q,by omega,hr⟩)
  ·exact ((hv'.smul k).addMul (-m) hb').cast fun i=>by grind
 ·refine Gen.lift fun r hr=>?_
  have hr':Gen (With (put L p fun i=>s*b i+t*v i) fun i=>k*v i-m*b i) (fun i=>s*b i+t*v i):=.one (.inl ⟨p,by omega,put_same _ _ _⟩)
  have hv':Gen (With (put L p fun i=>s*b i+t*v i) fun i=>k*v i-m*b i) (fun i=>k*v i-m*b i):=.one (.inr rfl)
  rcases hr with ⟨q,-,hr⟩|rfl
  ·by_cases e:q=p
   ·subst e
    rw [hb] at hr;cases hr
    exact ((hr'.smul k).addMul (-t) hv').cast fun i=>by
     have:b i=(k*s+m*t)*b i:=by rw [hu];omega
     grind
   ·exact .one (.inl ⟨q,by omega,by rw [put_other _ _ _ e];exact hr⟩)
  ·exact ((hr'.smul m).addMul s hv').cast fun i=>by
    have:r i=(k*s+m*t)*r i:=by rw [hu];omega
    grind
theorem take_gen {v:V} {p:Nat} (hb:L p=none) (e:Int) (he:e=1∨e = -1) (x:V):Gen (From (put L p fun i=>e*v i) 0) x↔Gen (With L v) x:=by
 have hee:e*e=1:=by rcases he with rfl|rfl<;>rfl
 constructor
 ·refine Gen.lift fun r hr=>?_
  obtain ⟨q,-,hr⟩:=hr
  rcases put_some hr with ⟨rfl,rfl⟩|⟨hne,hr⟩
  ·exact (Gen.one (.inr rfl)).smul e
  ·exact .one (.inl ⟨q,by omega,hr⟩)
 ·refine Gen.lift fun r hr=>?_
  rcases hr with ⟨q,-,hr⟩|rfl
  ·have:q≠p:=by rintro rfl;rw [hb] at hr;cases hr
   exact .one ⟨q,by omega,by rw [put_other _ _ _ this];exact hr⟩
  ·have h1:Gen (From (put L p fun i=>e*r i) 0) (fun i=>e*r i):=.one ⟨p,by omega,put_same _ _ _⟩
   exact (h1.smul e).cast fun i=>by
    have:r i=(e*e)*r i:=by rw [hee];omega
    grind
theorem none_gen {v:V} (hz:∀ i,v i=0) (x:V):Gen (With L v) x↔Gen (From L 0) x:=by
 constructor
 ·refine Gen.lift fun r hr=>?_
  rcases hr with hr|rfl
  ·exact .one hr
  ·exact Gen.zero.cast hz
 ·exact Gen.lift fun r hr=>.one (.inl hr)
theorem Ech.put (h:Ech n L) {p:Nat} {r:V} (hp:p<n) (hl:∀ i,i<p→r i=0) (hh:∀ i,n≤i→r i=0) (h0:0<r p):Ech n (put L p r):=by
 refine ⟨fun q s hs=>?_,fun q s hs=>?_,fun q s hs=>?_,fun q s hs=>?_⟩<;>rcases put_some hs with ⟨rfl,rfl⟩|⟨hne,hs⟩
 ·exact hp
 ·exact h.lt q s hs
 ·exact hl
 ·exact h.low q s hs
 ·exact hh
 ·exact h.high q s hs
 ·exact h0
 ·exact h.pos q s hs
theorem down_gen {p q:Nat} {r s:V} (hp:L p=some r) (hq:L q=some s) (hne:p≠q) (k:Int) (x:V):Gen (From (put L q fun i=>s i+k*r i) 0) x↔Gen (From L 0) x:=by
 constructor
 ·refine Gen.lift fun u hu=>?_
  obtain ⟨j,-,hu⟩:=hu
  rcases put_some hu with ⟨rfl,rfl⟩|⟨hne,hu⟩
  ·exact (Gen.one ⟨j,by omega,hq⟩).addMul k (.one ⟨p,by omega,hp⟩)
  ·exact .one ⟨j,by omega,hu⟩
 ·refine Gen.lift fun u hu=>?_
  obtain ⟨j,-,hu⟩:=hu
  have h1:Gen (From (put L q fun i=>s i+k*r i) 0) r:=.one ⟨p,by omega,by rw [put_other _ _ _ hne];exact hp⟩
  by_cases e:j=q
  ·subst e
   rw [hq] at hu;cases hu
   have h2:Gen (From (put L j fun i=>s i+k*r i) 0) (fun i=>s i+k*r i):=.one ⟨j,by omega,put_same _ _ _⟩
   exact (h2.addMul (-k) h1).cast fun i=>by grind
  ·exact .one ⟨j,by omega,by rw [put_other _ _ _ e];exact hu⟩
end Lp
end
end Go.Proofs.YtkljafmdbajfeaaGreatDoor

namespace Go.Proofs.YtkljafmdbajfeaaGreatDoor.Lp
set_option linter.unusedVariables false
set_option linter.unusedSimpArgs false
def lv (X:Nat):Nat→Nat
 | 0=>X
 | k+1=>3*(lv X k*lv X k)
theorem lv_pos {X:Nat} (h:0<X):∀ k,0<lv X k
 | 0=>h
 | k+1=>by have:=lv_pos h k;have:=Nat.mul_pos this this;unfold lv;omega
theorem lv_step {X:Nat} (h:0<X) (k:Nat):lv X k≤lv X (k+1):=by
 have h1:=lv_pos h k
 have:lv X k*1≤lv X k*lv X k:=Nat.mul_le_mul_left _ h1
 simp only [lv];omega
theorem lv_mono {X:Nat} (h:0<X) {j k:Nat} (hjk:j≤k):lv X j≤lv X k:=by
 induction k with
 | zero=>have:j=0:=by omega
         subst this;exact Nat.le_refl _
 | succ k ih =>
   rcases Nat.lt_or_ge j (k+1) with h1|h1
   ·exact Nat.le_trans (ih (by omega)) (lv_step h k)
   ·have:j=k+1:=by omega
    subst this;exact Nat.le_refl _
structure Meet (b v s t k m g:Int):Prop where
 pos:0<g
 sum:s*b+t*v=g
 kg:k*g=b
 mg:m*g=v
 one:k*s+m*t=1
 ks:k.natAbs≤b.natAbs
 ms:m.natAbs≤v.natAbs
 ss:s.natAbs≤v.natAbs
 ts:t.natAbs≤b.natAbs+1
theorem tdiv_mul {a g:Int} (h:g ∣ a):a.tdiv g*g=a:=Int.tdiv_mul_cancel h
theorem Meet.of {b v s t:Int} (hb:0<b) (hv:v≠0) (h:s*b+t*(v.natAbs:Int)=Int.gcd b (v.natAbs:Int)) (hs:(s.natAbs:Int)≤(v.natAbs:Int)) (ht:(t.natAbs:Int)≤b+1) :
 Meet b v s (if v<0 then -t else t) (b.tdiv (Int.gcd b (v.natAbs:Int))) (v.tdiv (Int.gcd b (v.natAbs:Int))) (Int.gcd b (v.natAbs:Int)):=by
 have hg0:0<(Int.gcd b (v.natAbs:Int):Int):=by
  have:Int.gcd b (v.natAbs:Int)≠0:=fun e=>by rw [Int.gcd_eq_zero_iff] at e;omega
  omega
 have d1:(Int.gcd b (v.natAbs:Int):Int) ∣ b:=Int.gcd_dvd_left _ _
 have d2:(Int.gcd b (v.natAbs:Int):Int) ∣ v:=by
  have:=Int.gcd_dvd_right b (v.natAbs:Int)
  exact Int.dvd_natAbs.1 this
 generalize hg:(Int.gcd b (v.natAbs:Int):Int)=g at *
 have k1:=tdiv_mul d1
 have m1:=tdiv_mul d2
 have hsum:s*b+(if v<0 then -t else t)*v=g:=by
  split
  ·have:(v.natAbs:Int) = -v:=by omega
   rw [this] at h;rw [←h];grind
  ·have:(v.natAbs:Int)=v:=by omega
   rw [this] at h;exact h
 have hks:(b.tdiv g).natAbs≤b.natAbs:=by rw [Int.natAbs_tdiv];exact Nat.div_le_self _ _
 have hms:(v.tdiv g).natAbs≤v.natAbs:=by rw [Int.natAbs_tdiv];exact Nat.div_le_self _ _
 refine ⟨hg0,hsum,k1,m1,?_,hks,hms,by omega,by split<;>omega⟩
 have:(b.tdiv g*s+v.tdiv g*(if v<0 then -t else t))*g=1*g:=by
  calc (b.tdiv g*s+v.tdiv g*(if v<0 then -t else t))*g=s*(b.tdiv g*g)+(if v<0 then -t else t)*(v.tdiv g*g):=by grind
   _=1*g:=by rw [k1,m1,hsum];omega
 exact Int.eq_of_mul_eq_mul_right (by omega) this
theorem Meet.gs {b v s t k m g:Int} (h:Meet b v s t k m g) (hb:b≠0):g.natAbs≤b.natAbs:=by
 have h1:k.natAbs*g.natAbs=b.natAbs:=by rw [←Int.natAbs_mul,h.kg]
 have h2:0<k.natAbs:=by
  rcases Nat.eq_zero_or_pos k.natAbs with e|e
  ·rw [e,Nat.zero_mul] at h1;omega
  ·exact e
 have h3:1*g.natAbs≤k.natAbs*g.natAbs:=Nat.mul_le_mul_right _ h2
 omega
def BdV (X:Nat) (f:V):Prop:=∀ i,(f i).natAbs≤X
def Bd (X:Nat) (L:Lt):Prop:=∀ p r,L p=some r→BdV X r
theorem BdV.mono {X Y:Nat} {f:V} (h:BdV X f) (hxy:X≤Y):BdV Y f:=fun i=>Nat.le_trans (h i) hxy
theorem Bd.mono {X Y:Nat} {L:Lt} (h:Bd X L) (hxy:X≤Y):Bd Y L:=fun p r hr=>(h p r hr).mono hxy
theorem mul_abs {a b:Int} {A B:Nat} (h1:a.natAbs≤A) (h2:b.natAbs≤B):(a*b).natAbs≤A*B:=by
 rw [Int.natAbs_mul];exact Nat.mul_le_mul h1 h2
theorem Meet.bound {b v s t k m g:Int} {X:Nat} (h:Meet b v s t k m g) (hb:b.natAbs≤X) (hv:v.natAbs≤X) (hX:0<X) {x y:Int} (hx:x.natAbs≤X) (hy:y.natAbs≤X) :
 (s*x).natAbs≤3*(X*X)∧(t*y).natAbs≤3*(X*X)∧(s*x+t*y).natAbs≤3*(X*X)∧(k*y).natAbs≤3*(X*X)∧(-m*x).natAbs≤3*(X*X)∧(k*y + -m*x).natAbs≤3*(X*X):=by
 have h1:=mul_abs (Nat.le_trans h.ss hv) hx
 have h2:=mul_abs (Nat.le_trans h.ts (Nat.add_le_add_right hb 1)) hy
 have h3:=mul_abs (Nat.le_trans h.ks hb) hy
 have h4:=mul_abs (a := -m) (by have:=h.ms;omega) hx (A:=X)
 have h5:X*1≤X*X:=Nat.mul_le_mul_left _ hX
 rw [Nat.add_mul,Nat.one_mul] at h2
 refine ⟨by omega,by omega,by omega,by omega,by omega,by omega⟩
def cnt (L:Lt):Nat→Nat
 | 0=>0
 | p+1=>cnt L p+if (L p).isSome then 1 else 0
theorem cnt_mono (L:Lt) {p q:Nat} (h:p≤q):cnt L p≤cnt L q:=by
 induction q with
 | zero=>have:p=0:=by omega
         subst this;exact Nat.le_refl _
 | succ q ih =>
   rcases Nat.lt_or_ge p (q+1) with h1|h1
   ·have:=ih (by omega);simp only [cnt];omega
   ·have:p=q+1:=by omega
    subst this;exact Nat.le_refl _
theorem cnt_congr {L M:Lt} {p:Nat} (h:∀ q,q<p→(L q).isSome=(M q).isSome):cnt L p=cnt M p:=by
 induction p with
 | zero=>rfl
 | succ p ih=>simp only [cnt];rw [ih fun q hq=>h q (by omega),h p (by omega)]
theorem cnt_put (L:Lt) (q:Nat) (r:V) (p:Nat):cnt (put L q r) p≤cnt L p+1∧(p≤q→cnt (put L q r) p=cnt L p):=by
 induction p with
 | zero=>simp [cnt]
 | succ p ih =>
   by_cases e:p=q
   ·subst e
    have:=ih.2 (Nat.le_refl _)
    simp only [cnt,this]
    refine ⟨by rw [put_same];simp,fun h=>by omega⟩
   ·simp only [cnt,put_other L q r e]
    refine ⟨by omega,fun h=>?_⟩
    have:=ih.2 (by omega);omega
structure InsAt (n X:Nat) (L0:Lt) (f0:V) (p:Nat) (L:Lt) (f:V):Prop where
 ech:Ech n L
 low:∀ i,i<p→f i=0
 high:∀ i,n≤i→f i=0
 same:∀ q,(L q).isSome=(L0 q).isSome
 bdL:Bd (lv X (cnt L0 p)) L
 bdf:BdV (lv X (cnt L0 p)) f
 gen:∀ x,Gen (With L f) x↔Gen (With L0 f0) x
structure Ins (n X:Nat) (L0:Lt) (f0:V) (L:Lt):Prop where
 ech:Ech n L
 bd:Bd (lv X (cnt L0 n)) L
 cnt:cnt L n≤cnt L0 n+1
 gen:∀ x,Gen (From L 0) x↔Gen (With L0 f0) x
theorem InsAt.start {n X:Nat} {L:Lt} {f:V} (h:Ech n L) (hh:∀ i,n≤i→f i=0) (hL:Bd X L) (hf:BdV X f):InsAt n X L f 0 L f :=
 ⟨h,fun i hi=>by omega,hh,fun q=>rfl,hL,hf,fun x=>Iff.rfl⟩
theorem InsAt.skip {n X p:Nat} {L0 L:Lt} {f0 f:V} (h:InsAt n X L0 f0 p L f) (hX:0<X) (hz:f p=0):InsAt n X L0 f0 (p+1) L f :=
 ⟨h.ech,fun i hi=>by
  rcases Nat.lt_or_ge i p with h1|h1
  ·exact h.low i h1
  ·have:i=p:=by omega
   subst this;exact hz,h.high,h.same,h.bdL.mono (lv_mono hX (cnt_mono L0 (by omega))),h.bdf.mono (lv_mono hX (cnt_mono L0 (by omega))),h.gen⟩
theorem InsAt.meet {n X p:Nat} {L0 L:Lt} {f0 f b:V} {s t k m g:Int} (h:InsAt n X L0 f0 p L f) (hX:0<X) (hp:p<n) (hb:L p=some b) (hm:Meet (b p) (f p) s t k m g) :
 InsAt n X L0 f0 (p+1) (put L p fun i=>s*b i+t*f i) (fun i=>k*f i + -m*b i):=by
 have hX1:=lv_pos hX (cnt L0 p)
 have bb:=h.bdL p b hb
 have hc:cnt L0 (p+1)=cnt L0 p+1:=by simp only [cnt];rw [←h.same p,hb];rfl
 refine ⟨h.ech.put hp (fun i hi=>by rw [h.low i hi,h.ech.low p b hb i hi];simp) (fun i hi=>by rw [h.high i hi,h.ech.high p b hb i hi];simp) (by rw [hm.sum];exact hm.pos),fun i hi=>?_,fun i hi=>?_,fun q=>?_,fun q r hr=>?_,fun i=>?_,fun x=>?_⟩
 ·rcases Nat.lt_or_ge i p with h1|h1
  ·rw [h.low i h1,h.ech.low p b hb i h1];simp
  ·have:i=p:=by omega
   subst this
   show k*f i + -m*b i=0
   have e1:=hm.kg
   have e2:=hm.mg
   have:k*f i + -m*b i=0:=by
    calc k*f i + -m*b i=k*(m*g) + -m*(k*g):=by rw [e1,e2]
     _=0:=by grind
   exact this
 ·rw [h.high i hi,h.ech.high p b hb i hi];simp
 ·rw [←h.same q]
  by_cases e:q=p
  ·subst e;rw [put_same,hb];rfl
  ·rw [put_other _ _ _ e]
 ·rw [hc]
  rcases put_some hr with ⟨rfl,rfl⟩|⟨hne,hr⟩
  ·exact fun i=>(hm.bound (bb q) (h.bdf q) hX1 (bb i) (h.bdf i)).2.2.1
  ·exact (h.bdL q r hr).mono (lv_step hX _)
 ·rw [hc];exact (hm.bound (bb p) (h.bdf p) hX1 (bb i) (h.bdf i)).2.2.2.2.2
 ·rw [←h.gen x,←meet_gen (L:=L) (v:=f) hb s t k m hm.one x]
  have e:(fun i=>k*f i + -m*b i)=fun i=>k*f i-m*b i:=funext fun i=>by grind
  rw [e]
theorem InsAt.take {n X p:Nat} {L0 L:Lt} {f0 f:V} (h:InsAt n X L0 f0 p L f) (hX:0<X) (hp:p<n) (hb:L p=none) (e:Int) (he:e=1∨e = -1) (h0:0<e*f p):Ins n X L0 f0 (put L p fun i=>e*f i):=by
 have hm:lv X (cnt L0 p)≤lv X (cnt L0 n):=lv_mono hX (cnt_mono L0 (by omega))
 refine ⟨h.ech.put hp (fun i hi=>by rw [h.low i hi];simp) (fun i hi=>by rw [h.high i hi];simp) h0,fun q r hr=>?_,?_,fun x=>?_⟩
 ·rcases put_some hr with ⟨rfl,rfl⟩|⟨hne,hr⟩
  ·intro i
   have:=h.bdf i
   rcases he with rfl|rfl<;>(simp only;omega)
  ·exact (h.bdL q r hr).mono hm
 ·have h1:=(cnt_put L p (fun i=>e*f i) n).1
  rw [cnt_congr (L:=L) (M:=L0) (p:=n) fun q _=>h.same q] at h1
  exact h1
 ·rw [←h.gen x];exact take_gen hb e he x
theorem InsAt.done {n X:Nat} {L0 L:Lt} {f0 f:V} (h:InsAt n X L0 f0 n L f):Ins n X L0 f0 L:=by
 refine ⟨h.ech,h.bdL,?_,fun x=>?_⟩
 ·rw [cnt_congr (L:=L) (M:=L0) (p:=n) fun q _=>h.same q];omega
 ·rw [←h.gen x]
  refine (none_gen (fun i=>?_) x).symm
  rcases Nat.lt_or_ge i n with h1|h1
  ·exact h.low i h1
  ·exact h.high i h1
end Go.Proofs.YtkljafmdbajfeaaGreatDoor.Lp

namespace Go.Proofs.YtkljafmdbajfeaaGreatDoor.Lp
set_option linter.unusedVariables false
set_option linter.unusedSimpArgs false
structure TidyAt (n X:Nat) (L0 L:Lt) (P:Nat):Prop where
 ech:Ech n L
 same:∀ q,(L q).isSome=(L0 q).isSome
 gen:∀ x,Gen (From L 0) x↔Gen (From L0 0) x
 red:∀ p r q s,L p=some r→L q=some s→q<p→p<P→0≤s p∧s p<r p
 keep:∀ p,P≤p→L p=L0 p
 bd:Bd (lv X (cnt L0 P)) L
structure TidyIn (n X:Nat) (L0 L:Lt) (p Q:Nat):Prop where
 ech:Ech n L
 same:∀ q,(L q).isSome=(L0 q).isSome
 gen:∀ x,Gen (From L 0) x↔Gen (From L0 0) x
 red:∀ a r q s,L a=some r→L q=some s→q<a→a<p→0≤s a∧s a<r a
 keep:∀ a,p≤a→L a=L0 a
 bd:Bd (lv X (cnt L0 p+1)) L
 rest:∀ q s,Q≤q→L q=some s→BdV (lv X (cnt L0 p)) s
 here:∀ q s r,q<Q→q<p→L q=some s→L p=some r→0≤s p∧s p<r p
theorem TidyAt.start {n X:Nat} {L:Lt} (h:Ech n L) (hb:Bd X L):TidyAt n X L L 0 :=
 ⟨h,fun q=>rfl,fun x=>Iff.rfl,fun p r q s _ _ _ h=>by omega,fun p _=>rfl,hb⟩
theorem TidyAt.into {n X P p:Nat} {L0 L:Lt} (h:TidyAt n X L0 L P) (hX:0<X) (hP:P≤p) (hno:∀ q,P≤q→q<p→L q=none):TidyIn n X L0 L p 0:=by
 have hm:lv X (cnt L0 P)≤lv X (cnt L0 p):=lv_mono hX (cnt_mono L0 hP)
 refine ⟨h.ech,h.same,h.gen,fun a r q s ha hq hqa hap=>?_,fun a ha=>h.keep a (by omega),h.bd.mono (Nat.le_trans hm (lv_step hX _)),fun q s _ hs=>(h.bd q s hs).mono hm,fun q s r hq=>by omega⟩
 rcases Nat.lt_or_ge a P with h1|h1
 ·exact h.red a r q s ha hq hqa h1
 ·rw [hno a h1 hap] at ha;cases ha
theorem TidyIn.step {n X p Q q:Nat} {L0 L:Lt} {r s:V} (h:TidyIn n X L0 L p Q) (hX:0<X) (h0:Bd X L0) (hQ:Q≤q) (hno:∀ a,Q≤a→a<q→L a=none) (hq:L q=some s) (hp:L p=some r) (hqp:q<p) :
 TidyIn n X L0 (put L q fun i=>s i + -(s p / r p)*r i) p (q+1):=by
 have hrp:=h.ech.pos p r hp
 have hsq:=h.ech.pos q s hq
 have hr0:∀ i,i<p→r i=0:=h.ech.low p r hp
 have hX1:=lv_pos hX (cnt L0 p)
 have hbr:BdV (lv X (cnt L0 p)) r:=by
  have:=h.keep p (Nat.le_refl _)
  rw [hp] at this
  exact (h0 p r this.symm).mono (lv_mono hX (Nat.zero_le _))
 have hbs:=h.rest q s hQ hq
 have hmod:s p + -(s p / r p)*r p=s p % r p:=by
  have:=Int.emod_add_mul_ediv (s p) (r p)
  have h2 : -(s p / r p)*r p = -(r p*(s p / r p)):=by rw [Int.neg_mul,Int.mul_comm]
  rw [h2];omega
 have hm0:=Int.emod_nonneg (s p) (by omega:r p≠0)
 have hm1:=Int.emod_lt_of_pos (s p) hrp
 refine ⟨h.ech.put (h.ech.lt q s hq) (fun i hi=>?_) (fun i hi=>?_) ?_,fun a=>?_,fun x=>?_,fun a u c t ha hc hca hap=>?_,fun a ha=>?_,fun a t ha=>?_,fun a t haQ ha=>?_,fun a t u haq hap ha hu=>?_⟩
 ·rw [h.ech.low q s hq i hi,hr0 i (by omega)];simp
 ·rw [h.ech.high q s hq i hi,h.ech.high p r hp i hi];simp
 ·rw [hr0 q hqp];simp;exact hsq
 ·rw [←h.same a]
  by_cases e:a=q
  ·subst e;rw [put_same,hq];rfl
  ·rw [put_other _ _ _ e]
 ·rw [←h.gen x];exact down_gen hp hq (by omega) _ x
 ·rcases put_some ha with ⟨rfl,rfl⟩|⟨hne,ha'⟩
  ·have hcq:c≠a:=by omega
   rw [put_other _ _ _ hcq] at hc
   have:=h.red a s c t hq hc hca hap
   show 0≤t a∧t a<s a + -(s p / r p)*r a
   rw [hr0 a hqp];simpa using this
  ·rcases put_some hc with ⟨rfl,rfl⟩|⟨hne2,hc⟩
   ·have:=h.red a u c s ha' hq hca hap
    show 0≤s a + -(s p / r p)*r a∧s a + -(s p / r p)*r a<u a
    rw [hr0 a hap];simpa using this
   ·exact h.red a u c t ha' hc hca hap
 ·rw [put_other _ _ _ (by omega)];exact h.keep a ha
 ·rcases put_some ha with ⟨rfl,rfl⟩|⟨hne,ha⟩
  ·intro i
   have h1:(-(s p / r p)).natAbs≤lv X (cnt L0 p):=by
    have h2:=hbs p
    have h3:(s p / r p).natAbs≤(s p).natAbs:=by
     rcases Int.lt_or_le (s p) 0 with h4|h4
     ·have h5:s p≤s p / r p:=Int.le_ediv_of_mul_le hrp (by
       have:s p*r p≤s p*1:=Int.mul_le_mul_of_nonpos_left (by omega) (by omega)
       omega)
      have h6:s p / r p<0:=Int.ediv_neg_of_neg_of_pos h4 hrp
      omega
     ·have h5:s p / r p≤s p:=Int.ediv_le_self (r p) h4
      have h6:0≤s p / r p:=Int.ediv_nonneg h4 (by omega)
      omega
    omega
   have h2:=mul_abs h1 (hbr i)
   have h3:=hbs i
   have h4:lv X (cnt L0 p)*1≤lv X (cnt L0 p)*lv X (cnt L0 p):=Nat.mul_le_mul_left _ hX1
   show (s i + -(s p / r p)*r i).natAbs≤3*(lv X (cnt L0 p)*lv X (cnt L0 p))
   omega
  ·exact h.bd a t ha
 ·rw [put_other _ _ _ (by omega)] at ha
  exact h.rest a t (by omega) ha
 ·have hpq:p≠q:=by omega
  rw [put_other _ _ _ hpq,hp] at hu
  cases hu
  rcases put_some ha with ⟨rfl,rfl⟩|⟨hne,ha⟩
  ·show 0≤s p + -(s p / r p)*r p∧s p + -(s p / r p)*r p<r p
   rw [hmod];exact ⟨hm0,hm1⟩
  ·rcases Nat.lt_or_ge a Q with h1|h1
   ·exact h.here a t r h1 hap ha hp
   ·rw [hno a h1 (by omega)] at ha;cases ha
theorem TidyIn.done {n X p Q:Nat} {L0 L:Lt} {r:V} (h:TidyIn n X L0 L p Q) (hp:L p=some r) (hno:∀ a,Q≤a→a<p→L a=none):TidyAt n X L0 L (p+1):=by
 have hc:cnt L0 (p+1)=cnt L0 p+1:=by simp only [cnt];rw [←h.same p,hp];rfl
 refine ⟨h.ech,h.same,h.gen,fun a u q s ha hq hqa hap=>?_,fun a ha=>h.keep a (by omega),by rw [hc];exact h.bd⟩
 rcases Nat.lt_or_ge a p with h1|h1
 ·exact h.red a u q s ha hq hqa h1
 ·have:a=p:=by omega
  subst this
  rcases Nat.lt_or_ge q Q with h2|h2
  ·exact h.here q s u h2 hqa hq ha
  ·rw [hno q h2 hqa] at hq;cases hq
theorem TidyAt.all {n X P:Nat} {L0 L:Lt} (h:TidyAt n X L0 L P) (hP:∀ q,P≤q→L q=none):Red L:=fun p r q s hp hq hqp=>by
 rcases Nat.lt_or_ge p P with h1|h1
 ·exact h.red p r q s hp hq hqp h1
 ·rw [hP p h1] at hp;cases hp
def pivots (L:Lt) (n:Nat):List Nat:=(List.range n).filter fun p=>(L p).isSome
theorem pivots_succ (L:Lt) (n:Nat):pivots L (n+1)=pivots L n ++ if (L n).isSome then [n] else []:=by
 unfold pivots;rw [List.range_succ,List.filter_append];simp [List.filter_cons]
theorem mem_pivots {L:Lt} {n p:Nat}:p∈pivots L n↔p<n∧(L p).isSome=true:=by unfold pivots;simp [List.mem_filter]
theorem pivots_sorted (L:Lt) (n:Nat):(pivots L n).Pairwise (·<·):=by unfold pivots;exact List.pairwise_lt_range.filter _
theorem pivots_lt {L:Lt} {n i j:Nat} (hi:i<(pivots L n).length) (hj:j<(pivots L n).length) (h:i<j):(pivots L n)[i]<(pivots L n)[j]:=List.pairwise_iff_getElem.1 (pivots_sorted L n) i j hi hj h
theorem pivots_gap {L:Lt} {n i P:Nat} (hi:i<(pivots L n).length) (hP:∀ j,j<i→∀ hj:j<(pivots L n).length,(pivots L n)[j]<P) {q:Nat} (h1:P≤q) (h2:q<(pivots L n)[i]):L q=none:=by
 cases hq:L q with
 | none=>rfl
 | some r =>
   exfalso
   have hn:(pivots L n)[i]<n:=(mem_pivots.1 (List.getElem_mem hi)).1
   have hm:q∈pivots L n:=mem_pivots.2 ⟨by omega,by rw [hq];rfl⟩
   obtain ⟨j,hj,e⟩:=List.getElem_of_mem hm
   rcases Nat.lt_or_ge j i with h|h
   ·have:=hP j h hj;omega
   ·rcases Nat.lt_or_ge i j with h3|h3
    ·have:=pivots_lt hi hj h3;omega
    ·have:i=j:=by omega
     subst this;omega
theorem pivots_end {L:Lt} {n P:Nat} (hE:∀ p r,L p=some r→p<n) (hP:∀ j,∀ hj:j<(pivots L n).length,(pivots L n)[j]<P) {q:Nat} (h1:P≤q):L q=none:=by
 cases hq:L q with
 | none=>rfl
 | some r =>
   exfalso
   have hm:q∈pivots L n:=mem_pivots.2 ⟨hE q r hq,by rw [hq];rfl⟩
   obtain ⟨j,hj,e⟩:=List.getElem_of_mem hm
   have:=hP j hj;omega
theorem pivots_congr {L M:Lt} {n:Nat} (h:∀ q,(L q).isSome=(M q).isSome):pivots L n=pivots M n:=by
 unfold pivots;congr 1;funext p;exact h p
end Go.Proofs.YtkljafmdbajfeaaGreatDoor.Lp

namespace Go.Proofs.YtkljafmdbajfeaaGreatDoor
set_option linter.unusedVariables false
set_option linter.unusedSimpArgs false
open Go.Lib (hid)
section
open Go.RowKit
def Enters (fid:FuncId):Prop:=∀ args w,(callFunc fid args).run Tryz.prog w=.ok (.enter fid args) w
def Tells (fid:FuncId) (caps:Array Value) (p:Int→Bool) (w:World) (xs:List Int):Prop :=
 Enters fid∧∀ x∈xs,∀ w1,Below w.heap.size w w1→Calls Tryz.prog fid (#[.int .i64 x] ++ caps) w1 fun e w2=>e=.returned (.bool (p x))∧Below w1.heap.size w1 w2
def TellsR (fid:FuncId) (caps:Array Value) (p:List Int→Bool) (w:World) (l:List (List Int)):Prop :=
 Enters fid∧∀ x∈l,∀ A c w1,Below w.heap.size w w1→Ints w1 A x→Calls Tryz.prog fid (#[.slice A x.length c] ++ caps) w1 fun e w2=>e=.returned (.bool (p x))∧Below w1.heap.size w1 w2
set_option maxHeartbeats 400000 in
theorem indexFunc_int (fid:FuncId) (caps:Array Value) (p:Int→Bool) (A:Option Addr) (c:Nat) (xs:List Int) (w:World) (hm:xs.length≤maxLen)
 (hA:Ints w A xs) (hf:Tells fid caps p w xs) :
 Calls Tryz.prog 151 #[.slice A xs.length c,.func (.func fid) #[] caps] w fun e w'=>∃ r:Int,e=.returned (.int .i64 r)∧decide (0≤r)=xs.any p∧Below w.heap.size w w':=by
 unfold maxLen at hm
 obtain ⟨hent,hf⟩:=hf
 go_enter Tryz.func151,Tryz.ntmps151
 go_wp2
 go_loopw [8] (fun i wr=>∃ k:Nat,k≤xs.length∧i=.int .i64 k∧(xs.take k).any p=false∧Below w.heap.size w wr) (fun i _=>xs.length-(intOf i).toNat)
 case atStart=>exact ⟨0,Nat.zero_le _,rfl,by simp,Below.refl _ _⟩
 case round =>
  obtain ⟨k,hk,rfl,hn,hb⟩:=hrel
  by_cases hlt:k<xs.length
  ·obtain ⟨b,off,rfl,g⟩:=(hA.ext hb) k hlt
   have hcall:=hf (nth xs k) (nth_mem hlt) wr hb
   have ht:=take_nth hlt
   have hany:xs.any p=((xs.take k).any p || (p (nth xs k) || (xs.drop (k+1)).any p)):=by
    rw [←List.any_cons,nth_lt hlt,←List.drop_eq_getElem_cons hlt,←List.any_append,List.take_append_drop]
   have hany2:(xs.take (k+1)).any p=((xs.take k).any p || p (nth xs k)):=by rw [ht,List.any_append];simp
   have HH:=hid hany;have H2:=hid hany2;have HN:=hid hn
   clear hany hany2 hn ht
   cases hp:p (nth xs k)
   all_goals
    rw [hp] at hcall
    have HP:=hid hp
    clear hp
    go_wp2_with (rw [hent,Oper.upon_enter];refine hcall.mono ?_;rintro e w2 ⟨rfl,hb2⟩)
   ·go_roundw
    case rel=>exact ⟨k+1,by omega,by go_num,by rw [H2.out,HN.out,HP.out];rfl,ext_trans hb hb2⟩
    case measure=>simp [intOf];omega
   ·go_ret
    exact ⟨_,rfl,by rw [HH.out,HP.out];simp,ext_trans hb hb2⟩
  ·obtain rfl:k=xs.length:=by omega
   go_wp2
   go_ret
   rw [List.take_length] at hn
   exact ⟨_,rfl,by rw [hn];rfl,hb⟩
set_option maxHeartbeats 400000 in
theorem containsFunc_int (fid:FuncId) (caps:Array Value) (p:Int→Bool) (A:Option Addr) (c:Nat) (xs:List Int) (w:World) (hm:xs.length≤maxLen)
 (hA:Ints w A xs) (hf:Tells fid caps p w xs) :
 Calls Tryz.prog 98 #[.slice A xs.length c,.func (.func fid) #[] caps] w fun e w'=>e=.returned (.bool (xs.any p))∧Below w.heap.size w w':=by
 go_enter Tryz.func98,Tryz.ntmps98
 go_wp2_with (go_at_call 151;refine (indexFunc_int fid caps p _ _ xs _ hm hA hf).mono ?_;rintro e w' ⟨r,rfl,hr,hb⟩)
 go_ret
 exact ⟨rfl,hb⟩
set_option maxHeartbeats 400000 in
theorem indexFunc_row (fid:FuncId) (caps:Array Value) (p:List Int→Bool) (A:Option Addr) (c:Nat) (xs:List (List Int)) (w:World) (hm:xs.length≤maxLen)
 (hA:Grid w A xs) (hf:TellsR fid caps p w xs) :
 Calls Tryz.prog 159 #[.slice A xs.length c,.func (.func fid) #[] caps] w fun e w'=>∃ r:Int,e=.returned (.int .i64 r)∧decide (0≤r)=xs.any p∧Below w.heap.size w w':=by
 unfold maxLen at hm
 obtain ⟨hent,hf⟩:=hf
 go_enter Tryz.func159,Tryz.ntmps159
 go_wp2
 go_loopw [8] (fun i wr=>∃ k:Nat,k≤xs.length∧i=.int .i64 k∧(xs.take k).any p=false∧Below w.heap.size w wr) (fun i _=>xs.length-(intOf i).toNat)
 case atStart=>exact ⟨0,Nat.zero_le _,rfl,by simp,Below.refl _ _⟩
 case round =>
  obtain ⟨k,hk,rfl,hn,hb⟩:=hrel
  by_cases hlt:k<xs.length
  ·obtain ⟨b,off,R,cR,rfl,g,_,hR⟩:=(hA.ext hb) k hlt
   have hcall:=hf (nrow xs k) (nrow_mem hlt) R cR wr hb hR
   have ht:=take_nrow hlt
   have hany:xs.any p=((xs.take k).any p || (p (nrow xs k) || (xs.drop (k+1)).any p)):=by
    rw [←List.any_cons,nrow_lt hlt,←List.drop_eq_getElem_cons hlt,←List.any_append,List.take_append_drop]
   have hany2:(xs.take (k+1)).any p=((xs.take k).any p || p (nrow xs k)):=by rw [ht,List.any_append];simp
   have HH:=hid hany;have H2:=hid hany2;have HN:=hid hn
   clear hany hany2 hn ht
   cases hp:p (nrow xs k)
   all_goals
    rw [hp] at hcall
    have HP:=hid hp
    clear hp
    go_wp2_with (rw [hent,Oper.upon_enter];refine hcall.mono ?_;rintro e w2 ⟨rfl,hb2⟩)
   ·go_roundw
    case rel=>exact ⟨k+1,by omega,by go_num,by rw [H2.out,HN.out,HP.out];rfl,ext_trans hb hb2⟩
    case measure=>simp [intOf];omega
   ·go_ret
    exact ⟨_,rfl,by rw [HH.out,HP.out];simp,ext_trans hb hb2⟩
  ·obtain rfl:k=xs.length:=by omega
   go_wp2
   go_ret
   rw [List.take_length] at hn
   exact ⟨_,rfl,by rw [hn];rfl,hb⟩
set_option maxHeartbeats 400000 in
theorem containsFunc_row (fid:FuncId) (caps:Array Value) (p:List Int→Bool) (A:Option Addr) (c:Nat) (xs:List (List Int)) (w:World) (hm:xs.length≤maxLen)
 (hA:Grid w A xs) (hf:TellsR fid caps p w xs) :
 Calls Tryz.prog 112 #[.slice A xs.length c,.func (.func fid) #[] caps] w fun e w'=>e=.returned (.bool (xs.any p))∧Below w.heap.size w w':=by
 go_enter Tryz.func112,Tryz.ntmps112
 go_wp2_with (go_at_call 159;refine (indexFunc_row fid caps p _ _ xs _ hm hA hf).mono ?_;rintro e w' ⟨r,rfl,hr,hb⟩)
 go_ret
 exact ⟨rfl,hb⟩
end
end Go.Proofs.YtkljafmdbajfeaaGreatDoor
