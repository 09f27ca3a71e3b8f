/- Plain laws of Refute: how its numbers come about, and that they refute. -/
import Derived.Test.YtkljafmdbajfeaaGreatDoorNoB43
namespace Go.Proofs.YtkljafmdbajfeaaGreatDoor
set_option linter.unusedVariables false
set_option linter.unusedSimpArgs false
section
namespace Lp
section
variable {n:Nat} {L:Lt} {R:V→Prop} {p:Nat→Nat} {k:Nat} {H:Nat→V}
theorem Piv.hang (h:Piv n L k p H) (hE:Ech n L) {B:Nat} (hR:∀ r,R r→∀ i,(r i).natAbs≤B) (hgen:∀ x,Gen (From L 0) x↔Gen R x) (c:Nat) :
 ∃ D:Int,D≠0∧∃ lam:Nat→Rat,(∀ v,Gen (From L 0) v→(v c:Rat)=sumTo k fun j=>lam j*(v (p j):Rat))∧∀ j,j<k→IsI (lam j*(D:Rat)) (fac k*B ^ k):=by
 obtain ⟨g,g1,-,g3⟩:=h.pick hE (R:=R) (fun i hi=>(hgen _).1 (Gen.one ⟨p i,Nat.zero_le _,h.row i hi⟩)) k (Nat.le_refl _)
 obtain ⟨N,hN⟩:∃ N:Nat→Nat→Rat,N=fun r c=>(g r (p c):Rat):=⟨_,rfl⟩
 rw [←hN] at g3
 have hNI:∀ r c,r<k→c<k→IsI (N r c) B:=fun r c hr _=>by rw [hN];exact isI_of (hR _ (g1 r hr) _)
 have hdet:∀ M:Nat→Nat→Rat,(∀ r c,r<k→c<k→IsI (M r c) B)→IsI (det k M) (fac k*B ^ k):=fun M hM=>by
  have:=det_int (k:=k) (M:=M) (B:=fun _=>B) hM
  rw [prodTo_allS] at this;exact this
 obtain ⟨D,hD,-⟩:=hdet N hNI
 refine ⟨D,fun e=>g3 (by rw [hD,e];rfl),?_⟩
 obtain ⟨lam,hl⟩:=h.rel hE c
 refine ⟨lam,hl,fun j hj=>?_⟩
 have h1:=cramer N lam (fun r=>(g r c:Rat)) (fun r hr=>by
  have:=hl (g r) ((hgen _).2 (Gen.one (g1 r hr)))
  show (g r c:Rat)=_
  rw [this,hN]) j hj
 rw [←hD,←h1]
 refine hdet _ fun r c' hr hc=>?_
 unfold setCol;split
 ·exact isI_of (hR _ (g1 r hr) _)
 ·exact hNI r c' hr hc
end
theorem sumTo_split2 (f:Nat→Rat) (a:Nat):∀ b,sumTo (a+b) f=sumTo a f+sumTo b fun j=>f (a+j)
 | 0=>by simp [sumTo];grind
 | b+1=>by
   show sumTo (a+b) f+f (a+b)=sumTo a f+(sumTo b (fun j=>f (a+j))+f (a+b))
   rw [sumTo_split2 f a b];grind
end Lp
open Lp (Lt V Ech pivots Gen From Least Piv fac sumZ gen_sum sumTo sumTo_congr sumTo_zero sumTo_one sumTo_add sumTo_mul)
theorem RefY.start (m:Nat) (rc:Lt) (t:Nat):RefY m rc t (t+1) fun i=>if i=t∧rc t=none then 1 else 0 :=
 ⟨fun q hq=>if_neg (by omega),fun q hq hne=>if_neg fun h=>hne h.1,fun q hq hn=>if_neg (by omega),fun q r h1 h2=>by omega,fun h=>if_pos ⟨rfl,h⟩⟩
theorem RefY.skip {m:Nat} {rc:Lt} {t p:Nat} {y:Nat→Rat} (h:RefY m rc t (p+1) y) (hr:rc p=none):RefY m rc t p y :=
 ⟨h.high,fun q hq hne=>h.low q (by omega) hne,h.no,fun q r h1 h2 h3=>by
  by_cases e:q=p
  ·subst e;rw [hr] at h3;cases h3
  ·exact h.row q r (by omega) h2 h3,h.top⟩
def refS (t p k:Nat) (y:Nat→Rat) (r:V):Rat:=(if p=t then 1 else 0)-sumTo k fun j=>y (p+1+j)*(r (p+1+j):Rat)
theorem refS_succ (t p k:Nat) (y:Nat→Rat) (r:V):refS t p (k+1) y r=refS t p k y r-y (p+1+k)*(r (p+1+k):Rat):=by
 unfold refS;simp only [sumTo];grind
theorem RefY.step {m n:Nat} {rc:Lt} {t p:Nat} {y:Nat→Rat} {r:V} {yp:Rat} (h:RefY m rc t (p+1) y) (hE:Ech n rc) (hp:p≤t) (ht:t<m) (hr:rc p=some r)
 (hy:yp*(r p:Rat)=refS t p (t-p) y r):RefY m rc t p fun i=>if i=p then yp else y i:=by
 refine ⟨fun q hq=>?_,fun q hq hne=>?_,fun q hq hn=>?_,fun q s h1 h2 h3=>?_,fun hn=>?_⟩
 ·show (if q=p then yp else y q)=0
  rw [if_neg (by omega)];exact h.high q hq
 ·show (if q=p then yp else y q)=0
  rw [if_neg (by omega)];exact h.low q (by omega) hne
 ·show (if q=p then yp else y q)=0
  rw [if_neg (by rintro rfl;rw [hr] at hn;cases hn)];exact h.no q hq hn
 ·by_cases e:q=p
  ·subst e
   have es:=Option.some.inj (hr.symm.trans h3)
   subst es
   have e1:m=q+((1+(t-q))+(m-(t+1))):=by omega
   have e2:(sumTo m fun i=>(if i=q then yp else y i)*(r i:Rat))=yp*(r q:Rat)+sumTo (t-q) fun j=>y (q+1+j)*(r (q+1+j):Rat):=by
    rw [e1,Lp.sumTo_split2,Lp.sumTo_split2,Lp.sumTo_split2]
    rw [sumTo_zero (n:=q) fun i hi=>by rw [hE.low q r hr i hi,show ((0:Int):Rat)=0 from rfl];grind]
    rw [sumTo_zero (n:=m-(t+1)) fun i hi=>by rw [if_neg (by omega),h.high _ (by omega)];grind]
    have e3:(sumTo 1 fun j=>(if q+j=q then yp else y (q+j))*(r (q+j):Rat))=yp*(r q:Rat):=by
     show 0+(if q+0=q then yp else y (q+0))*(r (q+0):Rat)=_
     rw [if_pos (by omega)];grind
    rw [e3,sumTo_congr (n:=t-q) (g:=fun j=>y (q+1+j)*(r (q+1+j):Rat)) fun j hj=>by rw [if_neg (by omega),show q+(1+j)=q+1+j by omega]]
    grind
   show (sumTo m fun i=>(if i=q then yp else y i)*(r i:Rat))=_
   rw [e2,hy];unfold refS;grind
  ·have e2:(sumTo m fun i=>(if i=p then yp else y i)*(s i:Rat))=sumTo m fun i=>y i*(s i:Rat):=sumTo_congr fun i hi=>by
    by_cases e3:i=p
    ·subst e3;rw [hE.low q s h3 i (by omega),show ((0:Int):Rat)=0 from rfl];grind
    ·rw [if_neg e3]
   show (sumTo m fun i=>(if i=p then yp else y i)*(s i:Rat))=_
   rw [e2];exact h.row q s (by omega) h2 h3
 ·show (if t=p then yp else y t)=1
  rw [if_neg (by rintro rfl;rw [hr] at hn;cases hn)];exact h.top hn
def refK:Nat→Nat
 | 0=>2
 | s+1=>7*refK s+40
theorem refK_le {s:Nat} (h:s≤6):refK s≤1100000:=by
 have:s=0∨s=1∨s=2∨s=3∨s=4∨s=5∨s=6:=by omega
 rcases this with rfl|rfl|rfl|rfl|rfl|rfl|rfl<;>decide
theorem refK_pos:∀ s,2≤refK s
 | 0=>Nat.le_refl _
 | s+1=>by unfold refK;omega
theorem Sq.int {z:Int} (h:z.natAbs<18446744073709551616):Sq 2 (z:Rat) :=
 ⟨by rw [Rat.num_intCast];exact digits_small.2 h,by rw [Rat.den_intCast];exact digits_small.2 (by decide)⟩
theorem Sq.refS {t p K:Nat} {y:Nat→Rat} {r:V} (hy:∀ i,Sq K (y i)) (hr:∀ i,(r i).natAbs≤3149280000000):∀ k,Sq (2+k*(K+3)) (refS t p k y r)
 | 0=>by
   unfold Go.Proofs.YtkljafmdbajfeaaGreatDoor.refS
   have e:((if p=t then (1:Rat) else 0)-sumTo 0 fun j=>y (p+1+j)*(r (p+1+j):Rat))=((if p=t then 1 else 0:Int):Rat):=by
    simp only [sumTo];split<;>grind
   rw [e]
   exact (Sq.int (by split<;>decide)).mono (by omega)
 | k+1=>by
   rw [refS_succ]
   refine ((Sq.refS hy hr k).sub ((hy (p+1+k)).mul (Sq.int (z:=r (p+1+k)) (by have:=hr (p+1+k);omega)))).mono ?_
   have:(k+1)*(K+3)=k*(K+3)+(K+3):=Nat.succ_mul _ _
   omega
structure RefOk (F:Nat→V) (m n:Nat) (b z:V) (d:Int):Prop where
 one:1≤d
 most:d≤524880000000
 low:∀ i,i<m→0≤z i∧z i<d
 col:∀ j,j<n→d ∣ sumZ m fun i=>z i*F i j
 right:¬ d ∣ sumZ m fun i=>z i*b i
theorem sumZ_mod {f g h:Nat→Int} {d:Int} {m:Nat} (e:∀ i,i<m→d ∣ f i-g i):d ∣ (sumZ m fun i=>f i*h i)-sumZ m fun i=>g i*h i:=by
 rw [←sumZ_sub]
 induction m with
 | zero=>exact ⟨0,by simp [sumZ]⟩
 | succ m ih =>
   unfold sumZ
   refine Int.dvd_add (ih fun i hi=>e i (by omega)) ?_
   show d ∣ f m*h m-g m*h m
   rw [←Int.sub_mul]
   exact Int.dvd_trans (e m (by omega)) ⟨h m,rfl⟩
theorem sumZ_divs {f:Nat→Int} {g:Int} {m:Nat} (e:∀ i,i<m→g ∣ f i):g ∣ sumZ m f:=by
 induction m with
 | zero=>exact ⟨0,by simp [sumZ]⟩
 | succ m ih=>unfold sumZ;exact Int.dvd_add (ih fun i hi=>e i (by omega)) (e m (by omega))
theorem sumZ_mul (c:Int) (f:Nat→Int) (n:Nat):(sumZ n fun i=>c*f i)=c*sumZ n f:=by
 have:=sumZ_lin c (fun _=>0) f n
 rw [sumZ_zero (f:=fun _=>0) fun i _=>rfl] at this
 rw [show c*sumZ n f=0+c*sumZ n f by omega,←this]
 exact sumZ_congr fun i _=>by omega
theorem jrow_sat (F:Nat→V) (m n:Nat) {j:Nat} (hj:j<n):Sat F m n (jrow F m j):=(gen_joint F m n _).1 (Gen.one (List.mem_map.2 ⟨j,List.mem_range.2 hj,rfl⟩))
theorem numD_sum {y:Nat→Rat} {m:Nat} (h:Nat→Int):((sumZ m fun i=>numD y m i*h i:Int):Rat)=(lcmD y m:Rat)*sumTo m fun i=>y i*(h i:Rat):=by
 rw [Lp.sumZ_cast,←sumTo_mul]
 exact sumTo_congr fun i hi=>by rw [Rat.intCast_mul,numD_eq hi];grind
theorem lcm_ne (y:Nat→Rat) (m:Nat):(lcmD y m:Rat)≠0:=fun e=>by
 have:=lcmD_pos y m
 have h2:=Rat.natCast_inj.1 (show ((lcmD y m:Nat):Rat)=((0:Nat):Rat) from e)
 omega
theorem RefY.cols {F:Nat→V} {m n:Nat} {rc rn:Lt} (hs:SysV F m n rc rn) {t:Nat} {y:Nat→Rat} (h:RefY m rc t 0 y) (ht:t<m) {j:Nat} (hj:j<n) :
 ∃ z:Int,(sumZ m fun i=>numD y m i*F i j)=(lcmD y m:Int)*z∧(rc t=none→z=0):=by
 obtain ⟨z,h1,h2⟩:=h.int hs ht (jrow_sat F m n hj)
 refine ⟨z,?_,h2⟩
 have e:(sumTo m fun i=>y i*(jrow F m j i:Rat))=sumTo m fun i=>y i*(F i j:Rat):=sumTo_congr fun i hi=>by unfold jrow;rw [if_pos hi]
 rw [e] at h1
 have h3:=numD_sum (y:=y) (m:=m) fun i=>F i j
 rw [h1] at h3
 refine Rat.intCast_inj.1 ?_
 rw [h3,Rat.intCast_mul,Rat.intCast_natCast]
theorem RefY.some_ok {F:Nat→V} {m n:Nat} {rc rn:Lt} (hs:SysV F m n rc rn) {t:Nat} {y:Nat→Rat} (h:RefY m rc t 0 y) (ht:t<m) {b v r:V} (hv:SolAt F m n rc b t v) (hr:rc t=some r) (hd:¬ r t ∣ v t)
 {D:Nat} (hD0:0<D) (hD:D≤524880000000) (hden:∀ i,i<m→(y i).den ∣ D) :
 RefOk F m n b (fun i=>numD y m i % (lcmD y m:Int)) (lcmD y m):=by
 have hp:=lcmD_pos y m
 have hl:lcmD y m≤524880000000:=Nat.le_trans (Nat.le_of_dvd hD0 (lcmD_dvd fun i hi=>hden i hi)) hD
 have hm:∀ i,(lcmD y m:Int) ∣ numD y m i % (lcmD y m:Int)-numD y m i:=fun i=>by
  refine ⟨-(numD y m i / (lcmD y m:Int)),?_⟩
  have:=Int.emod_add_mul_ediv (numD y m i) (lcmD y m:Int)
  rw [Int.mul_neg];omega
 refine ⟨by omega,by omega,fun i hi=>⟨Int.emod_nonneg _ (by omega),Int.emod_lt_of_pos _ (by omega)⟩,fun j hj=>?_,fun hdv=>?_⟩
 ·obtain ⟨z,h1,-⟩:=h.cols hs ht hj
  have h2:=sumZ_mod (h:=fun i=>F i j) (m:=m) fun i _=>hm i
  rw [h1] at h2
  have:=Int.dvd_add h2 (Int.dvd_mul_right (lcmD y m:Int) z)
  rw [Int.sub_add_cancel] at this
  exact this
 ·have h2:=sumZ_mod (h:=fun i=>b i) (m:=m) fun i _=>hm i
  have h3:=Int.dvd_sub hdv h2
  rw [Int.sub_sub_self] at h3
  obtain ⟨c,hc⟩:=h3
  obtain ⟨z,h4,-⟩:=h.right hs ht hv
  have h5:=numD_sum (y:=y) (m:=m) fun i=>b i
  rw [hc,h4,Rat.intCast_mul,Rat.intCast_natCast] at h5
  have h6:(c:Rat)=y t*(v t:Rat)+(z:Rat):=by
   have hn:=lcm_ne y m
   have h7:(lcmD y m:Rat)*((c:Rat)-(y t*(v t:Rat)+(z:Rat)))=0:=by grind
   rcases Rat.mul_eq_zero.1 h7 with h8|h8
   ·exact absurd h8 hn
   ·grind
  have h7:=h.at hs.echC ht hr
  refine hd ⟨c-z,?_⟩
  refine Rat.intCast_inj.1 ?_
  rw [Rat.intCast_mul,Rat.intCast_sub,h6]
  have:(v t:Rat)=(r t:Rat)*(y t*(v t:Rat)):=by
   have:(r t:Rat)*(y t*(v t:Rat))=(y t*(r t:Rat))*(v t:Rat):=by grind
   rw [this,h7];grind
  grind
theorem num_le {x:Rat} {D:Int} (hD:D≠0) {K:Nat} (h:Lp.IsI (x*(D:Rat)) K):x.num.natAbs≤K:=by
 obtain ⟨z,hz,hk⟩:=h
 have h2:x*(x.den:Rat)=(x.num:Rat):=mdn x
 have h3:x.num*D=z*(x.den:Int):=by
  refine Rat.intCast_inj.1 ?_
  rw [Rat.intCast_mul,Rat.intCast_mul,Rat.intCast_natCast,←h2,←hz];grind
 have h4:x.num.natAbs ∣ z.natAbs*x.den:=by
  have:=Int.natAbs_dvd_natAbs.2 (⟨D,h3.symm⟩:x.num ∣ z*(x.den:Int))
  rw [Int.natAbs_mul,Int.natAbs_natCast] at this;exact this
 have h5:x.num.natAbs ∣ z.natAbs:=Nat.Coprime.dvd_of_dvd_mul_right x.reduced h4
 by_cases h0:z=0
 ·subst h0
  have:x.num*D=0:=by rw [h3];simp
  rcases Int.mul_eq_zero.1 this with h6|h6
  ·rw [h6];simp
  ·exact absurd h6 hD
 ·exact Nat.le_trans (Nat.le_of_dvd (by omega) h5) hk
theorem RefY.num_small {F:Nat→V} {m n:Nat} {rc rn:Lt} (hs:SysV F m n rc rn) {t:Nat} {y:Nat→Rat} (h:RefY m rc t 0 y) (ht:t<m) (hn:rc t=none) (i:Nat):(y i).num.natAbs≤524880000000:=by
 have hp:=piv_of hs.echC
 obtain ⟨k,hkk⟩:∃ k,(pivots rc (m+n)).length=k:=⟨_,rfl⟩
 have hk:k≤6:=by have:=hs.cnt;have:=hs.n6;omega
 rw [hkk] at hp
 have hgen:∀ x,Gen (From rc 0) x↔Gen (·∈jrows F m n) x:=fun x=>(hs.genC x).trans (gen_joint F m n x).symm
 have hK:fac k*30 ^ k≤524880000000:=Lp.fac_all hk
 have hzero:∀ q,y q=0→(y q).num.natAbs≤524880000000:=fun q e=>by rw [e];decide
 rcases Nat.lt_trichotomy i t with h1|h1|h1
 ·cases hr:rc i with
  | none=>exact hzero i (h.no i h1 hr)
  | some r =>
    obtain ⟨j,hj,e⟩:=hp.all i r hr
    obtain ⟨D,d1,-,d3⟩:=hp.unit hs.echC (R:=(·∈jrows F m n)) (B:=30) (by omega) (jrow_bd hs.bd) hgen
    obtain ⟨E,e1,lam,l1,l2⟩:=hp.hang hs.echC (R:=(·∈jrows F m n)) (B:=30) (jrow_bd hs.bd) hgen t
    obtain ⟨v,v1,v2,v3⟩:=d3 j hj
    obtain ⟨z,h2,h3⟩:=h.int hs ht ((hs.genC v).1 v1)
    rw [h3 hn] at h2
    have e2:(sumTo m fun q=>y q*(v q:Rat))=y i*(v i:Rat)+y t*(v t:Rat):=by
     refine Lp.sumTo_two i t (by omega) ht h1 fun q hq h3 h4=>?_
     rcases Nat.lt_or_ge q t with h5|h5
     ·cases hq2:rc q with
      | none=>rw [h.no q h5 hq2];grind
      | some s =>
        obtain ⟨l,hl,e3⟩:=hp.all q s hq2
        have:=v3 l hl fun e4=>h3 (by rw [←e3,←e,e4])
        rw [e3] at this
        rw [this,show ((0:Int):Rat)=0 from rfl];grind
     ·rw [h.high q (by omega)];grind
    have e3:(v t:Rat)=lam j*(v i:Rat):=by
     rw [l1 v v1,sumTo_one j hj fun l hl hne=>by rw [v3 l hl hne,show ((0:Int):Rat)=0 from rfl];grind,e]
    rw [e] at v2
    have hv0:(v i:Rat)≠0:=fun e4=>d1 (by rw [←v2];exact Rat.intCast_inj.1 (show ((v i:Int):Rat)=((0:Int):Rat) from e4))
    have e4:y i = -lam j:=by
     rw [h2,h.top hn,e3,show ((0:Int):Rat)=0 from rfl] at e2
     have e5:(y i+lam j)*(v i:Rat)=0:=by grind
     rcases Rat.mul_eq_zero.1 e5 with h6|h6
     ·grind
     ·exact absurd h6 hv0
    refine Nat.le_trans (num_le (D := -E) (by omega) (K:=fac k*30 ^ k) ?_) hK
    have:=l2 j hj
    rw [e4,Rat.intCast_neg]
    rw [show -lam j * -(E:Rat)=lam j*(E:Rat) by grind];exact this
 ·subst h1;rw [h.top hn];decide
 ·exact hzero i (h.high i h1)
theorem sumZ_abs {f:Nat→Int} {K:Nat}:∀ {m:Nat},(∀ i,i<m→(f i).natAbs≤K)→(sumZ m f).natAbs≤m*K
 | 0,_=>by simp [sumZ]
 | m+1,h=>by
   unfold sumZ
   have h1:=sumZ_abs (f:=f) (K:=K) (m:=m) fun i hi=>h i (by omega)
   have h2:=h m (by omega)
   rw [Nat.succ_mul];omega
theorem RefY.none_ok {F:Nat→V} {m n:Nat} {rc rn:Lt} (hs:SysV F m n rc rn) {t:Nat} {y:Nat→Rat} (h:RefY m rc t 0 y) (ht:t<m) (hm:m≤6) {b v:V} (hb:∀ i,i<m→(b i).natAbs≤1000) (hv:SolAt F m n rc b t v) (hn:rc t=none) (hz:v t≠0)
 {D:Nat} (hD0:0<D) (hD:D≤524880000000) (hden:∀ i,i<m→(y i).den ∣ D) {g:Int} (hg:g≠0) {z:V} (e:∀ i,i<m→z i*g=numD y m i) :
 (∀ j,j<n→(sumZ m fun i=>z i*F i j)=0)∧(sumZ m fun i=>z i*b i)≠0∧(sumZ m fun i=>z i*b i).natAbs≤2000000000000000000000000000:=by
 have hl:lcmD y m≤524880000000:=Nat.le_trans (Nat.le_of_dvd hD0 (lcmD_dvd fun i hi=>hden i hi)) hD
 have hgs:∀ f:Nat→Int,g*(sumZ m fun i=>z i*f i)=sumZ m fun i=>numD y m i*f i:=fun f=>by
  rw [←sumZ_mul];exact sumZ_congr fun i hi=>by rw [←e i hi];grind
 refine ⟨fun j hj=>?_,fun h0=>?_,?_⟩
 ·obtain ⟨c,h1,h2⟩:=h.cols hs ht hj
  have:=hgs fun i=>F i j
  rw [h1,h2 hn,Int.mul_zero] at this
  exact (Int.mul_eq_zero.1 this).resolve_left hg
 ·obtain ⟨c,h4,h5⟩:=h.right hs ht hv
  have h6:=numD_sum (y:=y) (m:=m) fun i=>b i
  rw [←hgs,h0,Int.mul_zero,h4,h5 hn,h.top hn,show ((0:Int):Rat)=0 from rfl] at h6
  have h7:(lcmD y m:Rat)*(v t:Rat)=0:=by grind
  rcases Rat.mul_eq_zero.1 h7 with h8|h8
  ·exact lcm_ne y m h8
  ·exact hz (Rat.intCast_inj.1 (show ((v t:Int):Rat)=((0:Int):Rat) from h8))
 ·have h1:∀ i,i<m→(z i*b i).natAbs≤524880000000*524880000000*1000:=fun i hi=>by
   rw [Int.natAbs_mul]
   refine Nat.mul_le_mul ?_ (hb i hi)
   have h2:(z i).natAbs≤(numD y m i).natAbs:=by
    rw [←e i hi,Int.natAbs_mul];exact Nat.le_mul_of_pos_right _ (by omega)
   refine Nat.le_trans h2 ?_
   unfold numD
   rw [Int.natAbs_mul,Int.natAbs_natCast]
   exact Nat.mul_le_mul (h.num_small hs ht hn i) (Nat.le_trans (Nat.div_le_self _ _) hl)
  have h3:=sumZ_abs h1
  have h4:m*(524880000000*524880000000*1000)≤6*(524880000000*524880000000*1000):=Nat.mul_le_mul_right _ hm
  omega
theorem lcm_list {W:Nat}:∀ {l:List Nat},(∀ k∈l,k ∣ W)→l.foldr Nat.lcm 1 ∣ W
 | [],_=>Nat.one_dvd _
 | a :: l,h=>Nat.lcm_dvd (h a (List.mem_cons_self ..)) (lcm_list fun k hk=>h k (List.mem_cons_of_mem _ hk))
theorem small_divs {W:Int} (h0:W≠0) (hW:W.natAbs≤2000000000000000000000000000) {q:Nat} (h:∀ k:Nat,2≤k→k<q→(k:Int) ∣ W):q≤101:=by
 refine Classical.byContradiction fun hq=>?_
 have h1:((List.range 101).drop 2).foldr Nat.lcm 1 ∣ W.natAbs:=lcm_list fun k hk=>by
  have h2:2≤k∧k<101:=by
   rw [List.range_eq_range',List.drop_range',List.mem_range'_1] at hk
   omega
  exact Int.ofNat_dvd_left.1 (h k h2.1 (by omega))
 have h2:=Nat.le_of_dvd (by omega) h1
 have h3:2000000000000000000000000000<((List.range 101).drop 2).foldr Nat.lcm 1:=by decide +kernel
 omega
theorem mod_ok {F:Nat→V} {m n:Nat} {b z:V} {q:Nat} (h2:2≤q) (hq:q≤101) (hc:∀ j,j<n→(sumZ m fun i=>z i*F i j)=0) (hr:¬ (q:Int) ∣ sumZ m fun i=>z i*b i):RefOk F m n b (fun i=>z i % (q:Int)) q:=by
 have hm:∀ i,(q:Int) ∣ z i % (q:Int)-z i:=fun i=>by
  refine ⟨-(z i / (q:Int)),?_⟩
  have:=Int.emod_add_mul_ediv (z i) (q:Int)
  rw [Int.mul_neg];omega
 refine ⟨by omega,by omega,fun i hi=>⟨Int.emod_nonneg _ (by omega),Int.emod_lt_of_pos _ (by omega)⟩,fun j hj=>?_,fun hdv=>?_⟩
 ·have h2:=sumZ_mod (h:=fun i=>F i j) (m:=m) fun i _=>hm i
  rw [hc j hj,Int.sub_zero] at h2
  exact h2
 ·have h2:=sumZ_mod (h:=fun i=>b i) (m:=m) fun i _=>hm i
  have h3:=Int.dvd_sub hdv h2
  rw [Int.sub_sub_self] at h3
  exact hr h3
def gcdZ (f:Nat→Int):Nat→Nat
 | 0=>0
 | k+1=>Nat.gcd (gcdZ f k) (f k).natAbs
theorem gcdZ_dvd (f:Nat→Int):∀ {k i:Nat},i<k→((gcdZ f k:Nat):Int) ∣ f i
 | k+1,i,h=>by
   rcases Nat.lt_or_ge i k with h1|h1
   ·exact Int.dvd_trans (Int.natCast_dvd_natCast.2 (Nat.gcd_dvd_left _ _)) (gcdZ_dvd f h1)
   ·obtain rfl:i=k:=by omega
    exact Int.ofNat_dvd_left.2 (Nat.gcd_dvd_right _ _)
theorem gcdZ_pos {f:Nat→Int} {k i:Nat} (hi:i<k) (h:f i≠0):gcdZ f k≠0:=fun e=>by
 have:=gcdZ_dvd f hi
 rw [e] at this
 exact h (Int.zero_dvd.1 this)
theorem gcdZ_le {f:Nat→Int} {K:Nat}:∀ {k:Nat},(∀ i,i<k→(f i).natAbs≤K)→gcdZ f k≤K
 | 0,_=>Nat.zero_le _
 | k+1,h=>by
   unfold gcdZ
   by_cases e:(f k).natAbs=0
   ·rw [e,Nat.gcd_zero_right];exact gcdZ_le fun i hi=>h i (by omega)
   ·exact Nat.le_trans (Nat.gcd_le_right _ (by omega)) (h k (by omega))
end
end Go.Proofs.YtkljafmdbajfeaaGreatDoor
