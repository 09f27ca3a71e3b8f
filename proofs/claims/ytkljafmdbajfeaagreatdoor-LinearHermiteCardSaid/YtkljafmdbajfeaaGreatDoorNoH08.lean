/- The rule of the lowest index ends. Plain mathematics. -/
import Derived.Test.YtkljafmdbajfeaaGreatDoorNoH07
namespace Go.Proofs.YtkljafmdbajfeaaGreatDoor
set_option linter.unusedVariables false
set_option linter.unusedSimpArgs false
section
namespace Lp
theorem pigeon:∀ (K:Nat) (g:Nat→Nat),(∀ k,k≤K→g k<K)→∃ a b,a<b∧b≤K∧g a=g b:=by
 intro K
 induction K with
 | zero=>intro g h;have:=h 0 (by omega);omega
 | succ K ih =>
   intro g h
   by_cases e:∃ k,k<K+1∧g k=g (K+1)
   ·obtain ⟨k,h1,h2⟩:=e;exact ⟨k,K+1,h1,Nat.le_refl _,h2⟩
   ·have hne:∀ k,k<K+1→g k≠g (K+1):=fun k hk h2=>e ⟨k,hk,h2⟩
    obtain ⟨a,b,h1,h2,h3⟩:=ih (fun k=>if g k<g (K+1) then g k else g k-1) fun k hk=>by
     have:=h k (by omega);have:=hne k (by omega);have:=h (K+1) (by omega)
     show (if g k<g (K+1) then g k else g k-1)<K
     by_cases e:g k<g (K+1)
     ·rw [if_pos e];omega
     ·rw [if_neg e];omega
    refine ⟨a,b,h1,by omega,?_⟩
    have:=hne a (by omega);have:=hne b (by omega)
    split at h3<;>split at h3<;>omega
def code (N:Nat) (B:Bas):Nat→Nat
 | 0=>0
 | m+1=>code N B m*N+B m
theorem code_lt {N:Nat} {B:Bas} {m:Nat} (h:∀ i,i<m→B i<N):code N B m<N ^ m:=by
 induction m with
 | zero=>simp [code]
 | succ m ih =>
   have h1:=ih fun i hi=>h i (by omega)
   have h2:=h m (by omega)
   unfold code
   rw [Nat.pow_succ]
   have:=Nat.mul_le_mul_right N (show code N B m+1≤N ^ m by omega)
   rw [Nat.add_mul] at this;omega
theorem code_eq {N:Nat} {B C:Bas}:∀ {m:Nat},(∀ i,i<m→B i<N)→(∀ i,i<m→C i<N)→code N B m=code N C m→∀ i,i<m→B i=C i:=by
 intro m
 induction m with
 | zero=>intro _ _ _ i hi;omega
 | succ m ih =>
   intro h k e i hi
   have h2:=h m (by omega);have k2:=k m (by omega)
   unfold code at e
   have e1:B m=C m:=by
    have:=congrArg (· % N) e
    simp only [Nat.mul_comm _ N,Nat.mul_add_mod] at this
    rw [Nat.mod_eq_of_lt h2,Nat.mod_eq_of_lt k2] at this;exact this
   have e2:code N B m=code N C m:=by
    rw [e1] at e
    have:code N B m*N=code N C m*N:=by omega
    exact Nat.eq_of_mul_eq_mul_right (by omega) this
   by_cases e3:i=m
   ·subst e3;exact e1
   ·exact ih (fun i hi=>h i (by omega)) (fun i hi=>k i (by omega)) e2 i (by omega)
variable {M T:Tab} {m N:Nat} {B:Bas}
def Fe (m N:Nat) (T:Tab):Prop:=∀ i,i<m→0≤T i N
def bs (m N:Nat) (T:Tab) (B:Bas) (j:Nat):Rat:=sumTo m fun i=>if B i=j then T i N else 0
theorem Tb.inj (h:Tb M m N T B) {i k:Nat} (hi:i<m) (hk:k<m) (e:B i=B k):i=k:=by
 have h1:=h.unit i k hi hk
 have h2:=h.unit k k hk hk
 rw [if_pos rfl] at h2
 rw [e,h2] at h1
 by_cases e2:k=i
 ·exact e2.symm
 ·rw [if_neg e2] at h1;grind
theorem Tb.bs_basic (h:Tb M m N T B) {i:Nat} (hi:i<m):bs m N T B (B i)=T i N:=by
 unfold bs
 rw [sumTo_one i hi fun k hk hne=>by rw [if_neg fun e=>hne (h.inj hk hi e)]]
 rw [if_pos rfl]
theorem bs_other {j:Nat} (h:∀ i,i<m→B i≠j):bs m N T B j=0:=sumTo_zero fun i hi=>by rw [if_neg (h i hi)]
theorem sum_bs (h:∀ i,i<m→B i<N) (f:Nat→Rat):sumTo N (fun j=>f j*bs m N T B j)=sumTo m fun i=>f (B i)*T i N:=by
 have e1:sumTo N (fun j=>f j*bs m N T B j)=sumTo N fun j=>sumTo m fun i=>if B i=j then f j*T i N else 0 :=
  sumTo_congr fun j hj=>by unfold bs;rw [←sumTo_mul];exact sumTo_congr fun i hi=>by split<;>grind
 rw [e1,sumTo_comm]
 refine sumTo_congr fun i hi=>?_
 rw [sumTo_one (B i) (h i hi) fun j hj hne=>by rw [if_neg fun e=>hne e.symm]]
 rw [if_pos rfl]
theorem Tb.bs_sol (h:Tb M m N T B):∀ r,r<m→sumTo N (fun j=>M r j*bs m N T B j)=1*M r N:=by
 intro r hr
 rw [sum_bs h.lt,h.rows r N hr (Nat.le_refl _),Rat.one_mul]
 exact sumTo_congr fun i hi=>by grind
theorem Fe.bs (h:Fe m N T) (j:Nat):0≤bs m N T B j:=sumTo_nonneg fun i hi=>by
 split
 ·exact h i hi
 ·grind
def cst (m N:Nat) (T:Tab) (B:Bas) (cost:Nat→Rat):Rat:=sumTo m fun i=>cost (B i)*T i N
def dir (m:Nat) (T:Tab) (B:Bas) (s j:Nat):Rat:=(if j=s then 1 else 0)-sumTo m fun i=>if B i=j then T i s else 0
theorem sum_dir (h:∀ i,i<m→B i<N) {s:Nat} (hs:s<N) (f:Nat→Rat):sumTo N (fun j=>f j*dir m T B s j)=f s-sumTo m fun i=>f (B i)*T i s:=by
 have e1:sumTo N (fun j=>f j*dir m T B s j)=sumTo N (fun j=>f j*(if j=s then 1 else 0))-sumTo N fun j=>sumTo m fun i=>if B i=j then f j*T i s else 0:=by
  rw [←sumTo_sub]
  refine sumTo_congr fun j hj=>?_
  have:(sumTo m fun i=>if B i=j then f j*T i s else 0)=f j*sumTo m fun i=>if B i=j then T i s else 0:=by
   rw [←sumTo_mul];exact sumTo_congr fun i hi=>by split<;>grind
  rw [this];unfold dir;grind
 rw [e1,sumTo_comm,sumTo_one s hs fun j hj hne=>by rw [if_neg hne];grind]
 rw [if_pos rfl]
 have:(sumTo m fun j=>sumTo N fun i=>if B j=i then f i*T j s else 0)=sumTo m fun i=>f (B i)*T i s:=by
  refine sumTo_congr fun i hi=>?_
  rw [sumTo_one (B i) (h i hi) fun j hj hne=>by rw [if_neg fun e=>hne e.symm]]
  rw [if_pos rfl]
 rw [this];grind
theorem Tb.dir_sol (h:Tb M m N T B) {s:Nat} (hs:s<N):∀ r,r<m→sumTo N (fun j=>M r j*dir m T B s j)=0*M r N:=by
 intro r hr
 rw [sum_dir h.lt hs,h.rows r s hr (by omega)]
 have:(sumTo m fun i=>M r (B i)*T i s)=sumTo m fun i=>T i s*M r (B i):=sumTo_congr fun i hi=>by grind
 rw [this];grind
theorem Tb.dir_cost (h:Tb M m N T B) {s:Nat} (hs:s<N) (cost:Nat→Rat):sumTo N (fun j=>cost j*dir m T B s j)=redc m T B cost s:=by
 rw [sum_dir h.lt hs];rfl
theorem dir_other {s j:Nat} (h:∀ i,i<m→B i≠j):dir m T B s j=if j=s then 1 else 0:=by
 unfold dir;rw [sumTo_zero fun i hi=>by rw [if_neg (h i hi)]];grind
theorem Tb.dir_basic (h:Tb M m N T B) {s i:Nat} (hi:i<m) (hne:B i≠s):dir m T B s (B i) = - T i s:=by
 unfold dir
 rw [if_neg hne,sumTo_one i hi fun k hk hk2=>by rw [if_neg fun e=>hk2 (h.inj hk hi e)]]
 rw [if_pos rfl];grind
def nxt (m N:Nat) (cost:Nat→Rat) (shut:Nat→Bool) (T:Tab) (B:Bas):Option (Nat × Nat) :=
 match firstTo N (fun j=>!shut j && decide (redc m T B cost j<0)) with
 | none=>none
 | some s=>match pick T B N s m with
   | none=>none
   | some (o,_)=>some (s,o)
structure Stp (m N:Nat) (cost:Nat→Rat) (shut:Nat→Bool) (T:Tab) (B:Bas) (s o:Nat):Prop where
 sN:s<N
 open_:shut s=false
 neg:redc m T B cost s<0
 first:∀ j,j<s→shut j=false→0≤redc m T B cost j
 om:o<m
 pos:0<T o s
 least:∀ i,i<m→0<T i s→T o N / T o s≤T i N / T i s∧(T i N / T i s=T o N / T o s→B o≤B i)
variable {cost:Nat→Rat} {shut:Nat→Bool}
theorem nxt_some {s o:Nat} (h:nxt m N cost shut T B=some (s,o)):Stp m N cost shut T B s o:=by
 unfold nxt at h
 cases e:firstTo N (fun j=>!shut j && decide (redc m T B cost j<0)) with
 | none=>rw [e] at h;cases h
 | some s' =>
   rw [e] at h
   simp only at h
   cases e2:pick T B N s' m with
   | none=>rw [e2] at h;cases h
   | some x =>
     obtain ⟨o',l⟩:=x
     rw [e2] at h;cases h
     obtain ⟨h1,h2,h3⟩:=firstTo_some e
     obtain ⟨k1,k2,k3,k4⟩:=pick_some e2
     simp at h2
     refine ⟨h1,h2.1,h2.2,fun j hj hs=>?_,k1,k2,fun i hi hp=>?_⟩
     ·have:=h3 j hj;simp [hs] at this;grind
     ·rw [←k3];exact k4 i hi hp
variable {s o:Nat}
theorem Stp.basic_ne (h:Stp m N cost shut T B s o) (t:Tb M m N T B):∀ i,i<m→B i≠s:=fun i hi e=>by
 have:=t.redc_basic cost hi;rw [e] at this;have:=h.neg;grind
theorem Stp.tb (h:Stp m N cost shut T B s o) (t:Tb M m N T B):Tb M m N (piv T o s) (pivB B o s):=t.pivot h.om h.sN (by have:=h.pos;grind)
theorem inv_pos {b:Rat} (k:0<b):0≤b⁻¹:=by
 refine Classical.byContradiction fun hn=>?_
 have h1:=Rat.mul_nonneg (show 0≤b by grind) (show 0 ≤ -b⁻¹ by grind)
 have h2:b*b⁻¹=1:=by grind
 grind
theorem div_nonneg {a b:Rat} (h:0≤a) (k:0<b):0≤a / b:=by
 rw [Rat.div_def];exact Rat.mul_nonneg h (inv_pos k)
theorem le_div {a b c:Rat} (k:0<b) (h:c≤a / b):c*b≤a:=by
 have h1:=Rat.mul_le_mul_of_nonneg_right h (show 0≤b by grind)
 have:a / b*b=a:=by grind
 grind
theorem Stp.fe (h:Stp m N cost shut T B s o) (f:Fe m N T):Fe m N (piv T o s):=by
 intro i hi
 have hp:=h.pos
 have hq:=div_nonneg (f o h.om) hp
 unfold piv
 by_cases e:i=o
 ·subst e;rw [if_pos rfl];have:T i N*(1 / T i s)=T i N / T i s:=by grind
  rw [this];exact hq
 ·rw [if_neg e]
  have e1:T o N*(1 / T o s)=T o N / T o s:=by grind
  rw [e1]
  by_cases hc:0<T i s
  ·have h1:=le_div hc (h.least i hi hc).1
   grind
  ·have h1:0 ≤ -(T i s)*(T o N / T o s):=Rat.mul_nonneg (by grind) hq
   have:=f i hi
   grind
theorem Stp.cst (h:Stp m N cost shut T B s o) (t:Tb M m N T B):cst m N (piv T o s) (pivB B o s) cost=cst m N T B cost+redc m T B cost s*(T o N / T o s):=by
 have t':=h.tb t
 have h1:=t.cost cost (bs m N (piv T o s) (pivB B o s)) 1 t'.bs_sol
 have e0:(sumTo m fun i=>redc m T B cost (pivB B o s i)*piv T o s i N)=redc m T B cost (pivB B o s o)*piv T o s o N:=sumTo_one o h.om fun i hi hne=>by
  have:redc m T B cost (pivB B o s i)=0:=by unfold pivB;rw [if_neg hne];exact t.redc_basic cost hi
  rw [this];grind
 rw [sum_bs t'.lt,sum_bs t'.lt,e0] at h1
 have e1:pivB B o s o=s:=by unfold pivB;rw [if_pos rfl]
 have e2:piv T o s o N=T o N / T o s:=by unfold piv;rw [if_pos rfl];grind
 rw [e1,e2] at h1
 unfold Lp.cst
 rw [h1];grind
theorem no_cycle {Ts:Nat→Tab} {Bs:Nat→Bas} {ss os:Nat→Nat} {a b:Nat} (hab:a<b) (ht:∀ k,k≤b→Tb M m N (Ts k) (Bs k)) (hf:∀ k,k≤b→Fe m N (Ts k))
 (hs:∀ k,k<b→Stp m N cost shut (Ts k) (Bs k) (ss k) (os k)) (hT:∀ k,k<b→Ts (k+1)=piv (Ts k) (os k) (ss k)) (hB:∀ k,k<b→Bs (k+1)=pivB (Bs k) (os k) (ss k))
 (he:∀ i,i<m→Bs a i=Bs b i):False:=by
 have hTe:∀ i j,i<m→j≤N→Ts a i j=Ts b i j:=by
  have h2:=ht b (Nat.le_refl _)
  have h1:=ht a (by omega)
  have h3:Tb M m N (Ts b) (Bs a):=⟨h1.lt,fun i k hi hk=>by rw [he i hi];exact h2.unit i k hi hk,fun r j hr hj=>by
   rw [h2.rows r j hr hj];exact sumTo_congr fun i hi=>by rw [he i hi],h1.det⟩
  exact h1.one h3
 -- the cost does not rise, so it stays
 have hstep:∀ k,k<b→cst m N (Ts (k+1)) (Bs (k+1)) cost=cst m N (Ts k) (Bs k) cost+redc m (Ts k) (Bs k) cost (ss k)*(Ts k (os k) N / Ts k (os k) (ss k)):=fun k hk=>by
  rw [hT k hk,hB k hk];exact (hs k hk).cst (ht k (by omega))
 have hle:∀ k,k<b→cst m N (Ts (k+1)) (Bs (k+1)) cost≤cst m N (Ts k) (Bs k) cost:=fun k hk=>by
  rw [hstep k hk]
  have h1:=div_nonneg (hf k (by omega) _ (hs k hk).om) (hs k hk).pos
  have h2:=Rat.mul_nonneg (show 0 ≤-redc m (Ts k) (Bs k) cost (ss k) by have:=(hs k hk).neg;grind) h1
  grind
 have hmono:∀ d k,k+d≤b→cst m N (Ts (k+d)) (Bs (k+d)) cost≤cst m N (Ts k) (Bs k) cost:=by
  intro d
  induction d with
  | zero=>intro k _;exact Rat.le_refl
  | succ d ih =>
    intro k hk
    have h1:=ih k (by omega)
    have h2:=hle (k+d) (by omega)
    rw [show k+(d+1)=k+d+1 by omega];grind
 have hsame:cst m N (Ts a) (Bs a) cost=cst m N (Ts b) (Bs b) cost:=by
  unfold cst;exact sumTo_congr fun i hi=>by rw [he i hi,hTe i N hi (Nat.le_refl _)]
 have hzero:∀ k,a≤k→k<b→Ts k (os k) N=0:=fun k h1 h2=>by
  have k1:=hmono (k-a) a (by omega)
  have k2:=hmono (b-(k+1)) (k+1) (by omega)
  rw [show a+(k-a)=k by omega] at k1
  rw [show k+1+(b-(k+1))=b by omega] at k2
  have k3:=hstep k h2
  have k4:=(hs k h2).neg
  have k5:=(hs k h2).pos
  have k6:redc m (Ts k) (Bs k) cost (ss k)*(Ts k (os k) N / Ts k (os k) (ss k))=0:=by
   have:=hle k h2;grind
  rcases Rat.mul_eq_zero.1 k6 with k7|k7
  ·grind
  ·have:Ts k (os k) N / Ts k (os k) (ss k)*Ts k (os k) (ss k)=Ts k (os k) N:=by grind
   grind
 -- the right sides stay
 have hbs1:∀ k,a≤k→k<b→∀ j,bs m N (Ts (k+1)) (Bs (k+1)) j=bs m N (Ts k) (Bs k) j:=fun k h1 h2 j=>by
  have hz:=hzero k h1 h2
  unfold bs
  refine sumTo_congr fun i hi=>?_
  rw [hT k h2,hB k h2]
  unfold piv pivB
  by_cases e:i=os k
  ·subst e
   rw [if_pos rfl,if_pos rfl,hz]
   split<;>split<;>grind
  ·rw [if_neg e,if_neg e,hz]
   split<;>grind
 have hbs:∀ d k,a≤k→k+d≤b→∀ j,bs m N (Ts (k+d)) (Bs (k+d)) j=bs m N (Ts k) (Bs k) j:=by
  intro d
  induction d with
  | zero=>intro k _ _ j;rfl
  | succ d ih=>intro k h1 h2 j;rw [show k+(d+1)=k+d+1 by omega,hbs1 _ (by omega) (by omega),ih k h1 (by omega)]
 have hbsa:∀ k,a≤k→k≤b→∀ j,bs m N (Ts k) (Bs k) j=bs m N (Ts a) (Bs a) j:=fun k h1 h2 j=>by
  have:=hbs (k-a) a (by omega) (by omega) j;rwa [show a+(k-a)=k by omega] at this
 -- coming in and going out
 let inB:Nat→Nat→Prop:=fun k j=>∃ i,i<m∧Bs k i=j
 have henter:∀ d k j,k+d≤b→¬ inB k j→inB (k+d) j→∃ l,k≤l∧l<k+d∧ss l=j:=by
  intro d
  induction d with
  | zero=>intro k j _ h1 h2;exact absurd h2 h1
  | succ d ih =>
    intro k j hk h1 h2
    rcases Classical.em (inB (k+d) j) with h3|h3
    ·obtain ⟨l,l1,l2,l3⟩:=ih k j (by omega) h1 h3
     exact ⟨l,l1,by omega,l3⟩
    ·refine ⟨k+d,by omega,by omega,?_⟩
     obtain ⟨i,hi,e⟩:=h2
     rw [show k+(d+1)=k+d+1 by omega,hB _ (by omega)] at e
     unfold pivB at e
     split at e
     ·exact e
     ·exact absurd ⟨i,hi,e⟩ h3
 have hleave:∀ d k j,k+d≤b→inB k j→¬ inB (k+d) j→∃ l,k≤l∧l<k+d∧Bs l (os l)=j:=by
  intro d
  induction d with
  | zero=>intro k j _ h1 h2;exact absurd h1 h2
  | succ d ih =>
    intro k j hk h1 h2
    rcases Classical.em (inB (k+d) j) with h3|h3
    ·refine ⟨k+d,by omega,by omega,?_⟩
     obtain ⟨i,hi,e⟩:=h3
     by_cases e2:i=os (k+d)
     ·rw [←e2];exact e
     ·refine absurd ⟨i,hi,?_⟩ h2
      rw [show k+(d+1)=k+d+1 by omega,hB _ (by omega)]
      unfold pivB;rw [if_neg e2];exact e
    ·obtain ⟨l,l1,l2,l3⟩:=ih k j (by omega) h1 h3
     exact ⟨l,l1,by omega,l3⟩
 have hback:∀ j,inB a j↔inB b j:=fun j=>⟨fun ⟨i,hi,e⟩=>⟨i,hi,by rw [←he i hi];exact e⟩,fun ⟨i,hi,e⟩=>⟨i,hi,by rw [he i hi];exact e⟩⟩
 -- the greatest column that comes in
 have hmax:∀ d,a+d<b→∃ k,a≤k∧k≤a+d∧∀ l,a≤l→l≤a+d→ss l≤ss k:=by
  intro d
  induction d with
  | zero=>intro _;exact ⟨a,by omega,by omega,fun l h1 h2=>by rw [show l=a by omega];exact Nat.le_refl _⟩
  | succ d ih =>
    intro h
    obtain ⟨k,k1,k2,k3⟩:=ih (by omega)
    rcases Nat.le_total (ss (a+(d+1))) (ss k) with h1|h1
    ·exact ⟨k,k1,by omega,fun l l1 l2=>by
      by_cases e:l=a+(d+1)
      ·rw [e];exact h1
      ·exact k3 l l1 (by omega)⟩
    ·exact ⟨a+(d+1),by omega,by omega,fun l l1 l2=>by
      by_cases e:l=a+(d+1)
      ·rw [e];exact Nat.le_refl _
      ·exact Nat.le_trans (k3 l l1 (by omega)) h1⟩
 obtain ⟨k1,ka,kb,kmax⟩:=hmax (b-a-1) (by omega)
 have kmax':∀ l,a≤l→l<b→ss l≤ss k1:=fun l h1 h2=>kmax l h1 (by omega)
 have kb':k1<b:=by omega
 -- it goes out somewhere
 have hnot1:¬ inB k1 (ss k1):=fun ⟨i,hi,e⟩=>(hs k1 kb').basic_ne (ht k1 (by omega)) i hi e
 have hin1:inB (k1+1) (ss k1):=⟨os k1,(hs k1 kb').om,by rw [hB k1 kb'];unfold pivB;rw [if_pos rfl]⟩
 have hgo:∃ k2,a≤k2∧k2<b∧Bs k2 (os k2)=ss k1:=by
  rcases Classical.em (inB a (ss k1)) with h1|h1
  ·obtain ⟨l,l1,l2,l3⟩:=hleave (k1-a) a (ss k1) (by omega) h1 (by rw [show a+(k1-a)=k1 by omega];exact hnot1)
   exact ⟨l,l1,by omega,l3⟩
  ·obtain ⟨l,l1,l2,l3⟩:=hleave (b-(k1+1)) (k1+1) (ss k1) (by omega) hin1 (by rw [show k1+1+(b-(k1+1))=b by omega];exact fun h=>h1 ((hback _).2 h))
   exact ⟨l,by omega,by omega,l3⟩
 obtain ⟨k2,k2a,k2b,k2t⟩:=hgo
 -- two looks at one direction
 have S1:=hs k1 kb'
 have S2:=hs k2 k2b
 have t1:=ht k1 (by omega)
 have t2:=ht k2 (by omega)
 have c1:=t2.dir_cost S2.sN cost
 have c2:=t1.cost cost (dir m (Ts k2) (Bs k2) (ss k2)) 0 (t2.dir_sol S2.sN)
 rw [c1,Rat.zero_mul] at c2
 have c3:sumTo N (fun j=>redc m (Ts k1) (Bs k1) cost j*dir m (Ts k2) (Bs k2) (ss k2) j)<0:=by have:=S2.neg;grind
 obtain ⟨r,hr,hneg⟩:=sumTo_neg_ex c3
 have hr1:¬ inB k1 r:=fun ⟨i,hi,e⟩=>by
  have:=t1.redc_basic cost hi;rw [e] at this;rw [this] at hneg;grind
 have hr2:r=ss k2∨inB k2 r:=by
  refine Classical.byContradiction fun hn=>?_
  have h1:dir m (Ts k2) (Bs k2) (ss k2) r=if r=ss k2 then 1 else 0:=dir_other fun i hi e=>hn (.inr ⟨i,hi,e⟩)
  rw [if_neg fun e=>hn (.inl e)] at h1
  rw [h1] at hneg;grind
 -- it comes in somewhere too
 have hfick:∃ l,a≤l∧l<b∧ss l=r:=by
  rcases hr2 with h1|h1
  ·exact ⟨k2,k2a,k2b,h1.symm⟩
  ·rcases Nat.lt_or_ge k1 k2 with h2|h2
   ·obtain ⟨l,l1,l2,l3⟩:=henter (k2-k1) k1 r (by omega) hr1 (by rw [show k1+(k2-k1)=k2 by omega];exact h1)
    exact ⟨l,by omega,by omega,l3⟩
   ·rcases Classical.em (inB a r) with h3|h3
    ·obtain ⟨l,l1,l2,l3⟩:=henter (b-k1) k1 r (by omega) hr1 (by rw [show k1+(b-k1)=b by omega];exact (hback r).1 h3)
     exact ⟨l,by omega,by omega,l3⟩
    ·obtain ⟨l,l1,l2,l3⟩:=henter (k2-a) a r (by omega) h3 (by rw [show a+(k2-a)=k2 by omega];exact h1)
     exact ⟨l,by omega,by omega,l3⟩
 obtain ⟨l,l1,l2,l3⟩:=hfick
 have hrt:r≤ss k1:=by rw [←l3];exact kmax' l l1 l2
 have hopen:shut r=false:=by rw [←l3];exact (hs l l2).open_
 have hdt:dir m (Ts k2) (Bs k2) (ss k2) (ss k1) = - Ts k2 (os k2) (ss k2):=by
  rw [←k2t];exact t2.dir_basic S2.om (S2.basic_ne t2 _ S2.om)
 have hrne:r≠ss k1:=fun e=>by
  rw [e,hdt] at hneg
  have h1:=Rat.mul_nonneg (show 0 ≤-redc m (Ts k1) (Bs k1) cost (ss k1) by have:=S1.neg;grind) (show 0≤Ts k2 (os k2) (ss k2) by have:=S2.pos;grind)
  grind
 have hz:=S1.first r (by omega) hopen
 have hdr:dir m (Ts k2) (Bs k2) (ss k2) r<0:=by
  refine Classical.byContradiction fun hn=>?_
  have:=Rat.mul_nonneg hz (show 0≤dir m (Ts k2) (Bs k2) (ss k2) r by grind)
  grind
 have hrs:inB k2 r:=by
  rcases hr2 with h1|h1
  ·exfalso
   have h2:dir m (Ts k2) (Bs k2) (ss k2) r=if r=ss k2 then 1 else 0:=dir_other fun i hi e=>S2.basic_ne t2 i hi (by rw [e,h1])
   rw [if_pos h1] at h2;rw [h2] at hdr;grind
  ·exact h1
 obtain ⟨i,hi,hir⟩:=hrs
 have hTi:dir m (Ts k2) (Bs k2) (ss k2) r = - Ts k2 i (ss k2):=by
  rw [←hir];exact t2.dir_basic hi (S2.basic_ne t2 i hi)
 have hpi:0<Ts k2 i (ss k2):=by grind
 have hNi:Ts k2 i N=0:=by
  have h1:=t2.bs_basic hi
  rw [hir,hbsa k2 k2a (by omega) r,←hbsa k1 ka (by omega) r,bs_other fun i' hi' e=>hr1 ⟨i',hi',e⟩] at h1
  exact h1.symm
 have hlast:=(S2.least i hi hpi).2 (by rw [hNi,hzero k2 k2a k2b];grind)
 rw [k2t,hir] at hlast
 omega
def mini (m N:Nat) (cost:Nat→Rat) (shut:Nat→Bool):Nat→Tab→Bas→Option (Tab × Bas × Option Nat)
 | 0,_,_=>none
 | f+1,T,B=>match firstTo N (fun j=>!shut j && decide (redc m T B cost j<0)) with
   | none=>some (T,B,none)
   | some s=>match pick T B N s m with
     | none=>some (T,B,some s)
     | some (o,_)=>mini m N cost shut f (piv T o s) (pivB B o s)
def after (m N:Nat) (cost:Nat→Rat) (shut:Nat→Bool) (T:Tab) (B:Bas):Nat→Tab × Bas
 | 0=>(T,B)
 | k+1=>match nxt m N cost shut (after m N cost shut T B k).1 (after m N cost shut T B k).2 with
   | none=>after m N cost shut T B k
   | some (s,o)=>(piv (after m N cost shut T B k).1 o s,pivB (after m N cost shut T B k).2 o s)
theorem after_shift (T:Tab) (B:Bas) {s o:Nat} (h:nxt m N cost shut T B=some (s,o)):∀ k,after m N cost shut T B (k+1)=after m N cost shut (piv T o s) (pivB B o s) k:=by
 intro k
 induction k with
 | zero=>show (match nxt m N cost shut T B with|none=>_|some (s,o)=>_)=_;rw [h];rfl
 | succ k ih =>
   have e:after m N cost shut T B (k+1+1)=match nxt m N cost shut (after m N cost shut T B (k+1)).1 (after m N cost shut T B (k+1)).2 with
    | none=>after m N cost shut T B (k+1)
    | some (s,o)=>(piv (after m N cost shut T B (k+1)).1 o s,pivB (after m N cost shut T B (k+1)).2 o s):=rfl
   rw [e,ih];rfl
theorem mini_none:∀ {f:Nat} {T:Tab} {B:Bas},mini m N cost shut f T B=none→∀ k,k<f→∃ s o,nxt m N cost shut (after m N cost shut T B k).1 (after m N cost shut T B k).2=some (s,o):=by
 intro f
 induction f with
 | zero=>intro T B _ k hk;omega
 | succ f ih =>
   intro T B h k hk
   unfold mini at h
   cases e:firstTo N (fun j=>!shut j && decide (redc m T B cost j<0)) with
   | none=>rw [e] at h;cases h
   | some s =>
     rw [e] at h;simp only at h
     cases e2:pick T B N s m with
     | none=>rw [e2] at h;cases h
     | some x =>
       obtain ⟨o,l⟩:=x
       rw [e2] at h;simp only at h
       have hn:nxt m N cost shut T B=some (s,o):=by unfold nxt;rw [e];simp only;rw [e2]
       cases k with
       | zero=>exact ⟨s,o,hn⟩
       | succ k =>
         rw [after_shift T B hn k]
         exact ih h k (by omega)
theorem mini_ends (ht:Tb M m N T B) (hf:Fe m N T):∃ r,mini m N cost shut (N ^ m+1) T B=some r:=by
 cases e:mini m N cost shut (N ^ m+1) T B with
 | some r=>exact ⟨r,rfl⟩
 | none =>
   exfalso
   have hn:=mini_none e
   have hinv:∀ k,k≤N ^ m+1→Tb M m N (after m N cost shut T B k).1 (after m N cost shut T B k).2∧Fe m N (after m N cost shut T B k).1:=by
    intro k
    induction k with
    | zero=>intro _;exact ⟨ht,hf⟩
    | succ k ih =>
      intro hk
      obtain ⟨h1,h2⟩:=ih (by omega)
      obtain ⟨s,o,h3⟩:=hn k (by omega)
      have h4:=nxt_some h3
      have e:after m N cost shut T B (k+1)=(piv (after m N cost shut T B k).1 o s,pivB (after m N cost shut T B k).2 o s):=by
       show (match nxt m N cost shut (after m N cost shut T B k).1 (after m N cost shut T B k).2 with|none=>_|some (s,o)=>_)=_
       rw [h3]
      rw [e]
      exact ⟨h4.tb h1,h4.fe h2⟩
   obtain ⟨a,b,hab,hb,hcode⟩:=pigeon (N ^ m) (fun k=>code N (after m N cost shut T B k).2 m) fun k hk=>code_lt (hinv k (by omega)).1.lt
   have hex:∀ k,∃ so:Nat × Nat,k<N ^ m+1→nxt m N cost shut (after m N cost shut T B k).1 (after m N cost shut T B k).2=some so:=fun k=>by
    by_cases hk:k<N ^ m+1
    ·obtain ⟨s,o,h⟩:=hn k hk;exact ⟨(s,o),fun _=>h⟩
    ·exact ⟨(0,0),fun h=>absurd h hk⟩
   let so:=fun k=>Classical.choose (hex k)
   have hso:∀ k,k<N ^ m+1→nxt m N cost shut (after m N cost shut T B k).1 (after m N cost shut T B k).2=some (so k):=fun k=>Classical.choose_spec (hex k)
   have hafter:∀ k,k<b→after m N cost shut T B (k+1)=(piv (after m N cost shut T B k).1 (so k).2 (so k).1,pivB (after m N cost shut T B k).2 (so k).2 (so k).1):=fun k hk=>by
    show (match nxt m N cost shut (after m N cost shut T B k).1 (after m N cost shut T B k).2 with|none=>_|some (s,o)=>_)=_
    rw [hso k (by omega)]
   exact no_cycle (M:=M) (cost:=cost) (shut:=shut) (Ts:=fun k=>(after m N cost shut T B k).1) (Bs:=fun k=>(after m N cost shut T B k).2) (ss:=fun k=>(so k).1) (os:=fun k=>(so k).2) hab
    (fun k hk=>(hinv k (by omega)).1) (fun k hk=>(hinv k (by omega)).2) (fun k hk=>nxt_some (hso k (by omega))) (fun k hk=>by show (after m N cost shut T B (k+1)).1=_;rw [hafter k hk]) (fun k hk=>by show (after m N cost shut T B (k+1)).2=_;rw [hafter k hk])
    (code_eq (hinv a (by omega)).1.lt (hinv b (by omega)).1.lt hcode)
end Lp
end
end Go.Proofs.YtkljafmdbajfeaaGreatDoor
