/- How a minimization ends, lexicographic faces, the first table of a program. Plain mathematics. -/
import Derived.Test.YtkljafmdbajfeaaGreatDoorNoH08
namespace Go.Proofs.YtkljafmdbajfeaaGreatDoor
set_option linter.unusedVariables false
set_option linter.unusedSimpArgs false
section
namespace Lp
variable {M T:Tab} {m N:Nat} {B:Bas} {cost:Nat→Rat} {shut:Nat→Bool}
def Clean (m N:Nat) (shut:Nat→Bool) (T:Tab) (B:Bas):Prop:=∀ i,i<m→shut (B i)=true→T i N=0∧∀ j,j<N→shut j=false→T i j=0
structure Ok (M:Tab) (m N:Nat) (shut:Nat→Bool) (T:Tab) (B:Bas):Prop where
 tb:Tb M m N T B
 fe:Fe m N T
 clean:Clean m N shut T B
variable {s o:Nat}
theorem Stp.ok (h:Stp m N cost shut T B s o) (k:Ok M m N shut T B):Ok M m N shut (piv T o s) (pivB B o s):=by
 refine ⟨h.tb k.tb,h.fe k.fe,fun i hi hs=>?_⟩
 unfold pivB at hs
 by_cases e:i=o
 ·rw [if_pos e,h.open_] at hs;cases hs
 ·rw [if_neg e] at hs
  obtain ⟨h1,h2⟩:=k.clean i hi hs
  have h3:=h2 s h.sN h.open_
  unfold piv
  exact ⟨by rw [if_neg e,h1,h3];grind,fun j hj hjs=>by rw [if_neg e,h2 j hj hjs,h3];grind⟩
def Fin (m N:Nat) (cost:Nat→Rat) (shut:Nat→Bool) (T:Tab) (B:Bas):Option Nat→Prop
 | none=>∀ j,j<N→shut j=false→0≤redc m T B cost j
 | some s=>s<N∧shut s=false∧redc m T B cost s<0∧∀ i,i<m→T i s≤0
theorem mini_ok:∀ {f:Nat} {T:Tab} {B:Bas} {T':Tab} {B':Bas} {e:Option Nat},Ok M m N shut T B→mini m N cost shut f T B=some (T',B',e)→Ok M m N shut T' B'∧Fin m N cost shut T' B' e:=by
 intro f
 induction f with
 | zero=>intro T B T' B' e _ h;cases h
 | succ f ih =>
   intro T B T' B' e hk h
   unfold mini at h
   cases e1:firstTo N (fun j=>!shut j && decide (redc m T B cost j<0)) with
   | none =>
     rw [e1] at h;cases h
     refine ⟨hk,fun j hj hs=>?_⟩
     have:=firstTo_none e1 j hj
     simp [hs] at this;grind
   | some s =>
     rw [e1] at h;simp only at h
     cases e2:pick T B N s m with
     | none =>
       rw [e2] at h;cases h
       obtain ⟨h1,h2,h3⟩:=firstTo_some e1
       simp at h2
       exact ⟨hk,h1,h2.1,h2.2,pick_none e2⟩
     | some x =>
       obtain ⟨o,l⟩:=x
       rw [e2] at h;simp only at h
       have hn:nxt m N cost shut T B=some (s,o):=by unfold nxt;rw [e1];simp only;rw [e2]
       exact ih ((nxt_some hn).ok hk) h
structure Sol (M:Tab) (m N:Nat) (shut:Nat→Bool) (x:Nat→Rat):Prop where
 eq:∀ r,r<m→sumTo N (fun j=>M r j*x j)=1*M r N
 nn:∀ j,j<N→0≤x j
 zero:∀ j,j<N→shut j=true→x j=0
theorem Ok.sol (h:Ok M m N shut T B):Sol M m N shut (bs m N T B):=by
 refine ⟨h.tb.bs_sol,fun j hj=>h.fe.bs j,fun j hj hs=>?_⟩
 rcases Classical.em (∃ i,i<m∧B i=j) with ⟨i,hi,e⟩|hn
 ·rw [←e,h.tb.bs_basic hi];exact (h.clean i hi (by rw [e];exact hs)).1
 ·exact bs_other fun i hi e=>hn ⟨i,hi,e⟩
theorem Ok.best (h:Ok M m N shut T B) (hf:Fin m N cost shut T B none) {x:Nat→Rat} (hx:Sol M m N shut x) :
 cst m N T B cost≤sumTo N (fun j=>cost j*x j)∧(sumTo N (fun j=>cost j*x j)=cst m N T B cost↔∀ j,j<N→shut j=false→0<redc m T B cost j→x j=0):=by
 have h1:=h.tb.cost cost x 1 hx.eq
 have hnn:∀ j,j<N→0≤redc m T B cost j*x j:=fun j hj=>by
  cases hs:shut j
  ·exact Rat.mul_nonneg (hf j hj hs) (hx.nn j hj)
  ·rw [hx.zero j hj hs];grind
 have h2:=sumTo_nonneg hnn
 have h3:(1:Rat)*(sumTo m fun i=>cost (B i)*T i N)=cst m N T B cost:=by unfold cst;grind
 rw [h3] at h1
 refine ⟨by grind,fun he j hj hs hp=>?_,fun hz=>?_⟩
 ·have h4:=sumTo_eq_zero hnn (by grind) j hj
  rcases Rat.mul_eq_zero.1 h4 with h5|h5
  ·grind
  ·exact h5
 ·have h4:sumTo N (fun j=>redc m T B cost j*x j)=0:=sumTo_zero fun j hj=>by
   cases hs:shut j
   ·rcases Classical.em (0<redc m T B cost j) with h5|h5
    ·rw [hz j hj hs h5];grind
    ·have:=hf j hj hs
     have:redc m T B cost j=0:=by grind
     rw [this];grind
   ·rw [hx.zero j hj hs];grind
  grind
theorem Ok.free (h:Ok M m N shut T B) {s:Nat} (hf:Fin m N cost shut T B (some s)) :
 (∀ r,r<m→sumTo N (fun j=>M r j*dir m T B s j)=0)∧(∀ j,j<N→0≤dir m T B s j)∧(∀ j,j<N→shut j=true→dir m T B s j=0)∧sumTo N (fun j=>cost j*dir m T B s j)<0:=by
 obtain ⟨h1,h2,h3,h4⟩:=hf
 have hne:∀ i,i<m→B i≠s:=fun i hi e=>by
  have:=h.tb.redc_basic cost hi;rw [e] at this;grind
 refine ⟨fun r hr=>by rw [h.tb.dir_sol h1 r hr];grind,fun j hj=>?_,fun j hj hs=>?_,by rw [h.tb.dir_cost h1];exact h3⟩
 ·rcases Classical.em (∃ i,i<m∧B i=j) with ⟨i,hi,e⟩|hn
  ·rw [←e,h.tb.dir_basic hi (hne i hi)];have:=h4 i hi;grind
  ·rw [dir_other fun i hi e=>hn ⟨i,hi,e⟩];split<;>grind
 ·rcases Classical.em (∃ i,i<m∧B i=j) with ⟨i,hi,e⟩|hn
  ·rw [←e,h.tb.dir_basic hi (hne i hi),(h.clean i hi (by rw [e];exact hs)).2 s h1 h2];grind
  ·rw [dir_other fun i hi e=>hn ⟨i,hi,e⟩,if_neg fun e=>by rw [e,h2] at hs;cases hs]
def fixS (m:Nat) (T:Tab) (B:Bas) (cost:Nat→Rat) (shut:Nat→Bool) (j:Nat):Bool:=shut j || decide (0<redc m T B cost j)
theorem Ok.fix (h:Ok M m N shut T B):Ok M m N (fixS m T B cost shut) T B:=by
 refine ⟨h.tb,h.fe,fun i hi hs=>?_⟩
 have h1:=h.tb.redc_basic cost hi
 have h2:shut (B i)=true:=by
  unfold fixS at hs
  rw [h1] at hs
  cases e:shut (B i)
  ·simp [e] at hs
  ·rfl
 obtain ⟨h3,h4⟩:=h.clean i hi h2
 exact ⟨h3,fun j hj hjs=>h4 j hj (by unfold fixS at hjs;cases e:shut j
                                     ·rfl
                                     ·simp [e] at hjs)⟩
theorem Ok.fix_sol (h:Ok M m N shut T B) (hf:Fin m N cost shut T B none) (x:Nat→Rat) :
 Sol M m N (fixS m T B cost shut) x↔Sol M m N shut x∧sumTo N (fun j=>cost j*x j)=cst m N T B cost:=by
 constructor
 ·intro hx
  have hx':Sol M m N shut x:=⟨hx.eq,hx.nn,fun j hj hs=>hx.zero j hj (by unfold fixS;simp [hs])⟩
  exact ⟨hx',(h.best hf hx').2.2 fun j hj hs hp=>hx.zero j hj (by unfold fixS;simp [hp])⟩
 ·rintro ⟨hx,he⟩
  refine ⟨hx.eq,hx.nn,fun j hj hs=>?_⟩
  cases e:shut j
  ·unfold fixS at hs
   simp [e] at hs
   exact (h.best hf hx).2.1 he j hj e hs
  ·exact hx.zero j hj e
def LexLe (k:Nat) (x y:Nat→Rat):Prop:=(∀ j,j<k→x j=y j)∨∃ i,i<k∧(∀ j,j<i→x j=y j)∧x i<y i
structure LexAt (M:Tab) (m N:Nat) (shut0 shut:Nat→Bool) (T:Tab) (B:Bas) (v:Nat→Rat) (k:Nat):Prop where
 ok:Ok M m N shut T B
 face:∀ x,Sol M m N shut x↔Sol M m N shut0 x∧∀ j,j<k→x j=v j
 lex:∀ x,Sol M m N shut0 x→LexLe k v x
def unitC (k:Nat) (j:Nat):Rat:=if j=k then 1 else 0
theorem sum_unit {k:Nat} (hk:k<N) (x:Nat→Rat):sumTo N (fun j=>unitC k j*x j)=x k:=by
 rw [sumTo_one k hk fun j hj hne=>by unfold unitC;rw [if_neg hne];grind]
 unfold unitC;rw [if_pos rfl];grind
theorem LexAt.start {shut0:Nat→Bool} (h:Ok M m N shut0 T B) (v:Nat→Rat):LexAt M m N shut0 shut0 T B v 0 :=
 ⟨h,fun x=>⟨fun hx=>⟨hx,fun j hj=>by omega⟩,fun hx=>hx.1⟩,fun x hx=>.inl fun j hj=>by omega⟩
theorem LexAt.step {shut0:Nat→Bool} {T':Tab} {B':Bas} {k:Nat} {v:Nat→Rat} (h:LexAt M m N shut0 shut T B v k) (hk:k<N) (h':Ok M m N shut T' B') (hf:Fin m N (unitC k) shut T' B' none) :
 LexAt M m N shut0 (fixS m T' B' (unitC k) shut) T' B' (fun j=>if j=k then cst m N T' B' (unitC k) else v j) (k+1):=by
 refine ⟨h'.fix,fun x=>?_,fun x hx=>?_⟩
 ·rw [h'.fix_sol hf,h.face,sum_unit hk]
  constructor
  ·rintro ⟨⟨h1,h2⟩,h3⟩
   refine ⟨h1,fun j hj=>?_⟩
   by_cases e:j=k
   ·subst e;rw [if_pos rfl];exact h3
   ·rw [if_neg e];exact h2 j (by omega)
  ·rintro ⟨h1,h2⟩
   refine ⟨⟨h1,fun j hj=>?_⟩,?_⟩
   ·have:=h2 j (by omega);rwa [if_neg (by omega)] at this
   ·have:=h2 k (by omega);rwa [if_pos rfl] at this
 ·rcases h.lex x hx with h1|⟨i,hi,h1,h2⟩
  ·have hs:=(h.face x).2 ⟨hx,fun j hj=>(h1 j hj).symm⟩
   have hb:=(h'.best hf hs).1
   rw [sum_unit hk] at hb
   rcases Classical.em (cst m N T' B' (unitC k)=x k) with e|e
   ·refine .inl fun j hj=>?_
    by_cases e2:j=k
    ·subst e2;dsimp only;rw [if_pos rfl];exact e
    ·dsimp only;rw [if_neg e2];exact h1 j (by omega)
   ·refine .inr ⟨k,by omega,fun j hj=>by dsimp only;rw [if_neg (by omega)];exact h1 j hj,?_⟩
    dsimp only;rw [if_pos rfl];grind
  ·exact .inr ⟨i,by omega,fun j hj=>by dsimp only;rw [if_neg (by omega)];exact h1 j hj,by dsimp only;rw [if_neg (by omega)];exact h2⟩
theorem Ok.unit_end (h:Ok M m N shut T B) {k:Nat} (hk:k<N) {e:Option Nat} (hf:Fin m N (unitC k) shut T B e):Fin m N (unitC k) shut T B none:=by
 cases e with
 | none=>exact hf
 | some s =>
   exfalso
   obtain ⟨-,h2,-,h4⟩:=h.free hf
   rw [sum_unit hk] at h4
   have:=h2 k hk;grind
def sg (b:Nat→Rat) (i:Nat):Rat:=if b i<0 then -1 else 1
theorem sg_sq (b:Nat→Rat) (i:Nat):sg b i*sg b i=1:=by unfold sg;split<;>grind
def tab0 (A:Tab) (b:Nat→Rat) (n m:Nat):Tab:=fun i j =>
 if j<n then sg b i*A i j else if j<n+m then (if j=n+i then-sg b i else 0) else if j<n+2*m then (if j=n+m+i then 1 else 0) else sg b i*b i
variable {A:Tab} {b c:Nat→Rat} {n:Nat}
theorem tab0_col {i j:Nat} (h:j<n):tab0 A b n m i j=sg b i*A i j:=by unfold tab0;rw [if_pos h]
theorem tab0_sur {i j:Nat} (h:j<m):tab0 A b n m i (n+j)=if j=i then-sg b i else 0:=by
 unfold tab0;rw [if_neg (by omega),if_pos (by omega)]
 by_cases e:j=i
 ·rw [if_pos e,if_pos (by omega)]
 ·rw [if_neg e,if_neg (by omega)]
theorem tab0_art {i j:Nat} (h:j<m):tab0 A b n m i (n+m+j)=if j=i then 1 else 0:=by
 unfold tab0;rw [if_neg (by omega),if_neg (by omega),if_pos (by omega)]
 by_cases e:j=i
 ·rw [if_pos e,if_pos (by omega)]
 ·rw [if_neg e,if_neg (by omega)]
theorem tab0_last {i:Nat}:tab0 A b n m i (n+2*m)=sg b i*b i:=by unfold tab0;rw [if_neg (by omega),if_neg (by omega),if_neg (by omega)]
def bas0 (n m:Nat):Bas:=fun i=>n+m+i
theorem tb0:Tb (tab0 A b n m) m (n+2*m) (tab0 A b n m) (bas0 n m):=by
 refine ⟨fun i hi=>by unfold bas0;omega,fun i k hi hk=>?_,fun r j hr hj=>?_,?_⟩
 ·unfold bas0;rw [tab0_art hi]
  by_cases e:i=k
  ·rw [if_pos e,if_pos e.symm]
  ·rw [if_neg e,if_neg fun x=>e x.symm]
 ·rw [sumTo_one r hr fun i hi hne=>by unfold bas0;rw [tab0_art hi,if_neg hne];grind]
  unfold bas0;rw [tab0_art hr,if_pos rfl];grind
 ·have:Lp.det m (cols (tab0 A b n m) (bas0 n m))=Lp.det m (fun r c=>if r=c then 1 else 0):=det_congr fun r c hr hc=>by
   unfold cols bas0;rw [tab0_art hc]
   by_cases e:c=r
   ·rw [if_pos e,if_pos e.symm]
   ·rw [if_neg e,if_neg fun x=>e x.symm]
  rw [this,det_one];grind
theorem fe0:Fe m (n+2*m) (tab0 A b n m):=fun i hi=>by
 rw [tab0_last];unfold sg;split<;>grind
theorem ok0:Ok (tab0 A b n m) m (n+2*m) (fun _=>false) (tab0 A b n m) (bas0 n m):=⟨tb0,fe0,fun i hi h=>by cases h⟩
theorem sum_three (f:Nat→Rat):sumTo (n+2*m) f=sumTo n f+sumTo m (fun i=>f (n+i))+sumTo m (fun i=>f (n+m+i)):=by
 have key:∀ k l,sumTo (k+l) f=sumTo k f+sumTo l fun i=>f (k+i):=by
  intro k l
  induction l with
  | zero=>simp only [sumTo,Nat.add_zero];grind
  | succ l ih=>rw [show k+(l+1)=k+l+1 by omega];simp only [sumTo];rw [ih];grind
 rw [show n+2*m=n+m+m by omega,key,key]
theorem tab0_eq (x:Nat→Rat) {r:Nat} (hr:r<m):sumTo (n+2*m) (fun j=>tab0 A b n m r j*x j)=sg b r*sumTo n (fun j=>A r j*x j)-sg b r*x (n+r)+x (n+m+r):=by
 rw [sum_three,sumTo_congr (n:=n) (g:=fun j=>sg b r*(A r j*x j)) fun j hj=>by rw [tab0_col hj];grind,sumTo_mul,
  sumTo_one (n:=m) r hr fun i hi hne=>by rw [tab0_sur hi,if_neg hne];grind,sumTo_one (n:=m) r hr fun i hi hne=>by rw [tab0_art hi,if_neg hne];grind]
 rw [tab0_sur hr,tab0_art hr,if_pos rfl,if_pos rfl];grind
structure Feas (A:Tab) (b:Nat→Rat) (n m:Nat) (x:Nat→Rat):Prop where
 nn:∀ j,j<n→0≤x j
 ge:∀ i,i<m→b i≤sumTo n fun j=>A i j*x j
def art (n m:Nat) (j:Nat):Bool:=decide (n+m≤j)
def full (A:Tab) (b:Nat→Rat) (n m:Nat) (x:Nat→Rat) (j:Nat):Rat:=if j<n then x j else if j<n+m then (sumTo n fun l=>A (j-n) l*x l)-b (j-n) else 0
theorem full_col {x:Nat→Rat} {j:Nat} (h:j<n):full A b n m x j=x j:=by unfold full;rw [if_pos h]
theorem Feas.sol {x:Nat→Rat} (h:Feas A b n m x):Sol (tab0 A b n m) m (n+2*m) (art n m) (full A b n m x):=by
 refine ⟨fun r hr=>?_,fun j hj=>?_,fun j hj hs=>?_⟩
 ·rw [tab0_eq _ hr,tab0_last,sumTo_congr (n:=n) (g:=fun j=>A r j*x j) fun j hj=>by rw [full_col hj]]
  have e1:full A b n m x (n+r)=(sumTo n fun l=>A r l*x l)-b r:=by unfold full;rw [if_neg (by omega),if_pos (by omega),show n+r-n=r by omega]
  have e2:full A b n m x (n+m+r)=0:=by unfold full;rw [if_neg (by omega),if_neg (by omega)]
  rw [e1,e2];grind
 ·unfold full
  split
  ·exact h.nn j (by assumption)
  ·split
   ·have:=h.ge (j-n) (by omega);grind
   ·grind
 ·unfold art at hs
  have:=of_decide_eq_true hs
  unfold full;rw [if_neg (by omega),if_neg (by omega)]
theorem Sol.feas {x:Nat→Rat} (h:Sol (tab0 A b n m) m (n+2*m) (art n m) x):Feas A b n m x:=by
 refine ⟨fun j hj=>h.nn j (by omega),fun i hi=>?_⟩
 have h1:=h.eq i hi
 rw [tab0_eq _ hi,tab0_last,h.zero (n+m+i) (by omega) (by unfold art;exact decide_eq_true (by omega))] at h1
 have h2:=h.nn (n+i) (by omega)
 have h3:=sg_sq b i
 have h4:(sumTo n fun j=>A i j*x j)=x (n+i)+b i:=by grind
 rw [h4];grind
end Lp
end
section
namespace Lp
variable {A T:Tab} {b c cost:Nat→Rat} {n m:Nat} {B:Bas} {shut:Nat→Bool}
def mult (n m:Nat) (T:Tab) (B:Bas) (cost:Nat→Rat) (r:Nat):Rat:=sumTo m fun k=>cost (B k)*T k (n+m+r)
theorem Tb.art_inv (h:Tb (tab0 A b n m) m (n+2*m) T B) {k j:Nat} (hk:k<m) (hj:j≤n+2*m):T k j=sumTo m fun r=>T k (n+m+r)*tab0 A b n m r j:=by
 have:=h.kill (t:=fun k=>T k j-sumTo m fun r=>T k (n+m+r)*tab0 A b n m r j) (fun r' hr'=>by
  have e1:(sumTo m fun i=>(T i j-sumTo m fun r=>T i (n+m+r)*tab0 A b n m r j)*tab0 A b n m r' (B i))=(sumTo m fun i=>T i j*tab0 A b n m r' (B i))-sumTo m fun i=>sumTo m fun r=>T i (n+m+r)*tab0 A b n m r j*tab0 A b n m r' (B i):=by
   rw [←sumTo_sub];refine sumTo_congr fun i hi=>?_
   rw [sumTo_mulr];grind
  rw [e1,←h.rows r' j hr' hj,sumTo_comm]
  have e2:(sumTo m fun r=>sumTo m fun i=>T i (n+m+r)*tab0 A b n m r j*tab0 A b n m r' (B i))=sumTo m fun r=>tab0 A b n m r j*tab0 A b n m r' (n+m+r):=by
   refine sumTo_congr fun r hr=>?_
   rw [h.rows r' (n+m+r) hr' (by omega),←sumTo_mul]
   exact sumTo_congr fun i hi=>by grind
  rw [e2,sumTo_one r' hr' fun r hr hne=>by rw [tab0_art hr,if_neg hne];grind]
  rw [tab0_art hr',if_pos rfl];grind) k hk
 grind
theorem Tb.mult_sum (h:Tb (tab0 A b n m) m (n+2*m) T B) (cost:Nat→Rat) {j:Nat} (hj:j≤n+2*m):(sumTo m fun k=>cost (B k)*T k j)=sumTo m fun r=>mult n m T B cost r*tab0 A b n m r j:=by
 have e1:(sumTo m fun k=>cost (B k)*T k j)=sumTo m fun k=>sumTo m fun r=>cost (B k)*T k (n+m+r)*tab0 A b n m r j :=
  sumTo_congr fun k hk=>by
   rw [h.art_inv hk hj,←sumTo_mul];exact sumTo_congr fun r hr=>by grind
 rw [e1,sumTo_comm]
 exact sumTo_congr fun r hr=>sumTo_mulr _ _ _
def dualv (b:Nat→Rat) (n m:Nat) (T:Tab) (B:Bas) (cost:Nat→Rat) (r:Nat):Rat:=sg b r*mult n m T B cost r
theorem Tb.redc_col (h:Tb (tab0 A b n m) m (n+2*m) T B) (cost:Nat→Rat) {j:Nat} (hj:j<n):redc m T B cost j=cost j-sumTo m fun r=>dualv b n m T B cost r*A r j:=by
 unfold redc;rw [h.mult_sum cost (by omega)]
 congr 1
 exact sumTo_congr fun r hr=>by rw [tab0_col hj];unfold dualv;grind
theorem Tb.redc_sur (h:Tb (tab0 A b n m) m (n+2*m) T B) (cost:Nat→Rat) {i:Nat} (hi:i<m):redc m T B cost (n+i)=cost (n+i)+dualv b n m T B cost i:=by
 unfold redc
 rw [h.mult_sum cost (by omega),sumTo_one i hi fun r hr hne=>by rw [tab0_sur hi,if_neg fun e=>hne e.symm];grind]
 rw [tab0_sur hi,if_pos rfl];unfold dualv;grind
theorem Tb.redc_art (h:Tb (tab0 A b n m) m (n+2*m) T B) (cost:Nat→Rat) {i:Nat} (hi:i<m):redc m T B cost (n+m+i)=cost (n+m+i)-mult n m T B cost i:=by
 unfold redc
 rw [h.mult_sum cost (by omega),sumTo_one i hi fun r hr hne=>by rw [tab0_art hi,if_neg fun e=>hne e.symm];grind]
 rw [tab0_art hi,if_pos rfl];grind
theorem Tb.cst_dual (h:Tb (tab0 A b n m) m (n+2*m) T B) (cost:Nat→Rat):cst m (n+2*m) T B cost=sumTo m fun r=>dualv b n m T B cost r*b r:=by
 unfold cst;rw [h.mult_sum cost (Nat.le_refl _)]
 exact sumTo_congr fun r hr=>by rw [tab0_last];unfold dualv;grind
def cost1 (n m:Nat) (j:Nat):Rat:=if n+m≤j∧j<n+2*m then 1 else 0
structure EndEmpty (A:Tab) (b:Nat→Rat) (n m:Nat) (Y:Nat→Rat):Prop where
 nn:∀ i,i<m→0≤Y i
 le:∀ j,j<n→(sumTo m fun i=>Y i*A i j)≤0
 pos:0<sumTo m fun i=>Y i*b i
theorem Ok.first_end (h:Ok (tab0 A b n m) m (n+2*m) (fun _=>false) T B) {e:Option Nat} (hf:Fin m (n+2*m) (cost1 n m) (fun _=>false) T B e):Fin m (n+2*m) (cost1 n m) (fun _=>false) T B none:=by
 cases e with
 | none=>exact hf
 | some s =>
   exfalso
   obtain ⟨-,h2,-,h4⟩:=h.free hf
   have:=sumTo_nonneg (n:=n+2*m) (f:=fun j=>cost1 n m j*dir m T B s j) fun j hj=>Rat.mul_nonneg (by unfold cost1;split<;>grind) (h2 j hj)
   grind
theorem Ok.cst1_nonneg (h:Ok (tab0 A b n m) m (n+2*m) (fun _=>false) T B):0≤cst m (n+2*m) T B (cost1 n m) :=
 sumTo_nonneg fun i hi=>Rat.mul_nonneg (by unfold cost1;split<;>grind) (h.fe i hi)
theorem Ok.empty (h:Ok (tab0 A b n m) m (n+2*m) (fun _=>false) T B) (hf:Fin m (n+2*m) (cost1 n m) (fun _=>false) T B none) (hne:cst m (n+2*m) T B (cost1 n m)≠0) :
 EndEmpty A b n m fun i=>(1-redc m T B (cost1 n m) (n+m+i))*sg b i:=by
 have hy:∀ i,i<m→(1-redc m T B (cost1 n m) (n+m+i))*sg b i=dualv b n m T B (cost1 n m) i:=fun i hi=>by
  rw [h.tb.redc_art _ hi];unfold cost1 dualv;rw [if_pos ⟨by omega,by omega⟩];grind
 refine ⟨fun i hi=>?_,fun j hj=>?_,?_⟩
 ·rw [hy i hi]
  have h1:=hf (n+i) (by omega) rfl
  rw [h.tb.redc_sur _ hi] at h1
  have:cost1 n m (n+i)=0:=by unfold cost1;rw [if_neg (by omega)]
  grind
 ·rw [sumTo_congr (g:=fun i=>dualv b n m T B (cost1 n m) i*A i j) fun i hi=>by rw [hy i hi]]
  have h1:=hf j (by omega) rfl
  rw [h.tb.redc_col _ hj] at h1
  have:cost1 n m j=0:=by unfold cost1;rw [if_neg (by omega)]
  grind
 ·rw [sumTo_congr (g:=fun i=>dualv b n m T B (cost1 n m) i*b i) fun i hi=>by rw [hy i hi],←h.tb.cst_dual]
  have:=h.cst1_nonneg
  grind
structure CloseAt (A:Tab) (b:Nat→Rat) (n m:Nat) (T:Tab) (B:Bas) (k:Nat):Prop where
 tb:Tb (tab0 A b n m) m (n+2*m) T B
 fe:Fe m (n+2*m) T
 zero:∀ i,i<m→n+m≤B i→T i (n+2*m)=0
 none_:∀ i,i<k→n+m≤B i→∀ j,j<n+m→T i j=0
theorem Ok.close_start (h:Ok (tab0 A b n m) m (n+2*m) (fun _=>false) T B) (hz:cst m (n+2*m) T B (cost1 n m)=0):CloseAt A b n m T B 0:=by
 refine ⟨h.tb,h.fe,fun i hi hb=>?_,fun i hi=>by omega⟩
 have h1:=sumTo_eq_zero (n:=m) (f:=fun i=>cost1 n m (B i)*T i (n+2*m)) (fun i hi=>Rat.mul_nonneg (by unfold cost1;split<;>grind) (h.fe i hi)) hz i hi
 have:=h.tb.lt i hi
 have h2:cost1 n m (B i)=1:=by unfold cost1;rw [if_pos ⟨hb,this⟩]
 simp only [h2] at h1;grind
theorem CloseAt.keep {k:Nat} (h:CloseAt A b n m T B k) (hk:B k<n+m):CloseAt A b n m T B (k+1) :=
 ⟨h.tb,h.fe,h.zero,fun i hi hb=>h.none_ i (by
  rcases Nat.lt_or_ge i k with h1|h1
  ·exact h1
  ·have:i=k:=by omega
   subst this;omega) hb⟩
theorem CloseAt.nil {k:Nat} (h:CloseAt A b n m T B k) (hk:∀ j,j<n+m→T k j=0):CloseAt A b n m T B (k+1) :=
 ⟨h.tb,h.fe,h.zero,fun i hi hb=>by
  rcases Nat.lt_or_ge i k with h1|h1
  ·exact h.none_ i h1 hb
  ·have:i=k:=by omega
   subst this;exact hk⟩
theorem CloseAt.pivot {k j:Nat} (h:CloseAt A b n m T B k) (hkm:k<m) (hk:n+m≤B k) (hj:j<n+m) (hne:T k j≠0):CloseAt A b n m (piv T k j) (pivB B k j) (k+1):=by
 have hz:=h.zero k hkm hk
 have hN:∀ i,piv T k j i (n+2*m)=T i (n+2*m):=fun i=>by
  unfold piv;rw [hz];split
  ·rename_i e;subst e;rw [hz];grind
  ·grind
 refine ⟨h.tb.pivot hkm (by omega) hne,fun i hi=>by rw [hN];exact h.fe i hi,fun i hi hb=>?_,fun i hi hb l hl=>?_⟩
 ·rw [hN]
  unfold pivB at hb
  split at hb
  ·omega
  ·exact h.zero i hi hb
 ·unfold pivB at hb
  split at hb
  ·omega
  ·rename_i e
   have hik:i<k:=by omega
   unfold piv;rw [if_neg e,h.none_ i hik hb l hl,h.none_ i hik hb j hj];grind
theorem CloseAt.ok (h:CloseAt A b n m T B m):Ok (tab0 A b n m) m (n+2*m) (art n m) T B :=
 ⟨h.tb,h.fe,fun i hi hs=>⟨h.zero i hi (of_decide_eq_true hs),fun j hj hjs=>h.none_ i hi (of_decide_eq_true hs) j (by
  have:=of_decide_eq_false hjs;omega)⟩⟩
def cost2 (c:Nat→Rat) (n:Nat) (j:Nat):Rat:=if j<n then c j else 0
theorem sum_cost2 (c x:Nat→Rat):sumTo (n+2*m) (fun j=>cost2 c n j*x j)=sumTo n fun j=>c j*x j:=by
 rw [sum_three,sumTo_congr (n:=n) (g:=fun j=>c j*x j) fun j hj=>by unfold cost2;rw [if_pos hj],
  sumTo_zero (n:=m) fun i hi=>by unfold cost2;rw [if_neg (by omega)];grind,sumTo_zero (n:=m) fun i hi=>by unfold cost2;rw [if_neg (by omega)];grind]
 grind
structure EndFree (A:Tab) (b c:Nat→Rat) (n m:Nat) (D:Nat→Rat):Prop where
 nn:∀ j,j<n→0≤D j
 ge:∀ i,i<m→0≤sumTo n fun j=>A i j*D j
 falls:(sumTo n fun j=>c j*D j)<0
 feas:∃ x,Feas A b n m x
theorem Ok.ray (h:Ok (tab0 A b n m) m (n+2*m) (art n m) T B) {s:Nat} (hf:Fin m (n+2*m) (cost2 c n) (art n m) T B (some s)):EndFree A b c n m (dir m T B s):=by
 obtain ⟨h1,h2,h3,h4⟩:=h.free hf
 refine ⟨fun j hj=>h2 j (by omega),fun i hi=>?_,by rw [sum_cost2] at h4;exact h4,⟨_,h.sol.feas⟩⟩
 have h5:=h1 i hi
 rw [tab0_eq _ hi,h3 (n+m+i) (by omega) (decide_eq_true (by omega))] at h5
 have h6:=h2 (n+i) (by omega)
 have h7:=sg_sq b i
 have h8:(sumTo n fun j=>A i j*dir m T B s j)=dir m T B s (n+i):=by grind
 rw [h8];exact h6
structure EndFound (A:Tab) (b c:Nat→Rat) (n m:Nat) (X Y:Nat→Rat):Prop where
 feas:Feas A b n m X
 nn:∀ i,i<m→0≤Y i
 le:∀ j,j<n→(sumTo m fun i=>Y i*A i j)≤c j
 level:(sumTo m fun i=>Y i*b i)=sumTo n fun j=>c j*X j
 least:∀ x,Feas A b n m x→(sumTo n fun j=>c j*x j)=(sumTo n fun j=>c j*X j)→LexLe n X x
theorem Ok.dual (h:Ok (tab0 A b n m) m (n+2*m) (art n m) T B) (hf:Fin m (n+2*m) (cost2 c n) (art n m) T B none) :
 (∀ i,i<m→0≤redc m T B (cost2 c n) (n+i))∧(∀ j,j<n→(sumTo m fun i=>redc m T B (cost2 c n) (n+i)*A i j)≤c j)∧(sumTo m fun i=>redc m T B (cost2 c n) (n+i)*b i)=cst m (n+2*m) T B (cost2 c n):=by
 have hy:∀ i,i<m→redc m T B (cost2 c n) (n+i)=dualv b n m T B (cost2 c n) i:=fun i hi=>by
  rw [h.tb.redc_sur _ hi];unfold cost2;rw [if_neg (by omega)];grind
 refine ⟨fun i hi=>hf (n+i) (by omega) (decide_eq_false (by omega)),fun j hj=>?_,?_⟩
 ·rw [sumTo_congr (g:=fun i=>dualv b n m T B (cost2 c n) i*A i j) fun i hi=>by rw [hy i hi]]
  have h1:=hf j (by omega) (decide_eq_false (by omega))
  rw [h.tb.redc_col _ hj] at h1
  have:cost2 c n j=c j:=by unfold cost2;rw [if_pos hj]
  grind
 ·rw [sumTo_congr (g:=fun i=>dualv b n m T B (cost2 c n) i*b i) fun i hi=>by rw [hy i hi],←h.tb.cst_dual]
theorem found {T1 T2:Tab} {B1 B2:Bas} {shut2:Nat→Bool} {v:Nat→Rat} (h:Ok (tab0 A b n m) m (n+2*m) (art n m) T1 B1) (hf:Fin m (n+2*m) (cost2 c n) (art n m) T1 B1 none)
 (k:LexAt (tab0 A b n m) m (n+2*m) (fixS m T1 B1 (cost2 c n) (art n m)) shut2 T2 B2 v n):EndFound A b c n m (bs m (n+2*m) T2 B2) fun i=>redc m T1 B1 (cost2 c n) (n+i):=by
 obtain ⟨d1,d2,d3⟩:=h.dual hf
 have h1:=(k.face _).1 k.ok.sol
 obtain ⟨h2,h3⟩:=(h.fix_sol hf _).1 h1.1
 rw [sum_cost2] at h3
 refine ⟨h2.feas,d1,d2,by rw [d3];exact h3.symm,fun x hx he=>?_⟩
 have h4:Sol (tab0 A b n m) m (n+2*m) (fixS m T1 B1 (cost2 c n) (art n m)) (full A b n m x):=(h.fix_sol hf _).2 ⟨hx.sol,by
  rw [sum_cost2,sumTo_congr (n:=n) (g:=fun j=>c j*x j) fun j hj=>by rw [full_col hj],he,h3]⟩
 rcases k.lex _ h4 with h5|⟨i,hi,h5,h6⟩
 ·exact .inl fun j hj=>by rw [←full_col (A:=A) (b:=b) (m:=m) (x:=x) hj,←h5 j hj];exact h1.2 j hj
 ·exact .inr ⟨i,hi,fun j hj=>by rw [←full_col (A:=A) (b:=b) (m:=m) (x:=x) (show j<n by omega),←h5 j hj];exact h1.2 j (by omega),by
   rw [←full_col (A:=A) (b:=b) (m:=m) (x:=x) hi,h1.2 i hi];exact h6⟩
theorem prodTo_all (k x:Nat):prodTo k (fun _=>x)=x ^ k:=by
 induction k with
 | zero=>rfl
 | succ k ih=>unfold prodTo;rw [ih,Nat.pow_succ]
theorem prodTo_but {k i x y:Nat} (hi:i<k):prodTo k (fun c=>if c=i then y else x)=y*x ^ (k-1):=by
 obtain ⟨k,rfl⟩:∃ l,k=l+1:=⟨k-1,by omega⟩
 rw [←prodTo_skip _ k i hi]
 rw [if_pos rfl,prodTo_congr (g:=fun _=>x) fun j hj=>by rw [if_neg (by unfold skip;split<;>omega)],prodTo_all,Nat.add_sub_cancel]
structure SmallT (A:Tab) (b:Nat→Rat) (n m:Nat):Prop where
 m6:m≤6
 a:∀ i j,i<m→j<n→IsI (A i j) 30
 b:∀ i,i<m→IsI (b i) 1000
theorem IsI.sg {x:Rat} {k:Nat} (h:IsI x k) (b:Nat→Rat) (i:Nat):IsI (sg b i*x) k:=by
 obtain ⟨z,rfl,hz⟩:=h
 unfold Lp.sg;split
 ·exact ⟨-z,by rw [Rat.intCast_neg];grind,by omega⟩
 ·exact ⟨z,by grind,hz⟩
theorem SmallT.col (h:SmallT A b n m) {i j:Nat} (hi:i<m) (hj:j<n+2*m):IsI (tab0 A b n m i j) 30:=by
 unfold tab0
 split
 ·exact (h.a i j hi (by assumption)).sg b i
 ·split
  ·split
   ·have h1:IsI (sg b i*1) 1:=IsI.sg ⟨1,rfl,by omega⟩ b i
    obtain ⟨z,h2,h3⟩:=h1
    exact ⟨-z,by rw [Rat.intCast_neg,←h2];grind,by omega⟩
   ·exact .zero _
  ·split
   ·exact ⟨1,rfl,by omega⟩
   ·exact .zero _
theorem SmallT.last (h:SmallT A b n m) {i:Nat} (hi:i<m):IsI (tab0 A b n m i (n+2*m)) 1000:=by
 rw [tab0_last];exact (h.b i hi).sg b i
theorem fac_bound {m x:Nat} (hm:m≤6) (h0:0<m):fac m*(x*30 ^ (m-1))≤x*17496000000:=by
 have:m=1∨m=2∨m=3∨m=4∨m=5∨m=6:=by omega
 rcases this with rfl|rfl|rfl|rfl|rfl|rfl<;>simp [fac]<;>omega
theorem fac_all {m:Nat} (hm:m≤6):fac m*30 ^ m≤524880000000:=by
 have:m=0∨m=1∨m=2∨m=3∨m=4∨m=5∨m=6:=by omega
 rcases this with rfl|rfl|rfl|rfl|rfl|rfl|rfl<;>decide
theorem Tb.den (h:Tb (tab0 A b n m) m (n+2*m) T B) (hs:SmallT A b n m):∃ D:Nat,0<D∧D≤524880000000∧(∀ i j,i<m→j<n+2*m→IsI ((D:Rat)*T i j) 524880000000) ∧
 (∀ i,i<m→IsI ((D:Rat)*T i (n+2*m)) 17496000000000)∧(∀ i r,i<m→r<m→IsI ((D:Rat)*T i (n+m+r)) 17496000000):=by
 have hcols:∀ r c,r<m→c<m→IsI (cols (tab0 A b n m) B r c) 30:=fun r c hr hc=>hs.col hr (h.lt c hc)
 have hd:=det_int (k:=m) (M:=cols (tab0 A b n m) B) (B:=fun _=>30) hcols
 rw [prodTo_all] at hd
 obtain ⟨z,hz,hzb⟩:=hd.mono (fac_all hs.m6)
 have hz0:z≠0:=fun e=>h.det (by rw [hz,e];rfl)
 have key:∀ i j x,i<m→j≤n+2*m→(∀ r,r<m→IsI (tab0 A b n m r j) x)→IsI ((z.natAbs:Rat)*T i j) (x*17496000000):=by
  intro i j x hi hj hx
  have h1:=det_int (k:=m) (M:=setCol (cols (tab0 A b n m) B) i fun r=>tab0 A b n m r j) (B:=fun c=>if c=i then x else 30) fun r c hr hc=>by
   unfold setCol;split
   ·exact hx r hr
   ·exact hcols r c hr hc
  rw [prodTo_but hi,h.cramer hi hj,hz] at h1
  obtain ⟨u,hu,hub⟩:=h1.mono (fac_bound hs.m6 (by omega))
  rcases Int.natAbs_eq z with e|e
  ·refine ⟨u,?_,hub⟩
   rw [←hu]
   have:(z.natAbs:Rat)=(z:Rat):=by rw [←Rat.intCast_natCast,←e]
   rw [this];grind
  ·refine ⟨-u,?_,by omega⟩
   rw [Rat.intCast_neg,←hu]
   have:(z.natAbs:Rat) = -(z:Rat):=by rw [←Rat.intCast_natCast,←Rat.intCast_neg];congr 1;omega
   rw [this];grind
 exact ⟨z.natAbs,by omega,hzb,fun i j hi hj=>key i j 30 hi (by omega) fun r hr=>hs.col hr hj,fun i hi=>key i _ 1000 hi (Nat.le_refl _) fun r hr=>hs.last hr,fun i r hi hr=>by
  have:=key i (n+m+r) 1 hi (by omega) fun r' hr'=>by
   rw [tab0_art hr];split
   ·exact ⟨1,rfl,by omega⟩
   ·exact .zero _
  exact this.mono (by omega)⟩
end Lp
end
end Go.Proofs.YtkljafmdbajfeaaGreatDoor
