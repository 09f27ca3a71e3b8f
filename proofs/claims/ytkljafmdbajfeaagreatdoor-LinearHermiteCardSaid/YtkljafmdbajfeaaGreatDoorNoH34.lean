/- Plain facts for the ends of a linear program: one divisor for what is returned. -/
import Derived.Test.YtkljafmdbajfeaaGreatDoorNoH33
namespace Go.Proofs.YtkljafmdbajfeaaGreatDoor
set_option linter.unusedVariables false
set_option linter.unusedSimpArgs false
section
open Go.RowKit
open Lp (Tab Bas tab0 bas0 redc SmallT IsI Tb cost1 cost2 sumTo dualv mult bs dir cst)
def DenB (k:Nat) (x:Nat→Rat):Prop:=∃ D:Nat,0<D∧D≤524880000000∧∀ i,i<k→IsI ((D:Rat)*x i) 104976000000000
theorem DenB.congr {k:Nat} {x y:Nat→Rat} (h:DenB k x) (e:∀ i,i<k→x i=y i):DenB k y:=by
 obtain ⟨D,h1,h2,h3⟩:=h
 exact ⟨D,h1,h2,fun i hi=>by rw [←e i hi];exact h3 i hi⟩
theorem isI_sum {m k:Nat} {f:Nat→Rat} (h:∀ i,i<m→IsI (f i) k):IsI (sumTo m f) (m*k):=by
 induction m with
 | zero=>exact ⟨0,rfl,by simp⟩
 | succ m ih =>
   simp only [sumTo]
   refine ((ih fun i hi=>h i (by omega)).add (h m (by omega))).mono ?_
   rw [Nat.succ_mul];exact Nat.le_refl _
variable {A:Tab} {b cost:Nat→Rat} {n m:Nat} {T:Tab} {B:Bas}
theorem six {m k K:Nat} (hm:m≤6) (h:6*k≤K):m*k≤K:=Nat.le_trans (Nat.mul_le_mul_right k hm) h
theorem den_dual (h:Tb (tab0 A b n m) m (n+2*m) T B) (hs:SmallT A b n m) (hc:∀ k,k<m→IsI (cost (B k)) 1000):DenB m (dualv b n m T B cost):=by
 obtain ⟨D,h0,hD,-,-,h3⟩:=h.den hs
 refine ⟨D,h0,hD,fun r hr=>?_⟩
 have e:(D:Rat)*dualv b n m T B cost r=Lp.sg b r*sumTo m fun k=>cost (B k)*((D:Rat)*T k (n+m+r)):=by
  unfold dualv mult
  have e1:(sumTo m fun k=>cost (B k)*((D:Rat)*T k (n+m+r)))=(D:Rat)*sumTo m fun k=>cost (B k)*T k (n+m+r):=by
   rw [←Lp.sumTo_mul];exact Lp.sumTo_congr fun k hk=>by grind
  rw [e1];grind
 rw [e]
 refine IsI.sg ?_ b r
 exact (isI_sum fun k hk=>(hc k hk).mul (h3 k r hk hr)).mono (six hs.m6 (by omega))
theorem den_point (h:Tb (tab0 A b n m) m (n+2*m) T B) (hs:SmallT A b n m):DenB n (bs m (n+2*m) T B):=by
 obtain ⟨D,h0,hD,-,h2,-⟩:=h.den hs
 refine ⟨D,h0,hD,fun j hj=>?_⟩
 have e:(D:Rat)*bs m (n+2*m) T B j=sumTo m fun i=>(if B i=j then (D:Rat)*T i (n+2*m) else 0):=by
  unfold bs;rw [←Lp.sumTo_mul];exact Lp.sumTo_congr fun k hk=>by split<;>grind
 rw [e]
 refine (isI_sum (k:=17496000000000) fun i hi=>?_).mono (six hs.m6 (by omega))
 split
 ·exact h2 i hi
 ·exact ⟨0,rfl,by omega⟩
theorem den_ray (h:Tb (tab0 A b n m) m (n+2*m) T B) (hs:SmallT A b n m) {s:Nat} (hsN:s<n+2*m):DenB n (dir m T B s):=by
 obtain ⟨D,h0,hD,h1,-,-⟩:=h.den hs
 refine ⟨D,h0,hD,fun j hj=>?_⟩
 have e:(D:Rat)*dir m T B s j=(if j=s then (D:Rat) else 0) + -(sumTo m fun i=>(if B i=j then (D:Rat)*T i s else 0)):=by
  have e1:(sumTo m fun i=>(if B i=j then (D:Rat)*T i s else 0))=(D:Rat)*sumTo m fun i=>(if B i=j then T i s else 0):=by
   rw [←Lp.sumTo_mul];exact Lp.sumTo_congr fun k hk=>by split<;>grind
  unfold dir;rw [e1];split<;>grind
 rw [e]
 have i1:IsI (if j=s then (D:Rat) else 0) 524880000000:=by
  split
  ·exact ⟨(D:Int),by rw [Rat.intCast_natCast],by omega⟩
  ·exact ⟨0,rfl,by omega⟩
 have i2:IsI (sumTo m fun i=>(if B i=j then (D:Rat)*T i s else 0)) (m*524880000000):=isI_sum fun i hi=>by
  split
  ·exact h1 i s hi hsN
  ·exact ⟨0,rfl,by omega⟩
 have i3:=i2.mono (six (K:=3149280000000) hs.m6 (by omega))
 obtain ⟨z,hz,hzb⟩:=i3
 refine (i1.add (y := -(sumTo m fun i=>(if B i=j then (D:Rat)*T i s else 0))) (c:=3149280000000) ⟨-z,by rw [hz,Rat.intCast_neg],by omega⟩).mono (by omega)
theorem isI_sq {x:Rat} {k:Nat} (h:IsI x k) (hk:k≤1000000):Sq 10 x:=by
 obtain ⟨z,rfl,hz⟩:=h
 refine Sq.mono (k:=2) ⟨digits_small.2 ?_,digits_small.2 (by rw [Rat.den_intCast];omega)⟩ (by omega)
 rw [Rat.num_intCast];omega
theorem cost1_i (n m j:Nat):IsI (cost1 n m j) 1000:=by
 unfold cost1;split
 ·exact ⟨1,rfl,by decide⟩
 ·exact ⟨0,rfl,by decide⟩
theorem cost1_sq (n m j:Nat):Sq 10 (cost1 n m j):=isI_sq (cost1_i n m j) (by omega)
theorem cost1_at (n m:Nat):cost1 n m (n+2*m)=0:=by unfold cost1;rw [if_neg (by omega)]
theorem cost2_i {c:Nat→Rat} {n:Nat} (hc:∀ j,j<n→IsI (c j) 1000) (j:Nat):IsI (cost2 c n j) 1000:=by
 unfold cost2;split
 ·exact hc j (by assumption)
 ·exact ⟨0,rfl,by decide⟩
theorem cost2_at (c:Nat→Rat) (n m:Nat):cost2 c n (n+2*m)=0:=by
 unfold cost2;rw [if_neg (by omega)]
theorem redTo_last {N m:Nat} {T:Tab} {B:Bas} {cost:Nat→Rat}:redTo N m T B cost N = - cst m N T B cost:=by
 unfold redTo cst;rw [if_neg (by omega)];grind
theorem one_sub_dual (h:Tb (tab0 A b n m) m (n+2*m) T B) {i:Nat} (hi:i<m):(1-redc m T B (cost1 n m) (n+m+i))*Lp.sg b i=dualv b n m T B (cost1 n m) i:=by
 rw [h.redc_art _ hi];unfold cost1 dualv;rw [if_pos ⟨by omega,by omega⟩];grind
theorem sur_dual (h:Tb (tab0 A b n m) m (n+2*m) T B) {c:Nat→Rat} {i:Nat} (hi:i<m):redc m T B (cost2 c n) (n+i)=dualv b n m T B (cost2 c n) i:=by
 rw [h.redc_sur _ hi];unfold cost2;rw [if_neg (by omega)];grind
end
end Go.Proofs.YtkljafmdbajfeaaGreatDoor
