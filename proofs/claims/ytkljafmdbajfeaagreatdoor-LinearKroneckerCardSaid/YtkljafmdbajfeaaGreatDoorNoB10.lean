/- How great the numbers of a normal form can be, and those of what it leaves of a vector: the other columns hang on the pivots' columns, and each pivot divides a minor. Plain mathematics. -/
import Derived.Test.YtkljafmdbajfeaaGreatDoorNoB03
import Derived.Test.YtkljafmdbajfeaaGreatDoorNoB04
namespace Go.Proofs.YtkljafmdbajfeaaGreatDoor
set_option linter.unusedVariables false
set_option linter.unusedSimpArgs false
section
namespace Lp
def setRow (M:Nat→Nat→Rat) (i:Nat) (u:Nat→Rat):Nat→Nat→Rat:=fun r j=>if r=i then u j else M r j
theorem det_row_lin {k:Nat}:∀ (M:Nat→Nat→Rat) (i:Nat) (a b:Rat) (u v:Nat→Rat),i<k→det k (setRow M i fun j=>a*u j+b*v j)=a*det k (setRow M i u)+b*det k (setRow M i v):=by
 induction k with
 | zero=>intro M i a b u v h;omega
 | succ k ih =>
   intro M i a b u v h
   unfold det
   rw [←sumTo_lin]
   refine sumTo_congr fun c hc=>?_
   cases i with
   | zero =>
     have h1:∀ w,minor (setRow M 0 w) c=minor M c:=fun w=>by funext r j;unfold minor setRow;rw [if_neg (by omega)]
     have h2:∀ w:Nat→Rat,setRow M 0 w 0 c=w c:=fun w=>by unfold setRow;rw [if_pos rfl]
     rw [h1,h1,h1,h2,h2,h2];grind
   | succ i =>
     have h1:∀ w,minor (setRow M (i+1) w) c=setRow (minor M c) i (fun j=>w (skip c j)):=fun w=>by
      funext r j;unfold minor setRow
      by_cases e:r=i
      ·rw [if_pos e,if_pos (by omega)]
      ·rw [if_neg e,if_neg (by omega)]
     have h2:∀ w:Nat→Rat,setRow M (i+1) w 0 c=M 0 c:=fun w=>by unfold setRow;rw [if_neg (by omega)]
     rw [h1,h1,h1,h2,h2,h2,ih _ i a b _ _ (by omega)];grind
theorem det_row_zero {k:Nat} (M:Nat→Nat→Rat) (i:Nat) (h:i<k):det k (setRow M i fun _=>0)=0:=by
 have h1:=det_row_lin M i 0 0 (fun _=>0) (fun _=>0) h
 have e:(fun _:Nat=>(0:Rat)*0+0*0)=fun _=>0:=by funext _;grind
 rw [e] at h1;rw [h1];grind
theorem setRow_self (M:Nat→Nat→Rat) (i:Nat):setRow M i (M i)=M:=by funext r j;unfold setRow;split<;>simp [*]
theorem det_col_zero {k:Nat} (M:Nat→Nat→Rat) (c:Nat) (hc:c<k) (h:∀ r,r<k→M r c=0):det k M=0:=by
 have e:det k M=det k (setCol M c fun r=>0*(0:Rat)+0*0):=det_congr fun r j hr hj=>by
  unfold setCol;split
  ·subst_vars;rw [h r hr];grind
  ·rfl
 rw [e,det_lin M c 0 0 _ _ hc];grind
theorem det_tri {k:Nat}:∀ (M:Nat→Nat→Rat),(∀ r c,r<k→c<r→M r c=0)→(∀ r,r<k→M r r≠0)→det k M≠0:=by
 induction k with
 | zero=>intro M _ _;unfold det;grind
 | succ k ih =>
   intro M h0 h1
   unfold det
   rw [sumTo_one 0 (by omega) fun c hc hne=>by
    have:det k (minor M c)=0:=det_col_zero _ 0 (by omega) fun r hr=>by
     unfold minor skip;rw [if_pos (by omega)];exact h0 _ _ (by omega) (by omega)
    rw [this];grind]
   have h2:=ih (minor M 0) (fun r c hr hc=>by unfold minor skip;rw [if_neg (by omega)];exact h0 _ _ (by omega) (by omega)) fun r hr=>by
    unfold minor skip;rw [if_neg (by omega)];exact h1 _ (by omega)
   have h3:=h1 0 (by omega)
   intro e
   have h4:M 0 0*det k (minor M 0)=0:=by unfold sgnAt at e;grind
   rcases Rat.mul_eq_zero.1 h4 with h|h
   ·exact h3 h
   ·exact h2 h
section
variable {n:Nat} {L:Lt} {R:V→Prop} {p:Nat→Nat} {k:Nat}
structure Piv (n:Nat) (L:Lt) (k:Nat) (p:Nat→Nat) (H:Nat→V):Prop where
 up:∀ i j,i<j→j<k→p i<p j
 row:∀ i,i<k→L (p i)=some (H i)
 all:∀ q r,L q=some r→∃ i,i<k∧p i=q
variable {H:Nat→V}
theorem Piv.rel (h:Piv n L k p H) (hE:Ech n L) (c:Nat):∃ lam:Nat→Rat,∀ v,Gen (From L 0) v→(v c:Rat)=sumTo k fun j=>lam j*(v (p j):Rat):=by
 have hrow:∀ t,t≤k→∃ lam:Nat→Rat,∀ i,k-t≤i→i<k→(H i c:Rat)=sumTo k fun j=>lam j*(H i (p j):Rat):=by
  intro t
  induction t with
  | zero=>intro _;exact ⟨fun _=>0,fun i h1 h2=>by omega⟩
  | succ t ih =>
    intro ht
    obtain ⟨lam,hl⟩:=ih (by omega)
    obtain ⟨s,hs⟩:∃ s,k-(t+1)=s:=⟨_,rfl⟩
    have hd:(H s (p s):Rat)≠0:=by
     have:=hE.pos _ _ (h.row s (by omega))
     intro e
     have:=Rat.intCast_inj.1 (show ((H s (p s):Int):Rat)=((0:Int):Rat) from e)
     omega
    obtain ⟨S,hS⟩:∃ S,(sumTo k fun j=>if j=s then 0 else lam j*(H s (p j):Rat))=S:=⟨_,rfl⟩
    refine ⟨fun j=>if j=s then ((H s c:Rat)-S) / (H s (p s):Rat) else lam j,fun i h1 h2=>?_⟩
    by_cases e:i=s
    ·subst e
     rw [sumTo_split _ i (by omega)]
     have e1:(sumTo k fun j=>if j=i then 0 else (if j=i then ((H i c:Rat)-S) / (H i (p i):Rat) else lam j)*(H i (p j):Rat))=S:=by
      rw [←hS];exact sumTo_congr fun j hj=>by split<;>rfl
     rw [e1]
     show (H i c:Rat)=(if i=i then ((H i c:Rat)-S) / (H i (p i):Rat) else lam i)*(H i (p i):Rat)+S
     rw [if_pos rfl,Rat.div_mul_cancel hd];grind
    ·rw [hl i (by omega) h2]
     refine sumTo_congr fun j hj=>?_
     by_cases e2:j=s
     ·subst e2
      have:H i (p j)=0:=hE.low _ _ (h.row i h2) _ (h.up j i (by omega) h2)
      rw [this];grind
     ·show lam j*(H i (p j):Rat)=(if j=s then ((H s c:Rat)-S) / (H s (p s):Rat) else lam j)*(H i (p j):Rat)
      rw [if_neg e2]
 obtain ⟨lam,hl⟩:=hrow k (Nat.le_refl _)
 refine ⟨lam,fun v hv=>?_⟩
 refine Gen.prop (P:=fun v=>(v c:Rat)=sumTo k fun j=>lam j*(v (p j):Rat)) ?_ ?_ hv
 ·rw [sumTo_zero fun j hj=>by show lam j*((0:Int):Rat)=0;rw [show ((0:Int):Rat)=0 from rfl];grind];rfl
 ·rintro v r d hv ⟨q,-,hq⟩
  obtain ⟨i,hi,rfl⟩:=h.all q r hq
  have hr:r=H i:=Option.some.inj (hq.symm.trans (h.row i hi))
  subst hr
  rw [Rat.intCast_add,Rat.intCast_mul,hv,hl i (by omega) hi,←sumTo_mul,←sumTo_add]
  exact sumTo_congr fun j hj=>by rw [Rat.intCast_add,Rat.intCast_mul];grind
theorem Piv.pick (h:Piv n L k p H) (hE:Ech n L) (hg:∀ i,i<k→Gen R (H i)):∀ t,t≤k→∃ g:Nat→V,(∀ i,i<t→R (g i))∧(∀ i,t≤i→i<k→g i=H i)∧det k (fun r c=>(g r (p c):Rat))≠0:=by
 intro t
 induction t with
 | zero =>
   intro _
   refine ⟨H,fun i hi=>by omega,fun i _ _=>rfl,det_tri _ (fun r c hr hc=>?_) fun r hr e=>?_⟩
   ·rw [hE.low _ _ (h.row r hr) _ (h.up c r hc hr)];rfl
   ·have:=hE.pos _ _ (h.row r hr)
    have:=Rat.intCast_inj.1 (show ((H r (p r):Int):Rat)=((0:Int):Rat) from e)
    omega
 | succ t ih =>
   intro ht
   obtain ⟨g,h1,h2,h3⟩:=ih (by omega)
   refine Classical.byContradiction fun hno=>?_
   have hz:∀ x,R x→det k (setRow (fun r c=>(g r (p c):Rat)) t fun c=>(x (p c):Rat))=0:=fun x hx=>by
    refine Classical.byContradiction fun hd=>hno ⟨fun i=>if i=t then x else g i,fun i hi=>?_,fun i hi hk=>?_,?_⟩
    ·show R (if i=t then x else g i)
     by_cases e:i=t
     ·rw [if_pos e];exact hx
     ·rw [if_neg e];exact h1 i (by omega)
    ·show (if i=t then x else g i)=H i
     rw [if_neg (by omega)];exact h2 i (by omega) hk
    ·rw [det_congr (N:=setRow (fun r c=>(g r (p c):Rat)) t fun c=>(x (p c):Rat)) fun r c hr hc=>by
      unfold setRow;by_cases e:r=t
      ·subst e;simp
      ·simp [e]]
     exact hd
   have hv:∀ v,Gen R v→det k (setRow (fun r c=>(g r (p c):Rat)) t fun c=>(v (p c):Rat))=0:=fun v hv =>
    Gen.prop (P:=fun v=>det k (setRow (fun r c=>(g r (p c):Rat)) t fun c=>(v (p c):Rat))=0) (by
     have:=det_row_zero (fun r c=>(g r (p c):Rat)) t (show t<k by omega)
     exact this) (fun v r d hv hr=>by
     have e:(fun c=>((v (p c)+d*r (p c):Int):Rat))=fun c=>1*(v (p c):Rat)+(d:Rat)*(r (p c):Rat):=by
      funext c;rw [Rat.intCast_add,Rat.intCast_mul];grind
     show det k (setRow _ t fun c=>((v (p c)+d*r (p c):Int):Rat))=0
     rw [e,det_row_lin _ t _ _ _ _ (by omega),hv,hz r hr];grind) hv
   have h4:=hv (H t) (hg t (by omega))
   rw [←h2 t (Nat.le_refl _) (by omega)] at h4
   have e:setRow (fun r c=>(g r (p c):Rat)) t (fun c=>(g t (p c):Rat))=fun r c=>(g r (p c):Rat):=setRow_self (fun r c=>(g r (p c):Rat)) t
   rw [e] at h4
   exact h3 h4
def sumZ:Nat→(Nat→Int)→Int
 | 0,_=>0
 | n+1,f=>sumZ n f+f n
theorem sumZ_cast (f:Nat→Int):∀ n,((sumZ n f:Int):Rat)=sumTo n fun i=>(f i:Rat)
 | 0=>rfl
 | n+1=>by unfold sumZ sumTo;rw [Rat.intCast_add,sumZ_cast f n]
theorem gen_sum {g:Nat→V} {cf:Nat→Int}:∀ t,(∀ i,i<t→R (g i))→Gen R fun x=>sumZ t fun i=>cf i*g i x
 | 0,_=>.zero
 | t+1,h=>(gen_sum t fun i hi=>h i (by omega)).step _ (g t) (cf t) (h t (by omega))
theorem prodTo_allS (k x:Nat):prodTo k (fun _=>x)=x ^ k:=by
 induction k with
 | zero=>rfl
 | succ k ih=>unfold prodTo;rw [ih,Nat.pow_succ]
theorem isI_of {z:Int} {b:Nat} (h:z.natAbs≤b):IsI (z:Rat) b:=⟨z,rfl,h⟩
theorem Piv.size (h:Piv n L k p H) (hE:Ech n L) {B:Nat} (hB:0<B) (hR:∀ r,R r→∀ i,(r i).natAbs≤B) (hgen:∀ x,Gen (From L 0) x↔Gen R x) :
 ∃ D:Int,D≠0∧D.natAbs≤fac k*B ^ k∧(∀ i,i<k→H i (p i) ∣ D) ∧
  ∀ v Y,Gen (From L 0) v→(∀ j,j<k→(v (p j)).natAbs≤Y)→∀ c,D.natAbs*(v c).natAbs≤k*(fac k*B ^ k*Y):=by
 obtain ⟨g,g1,-,g3⟩:=h.pick hE (R:=R) (fun i hi=>(hgen _).1 (Gen.one ⟨p i,Nat.zero_le _,h.row i hi⟩)) k (Nat.le_refl _)
 obtain ⟨N,hN⟩:∃ N:Nat→Nat→Rat,N=fun r c=>(g r (p c):Rat):=⟨_,rfl⟩
 rw [←hN] at g3
 have hNI:∀ r c,r<k→c<k→IsI (N r c) B:=fun r c hr _=>by rw [hN];exact isI_of (hR _ (g1 r hr) _)
 have hdet:∀ M:Nat→Nat→Rat,(∀ r c,r<k→c<k→IsI (M r c) B)→IsI (det k M) (fac k*B ^ k):=fun M hM=>by
  have:=det_int (k:=k) (M:=M) (B:=fun _=>B) hM
  rw [prodTo_allS] at this;exact this
 obtain ⟨D,hD,hDb⟩:=hdet N hNI
 refine ⟨D,fun e=>g3 (by rw [hD,e];rfl),hDb,fun j hj=>?_,fun v Y hv hY c=>?_⟩
 ·have hcf:∀ i,IsI (det k (setCol N j fun r=>if r=i then 1 else 0)) (fac k*B ^ k):=fun i=>hdet _ fun r c hr hc=>by
   unfold setCol;split
   ·show IsI (if r=i then 1 else 0) B
    split
    ·exact (show IsI 1 1 from ⟨1,rfl,by omega⟩).mono (by omega)
    ·exact .zero _
   ·exact hNI r c hr hc
  have hex:∃ cf:Nat→Int,∀ i,det k (setCol N j fun r=>if r=i then 1 else 0)=(cf i:Rat):=⟨fun i=>Classical.choose (hcf i),fun i=>(Classical.choose_spec (hcf i)).1⟩
  obtain ⟨cf,hcf⟩:=hex
  have hv:=gen_sum (R:=R) (g:=g) (cf:=cf) k g1
  obtain ⟨v,hvd⟩:∃ v:V,v=fun x=>sumZ k fun i=>cf i*g i x:=⟨_,rfl⟩
  rw [←hvd] at hv
  have hcol:∀ m,m<k→(v (p m):Rat)=det k (setCol N j fun r=>N r m):=fun m hm=>by
   have e1:det k (setCol N j fun r=>N r m)=det k (setCol N j fun r=>sumTo k fun l=>N l m*(if r=l then 1 else 0)):=det_congr fun r c hr hc=>by
    unfold setCol;split
    ·show N r m=sumTo k fun l=>N l m*if r=l then 1 else 0
     rw [sumTo_one r hr fun i hi hne=>by rw [if_neg (Ne.symm hne)];grind];rw [if_pos rfl];grind
    ·rfl
   rw [e1,det_sum N j hj (fun l=>N l m) (fun r l=>if r=l then 1 else 0) k,hvd]
   show ((sumZ k fun i=>cf i*g i (p m):Int):Rat)=_
   rw [sumZ_cast]
   exact sumTo_congr fun l hl=>by rw [hcf l,Rat.intCast_mul,hN];grind
  have hvj:v (p j)=D:=by
   have:=hcol j hj
   rw [det_setCol_self,hD] at this
   exact Rat.intCast_inj.1 this
  have hvm:∀ m,m<k→m≠j→v (p m)=0:=fun m hm hne=>by
   have h1:=hcol m hm
   rw [det_equal _ j m hj hm (Ne.symm hne) fun r hr=>by unfold setCol;rw [if_pos rfl,if_neg hne]] at h1
   exact Rat.intCast_inj.1 (show ((v (p m):Int):Rat)=((0:Int):Rat) from h1)
  have hD0:D≠0:=fun e=>g3 (by rw [hD,e];rfl)
  obtain ⟨q,hq1,hq2⟩:=first_of (v:=v) ⟨p j,by rw [hvj];exact hD0⟩
  obtain ⟨r,hr1,hr2⟩:=hE.divides ((hgen v).2 hv) q hq2 hq1
  obtain ⟨i,hi,rfl⟩:=h.all q r hr1
  have hij:i=j:=Classical.byContradiction fun hne=>hq1 (hvm i hi hne)
  subst hij
  have e:=Option.some.inj (hr1.symm.trans (h.row i hi))
  subst e
  rw [hvj] at hr2;exact hr2
 ·obtain ⟨lam,hl⟩:=h.rel hE c
  have hmu:∀ j,j<k→IsI (lam j*det k N) (fac k*B ^ k):=fun j hj=>by
   have h1:=cramer N lam (fun r=>(g r c:Rat)) (fun r hr=>by
    have:=hl (g r) ((hgen _).2 (Gen.one (g1 r hr)))
    show (g r c:Rat)=_
    rw [this,hN]) j hj
   rw [←h1]
   refine hdet _ fun r c' hr hc=>?_
   unfold setCol;split
   ·exact isI_of (hR _ (g1 r hr) _)
   ·exact hNI r c' hr hc
  have h2:IsI ((D:Rat)*(v c:Rat)) (k*(fac k*B ^ k*Y)):=by
   rw [hl v hv,←sumTo_mul]
   refine IsI.sum fun j hj=>?_
   have e:(D:Rat)*(lam j*(v (p j):Rat))=lam j*det k N*(v (p j):Rat):=by rw [hD];grind
   rw [e]
   exact (hmu j hj).mul (isI_of (hY j hj))
  obtain ⟨z,hz,hzb⟩:=h2
  have e:D*v c=z:=Rat.intCast_inj.1 (by rw [Rat.intCast_mul,hz])
  rw [←Int.natAbs_mul,e];exact hzb
end
end Lp
end
end Go.Proofs.YtkljafmdbajfeaaGreatDoor
