/- The reference's elimination: the whole, column by column. Plain mathematics. -/
import Derived.Test.YtkljafmdbajfeaaGreatDoorNoH06
import Derived.Test.YtkljafmdbajfeaaGreatDoorNoH41
import Derived.Test.YtkljafmdbajfeaaGreatDoorNoH42
namespace Go.Proofs.YtkljafmdbajfeaaGreatDoor
set_option linter.unusedVariables false
set_option linter.unusedSimpArgs false
section
open Lp (V Gen)
theorem nrow_all {l:List (List Int)} {P:List Int→Prop} (h:∀ i,i<l.length→P (nrow l i)):∀ r∈l,P r:=fun r hr=>by
 obtain ⟨i,hi,rfl⟩:=List.getElem_of_mem hr
 rw [←nrow_lt hi];exact h i hi
theorem rowV_mem {l:List (List Int)} {v:V}:RowV l v↔∃ r∈l,v=nth r:=by
 constructor
 ·rintro ⟨i,hi,rfl⟩;exact ⟨_,nrow_mem hi,rfl⟩
 ·rintro ⟨r,hr,rfl⟩
  obtain ⟨i,hi,rfl⟩:=List.getElem_of_mem hr
  exact ⟨i,hi,by rw [nrow_lt hi]⟩
theorem gen_or {R S T:V→Prop} (h:∀ x,Gen S x→Gen T x) {x:V} (k:Gen (fun v=>R v∨S v) x):Gen (fun v=>R v∨T v) x :=
 Gen.lift (fun r hr=>hr.elim (fun h1=>Gen.one (.inl h1)) fun h1=>Gen.lift (fun u hu=>Gen.one (.inr hu)) (h r (Gen.one h1))) k
def upM (M:Nat):Nat→Nat
 | 0=>M
 | k+1=>upM M k ^ 9
theorem upM_two {M:Nat} (h:2≤M):∀ k,2≤upM M k
 | 0=>h
 | k+1=>Nat.le_trans (upM_two h k) (Nat.le_self_pow (by omega) _)
theorem upM_mono {M:Nat} (h:2≤M) {j:Nat}:∀ k,j≤k→upM M j≤upM M k
 | 0,hk=>by rw [Nat.le_zero.1 hk];exact Nat.le_refl _
 | k+1,hk=>by
   by_cases e:j=k+1
   ·rw [e];exact Nat.le_refl _
   ·exact Nat.le_trans (upM_mono h k (by omega)) (Nat.le_self_pow (by omega) _)
def Fine (B:Nat):Prop:=2≤B∧∀ x:Int,x.natAbs≤B*(B*B)→Few x
theorem Fine.le {B:Nat} (h:Fine B) {x:Int} (hx:x.natAbs≤B):Few x:=h.2 x (by
 have:=Nat.le_mul_of_pos_right B (Nat.mul_pos (show 0<B by have:=h.1;omega) (show 0<B by have:=h.1;omega));omega)
theorem Fine.step {B c n:Nat} (h:Fine B) {la lb:List Int} (ha:la.length=n) (hb:lb.length=n) (hc:c<n) (hn:n≤1000) (hz:nth lb c≠0) (ba:RowBd B la) (bb:RowBd B lb):StepOk la lb c:=by
 have h2:=h.1
 have hq:=flr_le (nth la c) (nth lb c) hz
 have hac:=ba c
 have h3:B+1≤B*B:=by have:=Nat.mul_le_mul_right B h2;omega
 have h4:B*B≤B*(B*B):=Nat.le_mul_of_pos_left _ (by omega)
 refine ⟨by omega,by omega,by omega,by omega,hz,fun i _=>h.le (ba i),fun i _=>h.le (bb i),h.2 _ (by omega),fun i _=>h.2 _ ?_⟩
 rw [Int.natAbs_mul,Nat.mul_comm B]
 exact Nat.mul_le_mul (by omega) (bb i)
structure NForm (n c:Nat) (out:List (List Int)) (p:Nat→Nat):Prop where
 len:∀ i,i<out.length→(nrow out i).length=n
 lt:∀ i,i<out.length→p i<c
 up:∀ i j,i<j→j<out.length→p i<p j
 low:∀ i,i<out.length→∀ k,k<p i→nth (nrow out i) k=0
 pos:∀ i,i<out.length→0<nth (nrow out i) (p i)
 red:∀ i j,i<j→j<out.length→0≤nth (nrow out i) (p j)∧nth (nrow out i) (p j)<nth (nrow out j) (p j)
structure NInv (l0:List (List Int)) (n M c:Nat) (out l:List (List Int)) (p:Nat→Nat):Prop where
 form:NForm n c out p
 ll:∀ i,i<l.length→(nrow l i).length=n
 low:∀ i,i<l.length→∀ k,k<c→nth (nrow l i) k=0
 gen:∀ x,Gen (fun v=>RowV out v∨RowV l v) x↔Gen (RowV l0) x
 cnt:out.length+l.length=l0.length
 bo:∀ i,i<out.length→RowBd (upM M out.length) (nrow out i)
 bl:∀ i,i<l.length→RowBd (upM M out.length) (nrow l i)
theorem NInv.start {l0:List (List Int)} {n M:Nat} (hl:∀ i,i<l0.length→(nrow l0 i).length=n) (hb:∀ i,i<l0.length→RowBd M (nrow l0 i)) (p:Nat→Nat):NInv l0 n M 0 [] l0 p:=by
 refine ⟨⟨?_,?_,?_,?_,?_,?_⟩,hl,fun i _ k hk=>by omega,fun x=>⟨Gen.lift fun r hr=>?_,Gen.lift fun r hr=>Gen.one (.inr hr)⟩,by simp,?_,hb⟩
 ·intro i hi;simp at hi
 ·intro i hi;simp at hi
 ·intro i j _ hi;simp at hi
 ·intro i hi;simp at hi
 ·intro i hi;simp at hi
 ·intro i j _ hi;simp at hi
 ·rcases hr with ⟨i,hi,-⟩|hr
  ·simp at hi
  ·exact Gen.one hr
 ·intro i hi;simp at hi
theorem NInv.skip {l0 out l:List (List Int)} {n M c:Nat} {p:Nat→Nat} (h:NInv l0 n M c out l p) (hz:∀ i,i<l.length→nth (nrow l i) c=0):NInv l0 n M (c+1) out l p :=
 ⟨⟨h.form.len,fun i hi=>by have:=h.form.lt i hi;omega,h.form.up,h.form.low,h.form.pos,h.form.red⟩,h.ll,fun i hi k hk=>by
  by_cases e:k=c
  ·rw [e];exact hz i hi
  ·exact h.low i hi k (by omega),h.gen,h.cnt,h.bo,h.bl⟩
structure ColInv (l l2:List (List Int)) (n c M:Nat):Prop where
 len:l2.length=l.length
 ll:∀ i,i<l2.length→(nrow l2 i).length=n
 low:∀ i,i<l2.length→∀ k,k<c→nth (nrow l2 i) k=0
 gen:∀ x,Gen (RowV l2) x↔Gen (RowV l) x
 bd:l2=l∨ColA c (3*(M*M)*(M*M)) l2∨ColF c (3*(M*M)*(M*M)) l2
theorem NInv.col {l0 out l:List (List Int)} {n M c:Nat} {p:Nat→Nat} (h:NInv l0 n M c out l p) (N:Nat):ColInv l l n c N:=⟨rfl,h.ll,h.low,fun _=>Iff.rfl,.inl rfl⟩
theorem ColInv.step {l l2:List (List Int)} {n c M a:Nat} (h:ColInv l l2 n c M) (hM:∀ i,i<l.length→RowBd M (nrow l i)) (ha:ColMin l2 c a):ColInv l (clearTo l2 c a l2.length) n c M:=by
 have hat:∀ i,i<l2.length→nrow (clearTo l2 c a l2.length) i=clearRow l2 c a i:=fun i hi=>by rw [clearTo_at l2 c a l2.length hi,if_pos hi]
 refine ⟨by rw [clearTo_len];exact h.len,fun i hi=>?_,fun i hi k hk=>?_,fun x=>(clearTo_gen h.ll ha.lt x).trans (h.gen x),?_⟩
 ·rw [clearTo_len] at hi;rw [hat i hi,clearRow_len];exact h.ll i hi
 ·rw [clearTo_len] at hi;rw [hat i hi];exact clearRow_low (h.low i hi k hk) (h.low a ha.lt k hk)
 ·rcases h.bd with e|e|e
  ·subst e;exact .inr (ColA.first hM ha)
  ·exact .inr (e.step ha)
  ·have:clearTo l2 c a l2.length=l2:=by
    refine List.ext_getElem (clearTo_len _ _ _ _) fun i h1 h2=>?_
    rw [←nrow_lt h1,←nrow_lt h2,hat i h2];exact e.still ha i h2
   rw [this];exact .inr (.inr e)
theorem ColInv.le {l l2:List (List Int)} {n c M:Nat} (h:ColInv l l2 n c M) (h2:2≤M) (hM:∀ i,i<l.length→RowBd M (nrow l i)):∀ i,i<l2.length→RowBd (2*(3*(M*M)*(M*M))) (nrow l2 i):=fun i hi=>by
 rcases h.bd with e|e|e
 ·subst e
  refine (hM i hi).mono ?_
  have h3:=Nat.le_mul_of_pos_right M (show 0<M by omega)
  have h4:=Nat.le_mul_of_pos_right (3*(M*M)) (Nat.mul_pos (show 0<M by omega) (show 0<M by omega))
  omega
 ·exact (e.bd i hi).mono (by omega)
 ·exact e.2 i hi
theorem ColInv.none {l l2:List (List Int)} {n c M:Nat} (h:ColInv l l2 n c M) (hz:∀ i,i<l2.length→nth (nrow l2 i) c=0):l2=l:=by
 rcases h.bd with e|⟨B,P,s,-,-,-,-,-,j,hj,hn,-⟩|⟨⟨a,ha,hn,-⟩,-⟩
 ·exact e
 ·exact absurd (hz j hj) hn
 ·exact absurd (hz a ha) hn
def outTo (out:List (List Int)) (pr:List Int) (c k:Nat):List (List Int):=(List.range out.length).map fun i=>if i<k then clrR (nrow out i) pr c else nrow out i
theorem outTo_len (out:List (List Int)) (pr:List Int) (c k:Nat):(outTo out pr c k).length=out.length:=by simp [outTo]
theorem outTo_at (out:List (List Int)) (pr:List Int) (c k:Nat) {i:Nat} (h:i<out.length):nrow (outTo out pr c k) i=if i<k then clrR (nrow out i) pr c else nrow out i:=by
 rw [nrow_lt (by rw [outTo_len];exact h)];simp [outTo]
theorem outTo_zero (out:List (List Int)) (pr:List Int) (c:Nat):outTo out pr c 0=out:=by
 refine List.ext_getElem (outTo_len _ _ _ _) fun i h1 h2=>?_
 rw [←nrow_lt h1,←nrow_lt h2,outTo_at _ _ _ _ h2,if_neg (by omega)]
theorem outTo_succ (out:List (List Int)) (pr:List Int) (c:Nat) {k:Nat} (h:k<out.length):(outTo out pr c k).set k (clrR (nrow out k) pr c)=outTo out pr c (k+1):=by
 refine List.ext_getElem (by rw [List.length_set,outTo_len,outTo_len]) fun i h1 h2=>?_
 rw [List.length_set,outTo_len] at h1
 rw [←nrow_lt h2,outTo_at _ _ _ _ h1,List.getElem_set]
 by_cases e:k=i
 ·subst e;rw [if_pos rfl,if_pos (by omega)]
 ·rw [if_neg e,←nrow_lt (by rw [outTo_len];exact h1),outTo_at _ _ _ _ h1]
  by_cases e2:i<k
  ·rw [if_pos e2,if_pos (by omega)]
  ·rw [if_neg e2,if_neg (by omega)]
def restTo (l:List (List Int)) (a:Nat):Nat→List (List Int)
 | 0=>[]
 | k+1=>if k=a then restTo l a k else restTo l a k ++ [nrow l k]
theorem restTo_mem {l:List (List Int)} {a:Nat} {r:List Int}:∀ {k},r∈restTo l a k↔∃ i,i<k∧i≠a∧r=nrow l i
 | 0=>by simp [restTo]
 | k+1=>by
   have ih:=restTo_mem (l:=l) (a:=a) (r:=r) (k:=k)
   unfold restTo
   by_cases e:k=a
   ·rw [if_pos e,ih]
    constructor
    ·rintro ⟨i,h1,h2,h3⟩;exact ⟨i,by omega,h2,h3⟩
    ·rintro ⟨i,h1,h2,h3⟩;exact ⟨i,by omega,h2,h3⟩
   ·rw [if_neg e,List.mem_append,ih]
    constructor
    ·rintro (⟨i,h1,h2,h3⟩|h)
     ·exact ⟨i,by omega,h2,h3⟩
     ·exact ⟨k,by omega,e,by simpa using h⟩
    ·rintro ⟨i,h1,h2,h3⟩
     by_cases e2:i=k
     ·subst e2;exact .inr (by simp [h3])
     ·exact .inl ⟨i,by omega,h2,h3⟩
theorem restTo_len {l:List (List Int)} {a:Nat}:∀ k,(restTo l a k).length+(if a<k then 1 else 0)=k
 | 0=>by simp [restTo]
 | k+1=>by
   have ih:=restTo_len (l:=l) (a:=a) k
   unfold restTo
   by_cases e:k=a
   ·rw [if_pos e,if_pos (by omega)];rw [if_neg (by omega)] at ih;omega
   ·rw [if_neg e,List.length_append]
    by_cases h:a<k
    ·rw [if_pos h] at ih;rw [if_pos (by omega)];simp;omega
    ·rw [if_neg h] at ih;rw [if_neg (by omega)];simp;omega
theorem restTo_all {l:List (List Int)} {a k:Nat} {P:List Int→Prop} (h:∀ i,i<k→i≠a→P (nrow l i)):∀ i,i<(restTo l a k).length→P (nrow (restTo l a k) i):=fun i hi=>by
 obtain ⟨j,h1,h2,h3⟩:=restTo_mem.1 (nrow_mem hi)
 rw [h3];exact h j h1 h2
theorem NInv.next {l0 out l l2:List (List Int)} {n M c a:Nat} {p:Nat→Nat} {pr:List Int} {s:Int} (h:NInv l0 n M c out l p) (hM:2≤M) (k:ColInv l l2 n c (upM M out.length)) (hc:c<n) (ha:a<l2.length)
 (ho:∀ i,i<l2.length→i≠a→nth (nrow l2 i) c=0) (hs:s=1∨s = -1) (hpr:nth pr=fun i=>s*nth (nrow l2 a) i) (hlen:pr.length=n) (hpos:0<nth pr c) :
 NInv l0 n M (c+1) (outTo out pr c out.length ++ [pr]) (restTo l2 a l2.length) fun i=>if i=out.length then c else p i:=by
 have hu:=upM_two hM out.length
 obtain ⟨g1,g2⟩:=grow_bd hu
 have hb:=k.le hu h.bl
 have hss:s*s=1:=by rcases hs with rfl|rfl<;>rfl
 have hlow:∀ i,i<c→nth pr i=0:=fun i hi=>by rw [hpr];show s*nth (nrow l2 a) i=0;rw [k.low a ha i hi];simp
 have hpb:RowBd (2*(3*(upM M out.length*upM M out.length)*(upM M out.length*upM M out.length))) pr:=fun i=>by
  have:=hb a ha i
  rw [hpr];show (s*nth (nrow l2 a) i).natAbs≤_
  rcases hs with rfl|rfl
  ·rw [Int.one_mul];exact this
  ·rw [show (-1:Int)*nth (nrow l2 a) i = -nth (nrow l2 a) i by omega,Int.natAbs_neg];exact this
 have hlen2:(outTo out pr c out.length ++ [pr]).length=out.length+1:=by simp [outTo_len]
 have hold:∀ i,i<out.length→nrow (outTo out pr c out.length ++ [pr]) i=clrR (nrow out i) pr c:=fun i hi=>by
  rw [brow_app (by rw [outTo_len];exact hi),outTo_at _ _ _ _ hi,if_pos hi]
 have hnew:nrow (outTo out pr c out.length ++ [pr]) out.length=pr:=by
  have:=brow_last (outTo out pr c out.length) pr
  rw [outTo_len] at this;exact this
 have hcl:∀ i,i<out.length→∃ q:Int,nth (clrR (nrow out i) pr c)=fun j=>nth (nrow out i) j+q*nth pr j:=fun i hi =>
  ⟨_,lessL_vec (by rw [hlen,h.form.len i hi];exact Nat.le_refl _)⟩
 have hpi:∀ i,i<out.length→∀ j,j<c→nth (clrR (nrow out i) pr c) j=nth (nrow out i) j:=fun i hi j hj=>by
  obtain ⟨q,e⟩:=hcl i hi
  rw [e];show nth (nrow out i) j+q*nth pr j=_
  rw [hlow j hj];omega
 refine ⟨⟨fun i hi=>?_,fun i hi=>?_,fun i j hij hj=>?_,fun i hi m hm=>?_,fun i hi=>?_,fun i j hij hj=>?_⟩,restTo_all (P:=fun r=>r.length=n) fun i hi _=>k.ll i hi,restTo_all (P:=fun r=>∀ m,m<c+1→nth r m=0) fun i hi hne m hm=>?_,fun x=>Iff.trans ?_ (h.gen x),?_,fun i hi=>?_,restTo_all (P:=fun r=>RowBd _ r) fun i hi _=>?_⟩
 ·rw [hlen2] at hi
  by_cases e:i=out.length
  ·subst e;rw [hnew];exact hlen
  ·rw [hold i (by omega)];unfold clrR;rw [lessL_len];exact h.form.len i (by omega)
 ·rw [hlen2] at hi
  by_cases e:i=out.length
  ·simp only [if_pos e];omega
  ·simp only [if_neg e];have:=h.form.lt i (by omega);omega
 ·rw [hlen2] at hj
  simp only [if_neg (show i≠out.length by omega)]
  by_cases e:j=out.length
  ·simp only [if_pos e];exact h.form.lt i (by omega)
  ·simp only [if_neg e];exact h.form.up i j hij (by omega)
 ·rw [hlen2] at hi
  by_cases e:i=out.length
  ·subst e;rw [hnew];simp only [if_pos] at hm;exact hlow m hm
  ·simp only [if_neg e] at hm
   have h1:=h.form.lt i (by omega)
   rw [hold i (by omega),hpi i (by omega) m (by omega)];exact h.form.low i (by omega) m hm
 ·rw [hlen2] at hi
  by_cases e:i=out.length
  ·subst e;rw [hnew];simp only [if_pos];exact hpos
  ·simp only [if_neg e]
   rw [hold i (by omega),hpi i (by omega) _ (h.form.lt i (by omega))];exact h.form.pos i (by omega)
 ·rw [hlen2] at hj
  by_cases e:j=out.length
  ·subst e
   simp only [if_pos]
   rw [hold i hij,hnew]
   exact clrR_col (by rw [h.form.len i hij];exact hc) hpos
  ·simp only [if_neg e]
   have h1:=h.form.lt j (by omega)
   rw [hold i (by omega),hold j (by omega),hpi i (by omega) _ h1,hpi j (by omega) _ h1]
   exact h.form.red i j hij (by omega)
 ·by_cases e:m=c
  ·rw [e];exact ho i hi hne
  ·exact k.low i hi m (by omega)
 ·constructor
  ·intro hx
   refine gen_or (fun y hy=>(k.gen y).1 hy) (Gen.lift (fun r hr=>?_) hx)
   have hpg:Gen (fun v=>RowV out v∨RowV l2 v) (nth pr):=((Gen.one (.inr ⟨a,ha,rfl⟩):Gen (fun v=>RowV out v∨RowV l2 v) (nth (nrow l2 a))).smul s).cast fun i=>by rw [hpr]
   rcases hr with ⟨i,hi,rfl⟩|hr
   ·rw [hlen2] at hi
    by_cases e:i=out.length
    ·subst e;rw [hnew];exact hpg
    ·rw [hold i (by omega)]
     obtain ⟨q,e2⟩:=hcl i (by omega)
     rw [e2]
     exact (Gen.one (.inl ⟨i,by omega,rfl⟩):Gen (fun v=>RowV out v∨RowV l2 v) (nth (nrow out i))).addMul q hpg
   ·obtain ⟨r',hr',rfl⟩:=rowV_mem.1 hr
    obtain ⟨j,h1,-,rfl⟩:=restTo_mem.1 hr'
    exact Gen.one (.inr ⟨j,h1,rfl⟩)
  ·intro hx
   refine Gen.lift (fun r hr=>?_) (gen_or (fun y hy=>(k.gen y).2 hy) hx)
   have hpg:Gen (fun v=>RowV (outTo out pr c out.length ++ [pr]) v∨RowV (restTo l2 a l2.length) v) (nth pr):=Gen.one (.inl ⟨out.length,by rw [hlen2];omega,by rw [hnew]⟩)
   rcases hr with ⟨i,hi,rfl⟩|⟨i,hi,rfl⟩
   ·obtain ⟨q,e2⟩:=hcl i hi
    have h1:Gen (fun v=>RowV (outTo out pr c out.length ++ [pr]) v∨RowV (restTo l2 a l2.length) v) (nth (clrR (nrow out i) pr c)):=Gen.one (.inl ⟨i,by rw [hlen2];omega,by rw [hold i hi]⟩)
    refine (h1.addMul (-q) hpg).cast fun j=>?_
    rw [e2];grind
   ·by_cases e:i=a
    ·subst e
     refine (hpg.smul s).cast fun j=>?_
     rw [hpr];show _=s*(s*nth (nrow l2 i) j)
     rw [←Int.mul_assoc,hss,Int.one_mul]
    ·exact Gen.one (.inr (rowV_mem.2 ⟨_,restTo_mem.2 ⟨i,hi,e,rfl⟩,rfl⟩))
 ·have:=restTo_len (l:=l2) (a:=a) l2.length
  rw [if_pos ha] at this
  have h1:=h.cnt
  have h3:=k.len
  rw [hlen2];omega
 ·rw [hlen2] at hi ⊢
  by_cases e:i=out.length
  ·subst e;rw [hnew];exact hpb.mono g1
  ·rw [hold i (by omega)]
   exact (clrR_bd (h.bo i (by omega)) hpb (by omega)).mono g2
 ·rw [hlen2];exact (hb i hi).mono g1
theorem NInv.end_ {l0 out l:List (List Int)} {n M:Nat} {p:Nat→Nat} (h:NInv l0 n M n out l p) (x:V):Gen (RowV out) x↔Gen (RowV l0) x:=by
 rw [←h.gen x]
 constructor
 ·exact Gen.lift fun r hr=>Gen.one (.inl hr)
 ·refine Gen.lift fun r hr=>?_
  rcases hr with hr|⟨i,hi,rfl⟩
  ·exact Gen.one hr
  ·refine Gen.zero.cast fun j=>?_
   by_cases e:j<n
   ·exact h.low i hi j e
   ·exact nth_out (by rw [h.ll i hi];omega)
end
section
open Lp (V Gen Lt From Ech)
theorem NForm.inj {n c:Nat} {out:List (List Int)} {p:Nat→Nat} (h:NForm n c out p) {i j:Nat} (hi:i<out.length) (hj:j<out.length) (e:p i=p j):i=j:=by
 rcases Nat.lt_trichotomy i j with h1|h1|h1
 ·have:=h.up i j h1 hj;omega
 ·exact h1
 ·have:=h.up j i h1 hi;omega
open Classical in
noncomputable def tblOf (out:List (List Int)) (p:Nat→Nat):Lt:=fun q=>if h:∃ i,i<out.length∧p i=q then some (nth (nrow out h.choose)) else none
theorem NForm.tbl {n c:Nat} {out:List (List Int)} {p:Nat→Nat} (h:NForm n c out p) {i:Nat} (hi:i<out.length):tblOf out p (p i)=some (nth (nrow out i)):=by
 have hex:∃ j,j<out.length∧p j=p i:=⟨i,hi,rfl⟩
 unfold tblOf
 rw [dif_pos hex]
 have:=hex.choose_spec
 rw [h.inj this.1 hi this.2]
theorem tbl_some {out:List (List Int)} {p:Nat→Nat} {q:Nat} {r:V} (h:tblOf out p q=some r):∃ i,i<out.length∧p i=q∧r=nth (nrow out i):=by
 unfold tblOf at h
 split at h
 ·rename_i hex
  exact ⟨hex.choose,hex.choose_spec.1,hex.choose_spec.2,by injection h with h;exact h.symm⟩
 ·cases h
theorem NForm.ech {n c:Nat} {out:List (List Int)} {p:Nat→Nat} (h:NForm n c out p) (hc:c≤n):Ech n (tblOf out p):=by
 refine ⟨fun q r hq=>?_,fun q r hq i hi=>?_,fun q r hq i hi=>?_,fun q r hq=>?_⟩<;>obtain ⟨j,hj,rfl,rfl⟩:=tbl_some hq
 ·have:=h.lt j hj;omega
 ·exact h.low j hj i hi
 ·exact nth_out (by rw [h.len j hj];exact hi)
 ·exact h.pos j hj
theorem NForm.redL {n c:Nat} {out:List (List Int)} {p:Nat→Nat} (h:NForm n c out p):Lp.Red (tblOf out p):=fun q r q2 s h1 h2 hlt=>by
 obtain ⟨i,hi,rfl,rfl⟩:=tbl_some h1
 obtain ⟨j,hj,rfl,rfl⟩:=tbl_some h2
 refine h.red j i ?_ hi
 rcases Nat.lt_trichotomy i j with h3|h3|h3
 ·have:=h.up i j h3 hj;omega
 ·subst h3;omega
 ·exact h3
theorem NForm.from_ {n c:Nat} {out:List (List Int)} {p:Nat→Nat} (h:NForm n c out p) (v:V):From (tblOf out p) 0 v↔RowV out v:=by
 constructor
 ·rintro ⟨q,-,hq⟩
  obtain ⟨i,hi,-,rfl⟩:=tbl_some hq
  exact ⟨i,hi,rfl⟩
 ·rintro ⟨i,hi,rfl⟩
  exact ⟨p i,Nat.zero_le _,h.tbl hi⟩
theorem gen_congr {R S:V→Prop} (h:∀ v,R v↔S v) (x:V):Gen R x↔Gen S x :=
 ⟨Gen.lift fun r hr=>Gen.one ((h r).1 hr),Gen.lift fun r hr=>Gen.one ((h r).2 hr)⟩
theorem seq_same {p q:Nat→Nat} {k m:Nat} (hp:∀ i j,i<j→j<k→p i<p j) (hq:∀ i j,i<j→j<m→q i<q j) (h1:∀ i,i<k→∃ j,j<m∧q j=p i) (h2:∀ i,i<m→∃ j,j<k∧p j=q i):∀ i,i<k→i<m∧p i=q i:=by
 intro i
 induction i using Nat.strongRecOn with
 | _ i ih =>
   intro hi
   obtain ⟨j,hj,ej⟩:=h1 i hi
   have hij:i≤j:=by
    refine Classical.byContradiction fun hn=>?_
    have:=(ih j (by omega) (by omega)).2
    have:=hp j i (by omega) hi
    omega
   have him:i<m:=by omega
   refine ⟨him,?_⟩
   obtain ⟨t,ht,et⟩:=h2 i him
   have hit:i≤t:=by
    refine Classical.byContradiction fun hn=>?_
    have h3:=(ih t (by omega) (by omega)).2
    have:=hq t i (by omega) him
    omega
   have a1:p i≤p t:=by
    rcases Nat.lt_or_ge i t with h|h
    ·exact Nat.le_of_lt (hp i t h ht)
    ·obtain rfl:i=t:=by omega
     exact Nat.le_refl _
   have a2:q i≤q j:=by
    rcases Nat.lt_or_ge i j with h|h
    ·exact Nat.le_of_lt (hq i j h hj)
    ·obtain rfl:i=j:=by omega
     exact Nat.le_refl _
   omega
theorem nth_ext {a b:List Int} (hl:a.length=b.length) (h:nth a=nth b):a=b:=by
 refine List.ext_getElem hl fun i h1 h2=>?_
 rw [←nth_lt h1,←nth_lt h2,h]
theorem NForm.one {n c d:Nat} {a b:List (List Int)} {p q:Nat→Nat} (h:NForm n c a p) (k:NForm n d b q) (hc:c≤n) (hd:d≤n) (hg:∀ x,Gen (RowV a) x↔Gen (RowV b) x):a=b:=by
 have e:=(h.ech hc).same (k.ech hd) h.redL k.redL fun v=>(gen_congr h.from_ v).trans ((hg v).trans (gen_congr k.from_ v).symm)
 have hall:∀ {a b:List (List Int)} {p q:Nat→Nat} {c:Nat},NForm n c a p→(∀ t,tblOf a p t=tblOf b q t)→∀ i,i<a.length→∃ j,j<b.length∧q j=p i:=by
  intro a b p q c h e i hi
  have h1:=h.tbl hi
  rw [e] at h1
  obtain ⟨j,hj,h2,-⟩:=tbl_some h1
  exact ⟨j,hj,h2⟩
 have s1:=seq_same h.up k.up (hall h e) (hall k fun t=>(e t).symm)
 have s2:=seq_same k.up h.up (hall k fun t=>(e t).symm) (hall h e)
 have hl:a.length=b.length:=by
  rcases Nat.lt_trichotomy a.length b.length with h1|h1|h1
  ·have:=(s2 a.length h1).1;omega
  ·exact h1
  ·have:=(s1 b.length h1).1;omega
 refine List.ext_getElem hl fun i h1 h2=>?_
 rw [←nrow_lt h1,←nrow_lt h2]
 refine nth_ext (by rw [h.len i h1,k.len i h2]) ?_
 have e1:=h.tbl h1
 have e2:=k.tbl h2
 rw [e,(s1 i h1).2,e2] at e1
 injection e1 with e1
 exact e1.symm
structure NormOf (l0:List (List Int)) (n:Nat) (out:List (List Int)) (p:Nat→Nat):Prop where
 form:NForm n n out p
 gen:∀ x,Gen (RowV out) x↔Gen (RowV l0) x
 le:out.length≤l0.length
theorem upM_pow (e:Nat):∀ k,upM (2 ^ e) k=2 ^ (e*9 ^ k)
 | 0=>by simp [upM]
 | k+1=>by rw [upM,upM_pow e k,←Nat.pow_mul];congr 1;rw [Nat.pow_succ,Nat.mul_assoc]
theorem few_bits {x:Int} {e:Nat} (h:x.natAbs≤2 ^ e) (he:e<13000000000000):Few x:=by
 unfold Few
 refine T.digits_len ?_
 obtain ⟨k,hk⟩:∃ k:Nat,k=1000000000000:=⟨_,rfl⟩
 rw [←hk]
 have h1:e<13*k:=by omega
 clear he hk
 have h2:2 ^ e<2 ^ (13*k):=Nat.pow_lt_pow_right (by omega) h1
 have h3:2 ^ (13*k)≤10000 ^ k:=by rw [Nat.pow_mul];exact Nat.pow_le_pow_left (by decide) k
 omega
theorem fine_bits {B e:Nat} (hB:B=2 ^ e) (h1:1≤e) (he:e<4000000000000):Fine B:=by
 refine ⟨?_,fun x hx=>few_bits (e:=e+(e+e)) ?_ (by omega)⟩
 ·rw [hB];have:=Nat.pow_le_pow_right (show 0<2 by omega) h1;omega
 ·rw [Nat.pow_add,Nat.pow_add,←hB];exact hx
theorem fine_six {e:Nat} (h1:1≤e) (he:e≤7000000):Fine (upM (2 ^ e) 6):=by
 refine fine_bits (upM_pow e 6) ?_ ?_
 ·rw [show 9 ^ 6=531441 by decide];omega
 ·rw [show 9 ^ 6=531441 by decide];omega
end
section
open Lp (Lt V Ech pivots Gen From Least)
theorem pivots_six {n:Nat} (rows:Lt) (h:n≤6):(pivots rows n).length≤6:=Nat.le_trans (by
 unfold pivots
 refine Nat.le_trans (List.length_filter_le _ _) ?_
 rw [List.length_range];exact Nat.le_refl _) h
theorem formL_form {l:List (List Int)} {n:Nat} {rows:Lt} (hf:FormOf l n rows):NForm n n (formL rows n) (fun i=>(pivots rows n).getD i 0):=by
 have hp:=piv_of hf.ech
 have hlen:(formL rows n).length=(pivots rows n).length:=by unfold formL rowsOf;simp
 have hrow:∀ i,i<(formL rows n).length→nrow (formL rows n) i=intsTo ((rows ((pivots rows n).getD i 0)).getD fun _=>0) n n:=fun i hi=>by
  rw [hlen] at hi
  unfold nrow formL rowsOf
  simp [hi]
 have hat:∀ i,i<(formL rows n).length→∀ c,nth (nrow (formL rows n) i) c=((rows ((pivots rows n).getD i 0)).getD fun _=>0) c:=fun i hi c=>by
  rw [hrow i hi,hf.nth (hp.row i (by rw [←hlen];exact hi))]
 refine ⟨fun i hi=>by rw [hrow i hi,intsTo_len],fun i hi=>hf.ech.lt _ _ (hp.row i (by omega)),fun i j hij hj=>hp.up i j hij (by omega),fun i hi c hc=>?_,fun i hi=>?_,fun i j hij hj=>?_⟩
 ·rw [hat i hi];exact hf.ech.low _ _ (hp.row i (by omega)) c hc
 ·rw [hat i hi];exact hf.ech.pos _ _ (hp.row i (by omega))
 ·rw [hat i (by omega),hat j hj]
  exact hf.red _ _ _ _ (hp.row j (by omega)) (hp.row i (by omega)) (hp.up i j hij (by omega))
theorem rowV_inL {l:List (List Int)} (x:V):Gen (RowV l) x↔InL l x :=
 gen_congr (fun v=>by rw [rowV_mem,List.mem_map];exact ⟨fun ⟨r,h1,h2⟩=>⟨r,h1,h2.symm⟩,fun ⟨r,h1,h2⟩=>⟨r,h1,h2.symm⟩⟩) x
theorem NormOf.formOf {l out:List (List Int)} {n:Nat} {p:Nat→Nat} (h:NormOf l n out p) (hok:rowsOk l n=true):FormOf l n (tblOf out p) :=
 ⟨hok,h.form.ech (Nat.le_refl _),h.form.redL,fun x=>(gen_congr h.form.from_ x).trans ((h.gen x).trans (rowV_inL x))⟩
theorem NormOf.eq {l out:List (List Int)} {n:Nat} {p:Nat→Nat} {rows:Lt} (h:NormOf l n out p) (k:FormOf l n rows):out=formL rows n :=
 h.form.one (formL_form k) (Nat.le_refl _) (Nat.le_refl _) fun x=>(h.gen x).trans ((rowV_inL x).trans ((inL_form k x).symm.trans (rowV_inL x).symm))
theorem NormOf.small {l out:List (List Int)} {n:Nat} {p:Nat→Nat} (h:NormOf l n out p) (hok:rowsOk l n=true) {i:Nat} (hi:i<out.length):RowBd 3149280000000 (nrow out i):=fun c =>
 (h.formOf hok).small (h.form.tbl hi) c
theorem NForm.piv {n c:Nat} {out:List (List Int)} {p:Nat→Nat} (h:NForm n c out p) (hc:c≤n) {i:Nat} (hi:i<out.length):pivF (nrow out i)=(p i:Nat) :=
 pivF_at (by rw [h.len i hi];have:=h.lt i hi;omega) (h.low i hi) (by have:=h.pos i hi;omega)
theorem rdTo_bd {rs:List (List Int)} {v:List Int} {n X Y:Nat} {p:Nat→Nat} (h:NForm n n rs p) (hv:RowBd X v) (hY:∀ i,i<rs.length→RowBd Y (nrow rs i)):∀ k,k≤rs.length→RowBd ((X+1)*(Y+1) ^ k-1) (rdTo rs v k)
 | 0,_=>by simpa [rdTo] using hv
 | k+1,hk=>by
   have ih:=rdTo_bd h hv hY k (by omega)
   have hz:nth (nrow rs k) (pivF (nrow rs k)).toNat≠0:=by rw [h.piv (Nat.le_refl _) (show k<rs.length by omega),Int.toNat_natCast];have:=h.pos k (by omega);omega
   have hc:=clrR_bd ih (hY k (by omega)) hz
   unfold rdTo
   refine hc.mono (Nat.le_of_eq ?_)
   obtain ⟨Z,hZ⟩:∃ Z,(X+1)*(Y+1) ^ k=Z:=⟨_,rfl⟩
   have h1:1≤Z:=by rw [←hZ];exact Nat.mul_pos (by omega) (Nat.pow_pos (by omega))
   rw [Nat.pow_succ,←Nat.mul_assoc,hZ,Nat.mul_add,Nat.mul_one,show Z-1+1=Z by omega]
   omega
theorem rdTo_left {rs:List (List Int)} {v:List Int} {n:Nat} {p:Nat→Nat} (h:NForm n n rs p) (hv:v.length=n):∀ k,k≤rs.length →
 (∀ i,i<k→0≤nth (rdTo rs v k) (p i)∧nth (rdTo rs v k) (p i)<nth (nrow rs i) (p i))∧Gen (RowV rs) fun j=>nth v j-nth (rdTo rs v k) j
 | 0,_=>⟨fun i hi=>by omega,Gen.zero.cast fun j=>by simp [rdTo]⟩
 | k+1,hk=>by
   obtain ⟨ih1,ih2⟩:=rdTo_left h hv k (by omega)
   have hkl:k<rs.length:=by omega
   have hl:(rdTo rs v k).length=n:=by rw [rdTo_len,hv]
   have hpk:=h.piv (Nat.le_refl _) hkl
   have hpl:=h.lt k hkl
   have e:rdTo rs v (k+1)=clrR (rdTo rs v k) (nrow rs k) (p k):=by rw [rdTo,hpk,Int.toNat_natCast]
   have e2:nth (clrR (rdTo rs v k) (nrow rs k) (p k))=fun i=>nth (rdTo rs v k) i + -flr (nth (rdTo rs v k) (p k)) (nth (nrow rs k) (p k))*nth (nrow rs k) i:=lessL_vec (by rw [hl,h.len k hkl];exact Nat.le_refl _)
   refine ⟨fun i hi=>?_,?_⟩
   ·by_cases ek:i=k
    ·subst ek
     rw [e]
     exact clrR_col (by rw [hl];exact hpl) (h.pos i hkl)
    ·have h0:=h.low k hkl (p i) (h.up i k (by omega) hkl)
     have:=ih1 i (by omega)
     rw [e,e2]
     show 0≤nth (rdTo rs v k) (p i)+_*nth (nrow rs k) (p i)∧nth (rdTo rs v k) (p i)+_*nth (nrow rs k) (p i)<_
     rw [h0,Int.mul_zero,Int.add_zero]
     exact this
   ·refine (ih2.addMul (flr (nth (rdTo rs v k) (p k)) (nth (nrow rs k) (p k))) (Gen.one ⟨k,hkl,rfl⟩)).cast fun j=>?_
    rw [e,e2]
    grind
theorem NormOf.redV {l out:List (List Int)} {xs:List Int} {p:Nat→Nat} (h:NormOf l xs.length out p):RedV l xs (tblOf out p) (nth (rdTo out xs out.length)):=by
 obtain ⟨h1,h2⟩:=rdTo_left h.form rfl out.length (Nat.le_refl _)
 refine ⟨h.form.ech (Nat.le_refl _),h.form.redL,fun x=>(gen_congr h.form.from_ x).trans ((h.gen x).trans (rowV_inL x)),fun q r hq=>?_,(gen_congr h.form.from_ _).2 h2,fun i hi=>nth_out (by rw [rdTo_len];exact hi)⟩
 obtain ⟨i,hi,rfl,rfl⟩:=tbl_some hq
 exact h1 i hi
theorem NormOf.stepOk {l out:List (List Int)} {xs:List Int} {p:Nat→Nat} (h:NormOf l xs.length out p) (hok:rowsOk l xs.length=true) (hls:listOk 1000 xs=true) {k:Nat} (hk:k<out.length) :
 pivF (nrow out k)=(pivF (nrow out k)).toNat∧StepOk (rdTo out xs k) (nrow out k) (pivF (nrow out k)).toNat:=by
 obtain ⟨h1,h6,hl6,-,-⟩:=rowsOk_in hok
 have hpk:=h.form.piv (Nat.le_refl _) hk
 have hv:RowBd 1000 xs:=fun c=>by
  rcases Nat.lt_or_ge c xs.length with h2|h2
  ·have:=listOk_nth hls h2;omega
  ·rw [nth_beyond h2];simp
 have hB:=rdTo_bd h.form hv (fun i hi=>h.small hok hi) k (by omega)
 have hk6:k≤6:=by have:=h.le;omega
 obtain ⟨e,he1,he2⟩:∃ e,(1000+1)*(3149280000000+1) ^ k≤2 ^ e∧e≤262:=⟨10+42*k,by
  rw [Nat.pow_add,Nat.pow_mul]
  exact Nat.mul_le_mul (by decide) (Nat.pow_le_pow_left (by decide) k),by omega⟩
 have hX:∀ i,(nth (rdTo out xs k) i).natAbs+1≤2 ^ e:=fun i=>by
  have:=hB i
  have h1:1≤(1000+1)*(3149280000000+1) ^ k:=Nat.mul_pos (by omega) (Nat.pow_pos (by omega))
  omega
 have hY:∀ i,(nth (nrow out k) i).natAbs≤2 ^ 42:=fun i=>Nat.le_trans (h.small hok hk i) (by decide)
 have hz:nth (nrow out k) (p k)≠0:=by have:=h.form.pos k hk;omega
 have hq:=flr_le (nth (rdTo out xs k) (p k)) (nth (nrow out k) (p k)) hz
 have hlen:(rdTo out xs k).length=xs.length:=rdTo_len _ _ _
 have hlk:=h.form.len k hk
 rw [hpk,Int.toNat_natCast]
 refine ⟨rfl,by rw [hlen];exact h.form.lt k hk,by rw [hlk];exact h.form.lt k hk,by omega,by omega,hz,fun i _=>few_bits (e:=e) (by have:=hX i;omega) (by omega),fun i _=>few_bits (hY i) (by omega),few_bits (e:=e) (by have:=hX (p k);omega) (by omega),fun i _=>few_bits (e:=e+42) ?_ (by omega)⟩
 rw [Int.natAbs_mul,Nat.pow_add]
 exact Nat.mul_le_mul (by have:=hX (p k);omega) (hY i)
theorem rows_start {l:List (List Int)} {n:Nat} (hok:rowsOk l n=true):(∀ i,i<l.length→(nrow l i).length=n)∧∀ i,i<l.length→RowBd (2 ^ 5) (nrow l i):=by
 obtain ⟨h1,h6,hl6,hrow,hx⟩:=rowsOk_in hok
 refine ⟨fun i hi=>hrow _ (nrow_mem hi),fun i hi c=>?_⟩
 have:=nth_bd (X:=30) (r:=nrow l i) (fun x hm=>hx _ (nrow_mem hi) x hm) c
 omega
end
end Go.Proofs.YtkljafmdbajfeaaGreatDoor
