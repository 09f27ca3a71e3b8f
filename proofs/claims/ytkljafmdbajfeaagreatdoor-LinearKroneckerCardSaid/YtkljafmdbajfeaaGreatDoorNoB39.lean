/- Plain laws of linear equations over the integers: the lattice of all (a*x, x), its normal form, the kernel, how a right side is taken down. -/
import Derived.Test.YtkljafmdbajfeaaGreatDoorNoB23
import Derived.Test.YtkljafmdbajfeaaGreatDoorNoB25
import Derived.Test.YtkljafmdbajfeaaGreatDoorNoB38
namespace Go.Proofs.YtkljafmdbajfeaaGreatDoor
set_option linter.unusedVariables false
set_option linter.unusedSimpArgs false
section
open Go.RowKit
open Lp (Lt V Ech pivots Gen From Least Piv fac sumZ gen_sum)
theorem sumZ_congr {f g:Nat→Int}:∀ {n:Nat},(∀ i,i<n→f i=g i)→sumZ n f=sumZ n g
 | 0,_=>rfl
 | n+1,h=>by unfold sumZ;rw [sumZ_congr fun i hi=>h i (by omega),h n (by omega)]
theorem sumZ_zero {f:Nat→Int}:∀ {n:Nat},(∀ i,i<n→f i=0)→sumZ n f=0
 | 0,_=>rfl
 | n+1,h=>by unfold sumZ;rw [sumZ_zero fun i hi=>h i (by omega),h n (by omega)];rfl
theorem sumZ_one {f:Nat→Int} {k:Nat}:∀ {n:Nat},k<n→(∀ i,i<n→i≠k→f i=0)→sumZ n f=f k
 | n+1,hk,h=>by
   unfold sumZ
   by_cases e:k=n
   ·subst e;rw [sumZ_zero fun i hi=>h i (by omega) (by omega)];omega
   ·rw [sumZ_one (n:=n) (by omega) fun i hi hne=>h i (by omega) hne,h n (by omega) (by omega)];omega
theorem sumZ_lin (c:Int) (f g:Nat→Int):∀ n,(sumZ n fun i=>f i+c*g i)=sumZ n f+c*sumZ n g
 | 0=>by simp [sumZ]
 | n+1=>by unfold sumZ;rw [sumZ_lin c f g n];grind
theorem sumZ_sub (f g:Nat→Int) (n:Nat):(sumZ n fun i=>f i-g i)=sumZ n f-sumZ n g:=by
 have:=sumZ_lin (-1) f g n
 rw [show sumZ n f-sumZ n g=sumZ n f + -1*sumZ n g by omega,←this]
 exact sumZ_congr fun i _=>by omega
def jrow (F:Nat→V) (m j:Nat):V:=fun i=>if i<m then F i j else if i=m+j then 1 else 0
def jrows (F:Nat→V) (m n:Nat):List V:=(List.range n).map (jrow F m)
def Sat (F:Nat→V) (m n:Nat) (x:V):Prop:=(∀ i,i<m→x i=sumZ n fun j=>F i j*x (m+j))∧∀ i,m+n≤i→x i=0
def Ker (F:Nat→V) (m n:Nat) (y:V):Prop:=(∀ i,i<m→(sumZ n fun j=>F i j*y j)=0)∧∀ i,n≤i→y i=0
theorem gen_joint (F:Nat→V) (m n:Nat) (x:V):Gen (·∈jrows F m n) x↔Sat F m n x:=by
 constructor
 ·refine Gen.prop (P:=Sat F m n) ⟨fun i _=>(sumZ_zero fun j _=>by show F i j*0=0;omega).symm,fun i _=>rfl⟩ ?_
  rintro v r c ⟨h1,h2⟩ hr
  obtain ⟨j,hj,rfl⟩:=List.mem_map.1 hr
  have hj:=List.mem_range.1 hj
  refine ⟨fun i hi=>?_,fun i hi=>?_⟩
  ·show v i+c*jrow F m j i=_
   have e:(sumZ n fun k=>F i k*(v (m+k)+c*jrow F m j (m+k)))=sumZ n fun k=>F i k*v (m+k)+c*(F i k*jrow F m j (m+k)):=sumZ_congr fun k _=>by grind
   rw [e,sumZ_lin,←h1 i hi,sumZ_one (k:=j) hj fun k _ hne=>by unfold jrow;rw [if_neg (by omega),if_neg (by omega)];omega]
   unfold jrow
   rw [if_pos hi,if_neg (by omega),if_pos rfl];grind
  ·show v i+c*jrow F m j i=0
   rw [h2 i hi];unfold jrow;rw [if_neg (by omega),if_neg (by omega)];omega
 ·rintro ⟨h1,h2⟩
  have h:=gen_sum (R:=(·∈jrows F m n)) (g:=jrow F m) (cf:=fun j=>x (m+j)) n fun j hj=>List.mem_map.2 ⟨j,List.mem_range.2 hj,rfl⟩
  refine h.cast fun i=>?_
  rcases Nat.lt_or_ge i m with hi|hi
  ·rw [h1 i hi]
   exact sumZ_congr fun j _=>by unfold jrow;rw [if_pos hi];grind
  ·rcases Nat.lt_or_ge i (m+n) with hn|hn
   ·rw [sumZ_one (k:=i-m) (by omega) fun k _ hne=>by unfold jrow;rw [if_neg (by omega),if_neg (by omega)];omega]
    unfold jrow
    rw [if_neg (by omega),if_pos (by omega),show m+(i-m)=i by omega];omega
   ·rw [h2 i hn,sumZ_zero fun k _=>by unfold jrow;rw [if_neg (by omega),if_neg (by omega)];omega]
def tailV (m:Nat) (r:V):V:=fun i=>r (m+i)
def tails (rc:Lt) (m n:Nat):List V:=((pivots rc (m+n)).filter fun p=>decide (m≤p)).map fun p=>tailV m ((rc p).getD fun _=>0)
theorem mem_tails {rc:Lt} {m n:Nat} (hE:Ech (m+n) rc) {y:V}:y∈tails rc m n↔∃ p r,m≤p∧rc p=some r∧y=tailV m r:=by
 unfold tails
 simp only [List.mem_map,List.mem_filter,Lp.mem_pivots,decide_eq_true_eq]
 constructor
 ·rintro ⟨p,⟨⟨h1,h2⟩,h3⟩,rfl⟩
  obtain ⟨r,hr⟩:=Option.isSome_iff_exists.1 h2
  exact ⟨p,r,h3,hr,by rw [hr];rfl⟩
 ·rintro ⟨p,r,h1,h2,rfl⟩
  exact ⟨p,⟨⟨hE.lt p r h2,by rw [h2];rfl⟩,h1⟩,by rw [h2];rfl⟩
theorem Ker.zero (F:Nat→V) (m n:Nat):Ker F m n fun _=>0:=⟨fun i _=>sumZ_zero fun j _=>Int.mul_zero _,fun i _=>rfl⟩
theorem Ker.step {F:Nat→V} {m n:Nat} {v r:V} (c:Int) (h:Ker F m n v) (k:Ker F m n r):Ker F m n fun i=>v i+c*r i:=by
 refine ⟨fun i hi=>?_,fun i hi=>by show v i+c*r i=0;rw [h.2 i hi,k.2 i hi];omega⟩
 have e:(sumZ n fun j=>F i j*(v j+c*r j))=sumZ n fun j=>F i j*v j+c*(F i j*r j):=sumZ_congr fun j _=>by grind
 rw [e,sumZ_lin,h.1 i hi,k.1 i hi];omega
theorem gen_tails {F:Nat→V} {m n:Nat} {rc:Lt} (hE:Ech (m+n) rc) (hg:∀ x,Gen (From rc 0) x↔Sat F m n x) (y:V):Gen (·∈tails rc m n) y↔Ker F m n y:=by
 constructor
 ·refine Gen.prop (P:=Ker F m n) (Ker.zero F m n) fun v r c hv hr=>hv.step c ?_
  obtain ⟨p,s,hp,hs,rfl⟩:=(mem_tails hE).1 hr
  obtain ⟨h1,h2⟩:=(hg s).1 (Gen.one ⟨p,Nat.zero_le _,hs⟩)
  exact ⟨fun i hi=>by rw [←hE.low p s hs i (by omega),h1 i hi];rfl,fun i hi=>h2 (m+i) (by omega)⟩
 ·rintro ⟨h1,h2⟩
  have hx:Gen (From rc 0) (fun i=>if i<m then 0 else y (i-m)):=(hg _).2 ⟨fun i hi=>by
   show (if i<m then 0 else y (i-m))=_
   rw [if_pos hi]
   exact (h1 i hi).symm.trans (sumZ_congr fun j _=>by show F i j*y j=F i j*(if m+j<m then 0 else y (m+j-m));rw [if_neg (by omega),show m+j-m=j by omega]),
   fun i hi=>by show (if i<m then 0 else y (i-m))=0;rw [if_neg (by omega)];exact h2 _ (by omega)⟩
  have hl:=hE.lead hx m fun i hi=>by show (if i<m then 0 else y (i-m))=0;rw [if_pos hi]
  have ht:∀ v,Gen (From rc m) v→Gen (·∈tails rc m n) (tailV m v):=fun v hv =>
   Gen.prop (P:=fun v=>Gen (·∈tails rc m n) (tailV m v)) .zero (fun v r c h ⟨q,hq,hr⟩=>h.step _ (tailV m r) c ((mem_tails hE).2 ⟨q,r,hq,hr,rfl⟩)) hv
  exact (ht _ hl).cast fun i=>by show y i=if m+i<m then 0 else y (m+i-m);rw [if_neg (by omega),show m+i-m=i by omega]
structure SysV (F:Nat→V) (m n:Nat) (rc rn:Lt):Prop where
 bd:∀ i,i<m→∀ j,(F i j).natAbs≤30
 n6:n≤6
 echC:Ech (m+n) rc
 redC:Lp.Red rc
 genC:∀ x,Gen (From rc 0) x↔Sat F m n x
 echN:Ech n rn
 redN:Lp.Red rn
 genN:∀ y,Gen (From rn 0) y↔Ker F m n y
 cnt:(pivots rc (m+n)).length≤n
theorem size_gen {R:V→Prop} {N:Nat} {rows:Lt} (hE:Ech N rows) (hk:(pivots rows N).length≤6) (hR:∀ r,R r→∀ i,(r i).natAbs≤30) (hg:∀ x,Gen (From rows 0) x↔Gen R x) :
 ∃ D:Nat,0<D∧D≤524880000000∧(∀ q r,rows q=some r→r q≤D)∧∀ v Y,Gen (From rows 0) v→(∀ q r,rows q=some r→(v q).natAbs≤Y*D)→∀ c,(v c).natAbs≤3149280000000*Y:=by
 have hp:=piv_of hE
 obtain ⟨k,hkk⟩:∃ k,(pivots rows N).length=k:=⟨_,rfl⟩
 rw [hkk] at hp hk
 obtain ⟨D,d1,d2,d3,d4⟩:=hp.size hE (R:=R) (B:=30) (by omega) hR hg
 have hK:fac k*30 ^ k≤524880000000:=Lp.fac_all hk
 refine ⟨D.natAbs,by omega,by omega,fun q r hq=>?_,fun v Y hv hY c=>?_⟩
 ·obtain ⟨i,hi,e⟩:=hp.all q r hq
  have h2:=d3 i hi
  have h3:=hp.row i hi
  rw [e] at h3
  have e2:=Option.some.inj (h3.symm.trans hq)
  rw [e,e2] at h2
  exact Int.le_of_dvd (b:=(D.natAbs:Int)) (by omega) (Int.dvd_natAbs.2 h2)
 ·have h2:=d4 v (Y*D.natAbs) hv (fun j hj=>hY _ _ (hp.row j hj)) c
  have h3:k*(fac k*30 ^ k*(Y*D.natAbs))≤3149280000000*Y*D.natAbs:=by
   have e:3149280000000*Y*D.natAbs=6*(524880000000*(Y*D.natAbs)):=by rw [Nat.mul_assoc 3149280000000];omega
   rw [e]
   exact Nat.mul_le_mul hk (Nat.mul_le_mul_right _ hK)
  exact mul_cancel_nat (by omega) (Nat.le_trans h2 h3)
theorem size_row {N:Nat} {rows:Lt} {D:Nat} (hE:Ech N rows) (hR:Lp.Red rows) (d1:∀ q r,rows q=some r→r q≤D) {q:Nat} {r:V} (hq:rows q=some r):∀ p s,rows p=some s→(r p).natAbs≤1*D:=fun p s hp=>by
 have h1:=d1 p s hp
 rcases Nat.lt_trichotomy p q with h2|h2|h2
 ·rw [hE.low q r hq p h2];simp
 ·subst h2
  have e:=Option.some.inj (hp.symm.trans hq)
  subst e
  have:=hE.pos p s hp
  omega
 ·obtain ⟨h3,h4⟩:=hR p s q r hp hq h2
  omega
theorem jrow_bd {F:Nat→V} {m n:Nat} (hb:∀ i,i<m→∀ j,(F i j).natAbs≤30):∀ r∈jrows F m n,∀ i,(r i).natAbs≤30:=fun r hr i=>by
 obtain ⟨j,-,rfl⟩:=List.mem_map.1 hr
 unfold jrow
 split
 ·rename_i h;exact hb i h j
 ·split<;>simp
theorem SysV.sizeC {F:Nat→V} {m n:Nat} {rc rn:Lt} (h:SysV F m n rc rn) :
 ∃ D:Nat,0<D∧D≤524880000000∧(∀ q r,rc q=some r→r q≤D)∧∀ v Y,Sat F m n v→(∀ q r,rc q=some r→(v q).natAbs≤Y*D)→∀ c,(v c).natAbs≤3149280000000*Y:=by
 obtain ⟨D,d1,d2,d3,d4⟩:=size_gen h.echC (by have:=h.cnt;have:=h.n6;omega) (jrow_bd (n:=n) h.bd) fun x=>(h.genC x).trans (gen_joint F m n x).symm
 exact ⟨D,d1,d2,d3,fun v Y hv=>d4 v Y ((h.genC v).2 hv)⟩
theorem SysV.smallC {F:Nat→V} {m n:Nat} {rc rn:Lt} (h:SysV F m n rc rn) {q:Nat} {r:V} (hq:rc q=some r) (c:Nat):(r c).natAbs≤3149280000000:=by
 obtain ⟨D,d1,d2,d3,d4⟩:=h.sizeC
 have:=d4 r 1 ((h.genC r).1 (Gen.one ⟨q,Nat.zero_le _,hq⟩)) (size_row h.echC h.redC d3 hq) c
 omega
theorem SysV.null {F:Nat→V} {m n:Nat} {rc rn:Lt} (h:SysV F m n rc rn) (p:Nat):rn p=(rc (m+p)).map (tailV m):=by
 obtain ⟨T,hT⟩:∃ T:Lt,T=fun p=>(rc (m+p)).map (tailV m):=⟨_,rfl⟩
 have hs:∀ {p r},T p=some r→∃ s,rc (m+p)=some s∧r=tailV m s:=fun {p r} hr=>by
  rw [hT] at hr
  obtain ⟨s,h1,h2⟩:=Option.map_eq_some_iff.1 hr
  exact ⟨s,h1,h2.symm⟩
 have hE:Ech n T:=by
  refine ⟨fun p r hr=>?_,fun p r hr i hi=>?_,fun p r hr i hi=>?_,fun p r hr=>?_⟩
  ·obtain ⟨s,h1,-⟩:=hs hr;have:=h.echC.lt _ _ h1;omega
  ·obtain ⟨s,h1,rfl⟩:=hs hr;exact h.echC.low _ _ h1 _ (by omega)
  ·obtain ⟨s,h1,rfl⟩:=hs hr;exact h.echC.high _ _ h1 _ (by omega)
  ·obtain ⟨s,h1,rfl⟩:=hs hr
   show 0<s (m+p)
   exact h.echC.pos _ _ h1
 have hR:Lp.Red T:=fun p r q s hp hq hqp=>by
  obtain ⟨r',h1,rfl⟩:=hs hp
  obtain ⟨s',h2,rfl⟩:=hs hq
  show 0≤s' (m+p)∧s' (m+p)<r' (m+p)
  exact h.redC _ _ _ _ h1 h2 (by omega)
 have hG:∀ v,Gen (From T 0) v↔Gen (From rn 0) v:=fun v=>by
  rw [h.genN v,←gen_tails h.echC h.genC v]
  refine gen_iff (fun r=>?_) v
  rw [mem_tails h.echC]
  constructor
  ·rintro ⟨q,-,hq⟩
   obtain ⟨s,h1,rfl⟩:=hs hq
   exact ⟨m+q,s,by omega,h1,rfl⟩
  ·rintro ⟨q,s,h1,h2,rfl⟩
   exact ⟨q-m,Nat.zero_le _,by rw [hT];show (rc (m+(q-m))).map (tailV m)=_;rw [show m+(q-m)=q by omega,h2];rfl⟩
 have:=hE.same h.echN hR h.redN hG p
 rw [←this,hT]
theorem SysV.smallN {F:Nat→V} {m n:Nat} {rc rn:Lt} (h:SysV F m n rc rn) {q:Nat} {r:V} (hq:rn q=some r) (c:Nat):(r c).natAbs≤3149280000000:=by
 rw [h.null q] at hq
 obtain ⟨s,h1,rfl⟩:=Option.map_eq_some_iff.1 hq
 exact h.smallC h1 _
def Sol (F:Nat→V) (m n:Nat) (b x:V):Prop:=(∀ i,i<m→(sumZ n fun j=>F i j*x j)=b i)∧∀ i,n≤i→x i=0
def join (m:Nat) (b x:V):V:=fun i=>if i<m then b i else x (i-m)
theorem Sol.sat {F:Nat→V} {m n:Nat} {b x:V}:Sol F m n b x↔Sat F m n (join m b x):=by
 have e:∀ i,(sumZ n fun j=>F i j*join m b x (m+j))=sumZ n fun j=>F i j*x j:=fun i =>
  sumZ_congr fun j _=>by unfold join;rw [if_neg (by omega),show m+j-m=j by omega]
 constructor
 ·rintro ⟨h1,h2⟩
  refine ⟨fun i hi=>?_,fun i hi=>?_⟩
  ·rw [e,h1 i hi];unfold join;rw [if_pos hi]
  ·unfold join;rw [if_neg (by omega)];exact h2 _ (by omega)
 ·rintro ⟨h1,h2⟩
  refine ⟨fun i hi=>?_,fun i hi=>?_⟩
  ·have:=h1 i hi
   rw [e] at this
   rw [←this];unfold join;rw [if_pos hi]
  ·have:=h2 (m+i) (by omega)
   unfold join at this
   rw [if_neg (by omega),show m+i-m=i by omega] at this;exact this
theorem Sat.sub {F:Nat→V} {m n:Nat} {u v:V} (h:Sat F m n u) (k:Sat F m n v) (c:Int):Sat F m n fun i=>u i+c*v i:=by
 refine ⟨fun i hi=>?_,fun i hi=>by show u i+c*v i=0;rw [h.2 i hi,k.2 i hi];omega⟩
 have e:(sumZ n fun j=>F i j*(u (m+j)+c*v (m+j)))=sumZ n fun j=>F i j*u (m+j)+c*(F i j*v (m+j)):=sumZ_congr fun j _=>by grind
 rw [e,sumZ_lin,←h.1 i hi,←k.1 i hi]
theorem Sol.add {F:Nat→V} {m n:Nat} {b x y:V} (h:Sol F m n b x) (k:Ker F m n y) (c:Int):Sol F m n b fun i=>x i+c*y i:=by
 refine ⟨fun i hi=>?_,fun i hi=>by show x i+c*y i=0;rw [h.2 i hi,k.2 i hi];omega⟩
 have e:(sumZ n fun j=>F i j*(x j+c*y j))=sumZ n fun j=>F i j*x j+c*(F i j*y j):=sumZ_congr fun j _=>by grind
 rw [e,sumZ_lin,h.1 i hi,k.1 i hi];omega
theorem SysV.small {F:Nat→V} {m n:Nat} {rc rn:Lt} (h:SysV F m n rc rn) {b x:V} (hb:∀ i,i<m→(b i).natAbs≤1000) (hx:Sol F m n b x) (hl:Least rn x) (c:Nat):(x c).natAbs≤3149280000000000:=by
 obtain ⟨D,d1,d2,d3,d4⟩:=h.sizeC
 have:=d4 (join m b x) 1000 (Sol.sat.1 hx) (fun q r hq=>?_) (m+c)
 ·unfold join at this
  rw [if_neg (by omega),show m+c-m=c by omega] at this
  omega
 ·unfold join
  split
  ·rename_i hm;have:=hb q hm
   have:1000*1≤1000*D:=Nat.mul_le_mul_left _ d1
   omega
  ·have hn:rn (q-m)=some (tailV m r):=by rw [h.null,show m+(q-m)=q by omega,hq];rfl
   obtain ⟨l1,l2⟩:=hl _ _ hn
   have e:tailV m r (q-m)=r q:=by unfold tailV;rw [show m+(q-m)=q by omega]
   have:=d3 q r hq
   omega
structure SolAt (F:Nat→V) (m n:Nat) (rc:Lt) (b:V) (p:Nat) (v:V):Prop where
 gen:Sat F m n fun i=>join m b (fun _=>0) i + -1*v i
 zero:∀ i,i<p→v i=0
 bd:Lp.BdV (Lp.lv 3149280000000 (Lp.cnt rc p)) v
theorem SolAt.start (F:Nat→V) (m n:Nat) (rc:Lt) {b:V} (hb:∀ i,i<m→(b i).natAbs≤1000):SolAt F m n rc b 0 (join m b fun _=>0):=by
 have e0:(fun i=>join m b (fun _=>0) i + -1*join m b (fun _=>0) i)=fun _=>0:=funext fun i=>by omega
 refine ⟨?_,fun i hi=>by omega,fun i=>?_⟩
 ·rw [e0];exact ⟨fun i _=>(sumZ_zero fun j _=>Int.mul_zero _).symm,fun i _=>rfl⟩
 ·show _≤3149280000000
  unfold join;split
  ·rename_i h;have:=hb i h;omega
  ·simp
theorem SolAt.high {F:Nat→V} {m n:Nat} {rc:Lt} {b:V} {p:Nat} {v:V} (h:SolAt F m n rc b p v):∀ i,m+n≤i→v i=0:=fun i hi=>by
 have:=h.gen.2 i hi
 have e:join m b (fun _=>0) i=0:=by unfold join;rw [if_neg (by omega)]
 simp only [e] at this;omega
theorem SolAt.skip {F:Nat→V} {m n:Nat} {rc:Lt} {b:V} {p:Nat} {v:V} (h:SolAt F m n rc b p v) (hz:v p=0):SolAt F m n rc b (p+1) v :=
 ⟨h.gen,fun i hi=>by rcases Nat.lt_or_ge i p with h1|h1;exact h.zero i h1;rw [show i=p by omega];exact hz,
  h.bd.mono (Lp.lv_mono (by omega) (Lp.cnt_mono rc (Nat.le_succ p)))⟩
theorem SolAt.step {F:Nat→V} {m n:Nat} {rc rn:Lt} (hs:SysV F m n rc rn) {b:V} {p:Nat} {v r:V} {k:Int} (h:SolAt F m n rc b p v) (hr:rc p=some r) (hk:k*r p=v p):SolAt F m n rc b (p+1) fun i=>v i + -k*r i:=by
 have hp:=hs.echC.pos p r hr
 refine ⟨?_,fun i hi=>?_,fun i=>?_⟩
 ·have:=h.gen.sub ((hs.genC r).1 (Gen.one ⟨p,Nat.zero_le _,hr⟩)) k
  have e:(fun i=>join m b (fun _=>0) i + -1*(v i + -k*r i))=fun i=>(join m b (fun _=>0) i + -1*v i)+k*r i:=funext fun i=>by grind
  rw [e];exact this
 ·show v i + -k*r i=0
  rcases Nat.lt_or_ge i p with h1|h1
  ·rw [h.zero i h1,hs.echC.low p r hr i h1];omega
  ·rw [show i=p by omega,←hk];grind
 ·have h1:=h.bd i
  have h2:=h.bd p
  have h3:=hs.smallC hr i
  have h4:k.natAbs≤Lp.lv 3149280000000 (Lp.cnt rc p):=by
   refine Nat.le_trans ?_ h2
   rw [←hk,Int.natAbs_mul]
   exact Nat.le_mul_of_pos_right _ (by omega)
  have h5:=Nat.mul_le_mul h4 h3
  have e:Lp.cnt rc (p+1)=Lp.cnt rc p+1:=by simp [Lp.cnt,hr]
  rw [e,show Lp.lv 3149280000000 (Lp.cnt rc p+1)=3*(Lp.lv 3149280000000 (Lp.cnt rc p)*Lp.lv 3149280000000 (Lp.cnt rc p)) from rfl]
  have h6:3149280000000≤Lp.lv 3149280000000 (Lp.cnt rc p):=Lp.lv_mono (j:=0) (by omega) (Nat.zero_le _)
  generalize Lp.lv 3149280000000 (Lp.cnt rc p)=X at *
  show (v i + -k*r i).natAbs≤3*(X*X)
  have h7:(v i + -k*r i).natAbs≤(v i).natAbs+k.natAbs*(r i).natAbs:=by
   rw [←Int.natAbs_mul]
   have : -k*r i = -(k*r i):=by grind
   omega
  have h8:X*3149280000000≤X*X:=Nat.mul_le_mul_left _ h6
  have h9:X*1≤X*X:=Nat.mul_le_mul_left _ (by omega)
  omega
theorem SolAt.goes {F:Nat→V} {m n:Nat} {rc rn:Lt} (hs:SysV F m n rc rn) {b:V} {p:Nat} {v x:V} (h:SolAt F m n rc b p v) (hx:Sol F m n b x) (hp:p<m) (hz:v p≠0):∃ r,rc p=some r∧r p ∣ v p:=by
 have h1:=(Sol.sat.1 hx).sub h.gen (-1)
 have e:∀ i,i<m→(join m b x i + -1*(join m b (fun _=>0) i + -1*v i))=v i:=fun i hi=>by unfold join;rw [if_pos hi,if_pos hi];omega
 have h2:=hs.echC.divides ((hs.genC _).2 h1) p (fun i hi=>by show join m b x i + -1*(join m b (fun _=>0) i + -1*v i)=0;rw [e i (by omega)];exact h.zero i hi) (by show join m b x p + -1*(join m b (fun _=>0) p + -1*v p)≠0;rw [e p hp];exact hz)
 obtain ⟨r,h3,h4⟩:=h2
 exact ⟨r,h3,by rw [e p hp] at h4;exact h4⟩
theorem SolAt.done {F:Nat→V} {m n:Nat} {rc:Lt} {b v:V} (h:SolAt F m n rc b m v):Sol F m n b fun j => -v (m+j):=by
 refine ⟨fun i hi=>?_,fun i hi=>by show -v (m+i)=0;rw [h.high (m+i) (by omega)];omega⟩
 have h1:=h.gen.1 i hi
 have e1:join m b (fun _=>0) i=b i:=by unfold join;rw [if_pos hi]
 have e2:∀ j,join m b (fun _=>0) (m+j)=0:=fun j=>by unfold join;rw [if_neg (by omega)]
 simp only [e1,e2,h.zero i hi] at h1
 rw [show b i=b i + -1*0 by omega,h1]
 exact sumZ_congr fun j _=>by grind
end
section
open Go.RowKit Go.ChangeMaps
open Lp (Lt V Ech BdV Bd pivots lv cnt Gen From)
theorem wp_append_all {o:Oper} {a:Act} {K:Act→World→Prop} {Q:Exit→Act→World→Prop} {w:World} (Qv:Value→Prop) (s x:Operand) (t:TypeId)
 (ho:o.op=.call { callee:=.builtin .append,args:=#[s,x],argTypes:=#[t,t] })
 (base:Nat) (e:TypeId) (i:TypeInfo) (z:Value) (bytes:Nat) (ht:Tryz.prog.underlying t=some (.slice e)) (hi:Tryz.prog.info? e=some i) (hz:i.zero=some z)
 (hsize:i.size=1) (hby:i.bytes=bytes) (hzs:z.cells=#[z]) (hQz:Qv z)
 (v:Value) (n:Nat) (xs:List Value) (hs:a.eval s=v) (hown:w.ownsRow base e 1 v n xs) (hall:OwnC Qv w v)
 (ad:Addr) (m c:Nat) (news:List Value) (hx:a.eval x=.slice (some ad) m c) (hl:news.length=m) (hnews:∀ j u,news[j]? = some u→w.cell? (ad.add j)=some u) (h1:∀ u∈news,u.oneCell'=true) (hQn:∀ u∈news,Qv u)
 (h0:0<m) (h63:n+m≤maxLen) (hbytes:(n+m)*bytes≤140737488355328) (hbase:base≤w.heap.size)
 (h:∀ v' w',w'.ownsRow base e 1 v' (n+m) (xs ++ news)→w.grownBy w' v.ownBlock→OwnC Qv w' v'→K (a.put o.dst v') w'):o.wp Tryz.prog a w K Q:=by
 obtain ⟨v',w',hr,h2,h3,h4⟩:=run_append_all (w:=w) base t o.type e i z bytes ht hi hz hsize hby hzs hQz v n xs hown hall ad m c news hl hnews h1 hQn h0 h63 hbytes hbase
 unfold Oper.wp execOp
 simp only [ho,resolve,invoke,builtin,Sem.run_bind,Sem.run_pure,Result.andThen_ok,List.map_toArray,List.map_cons,List.map_nil,hs,hx,hr]
 exact h v' w' h2 h3 h4
structure Fill (S:Nat) (w w':World):Prop where
 but:But S w w'
 kind:∀ o x,w.cell? ⟨S,o,none⟩=some x→(∀ b,x≠.bool b)∧∀ k n,x=.int k n→k=.i64
 map:∀ es clock,w.heap[S]? ≠ some (.map es clock)
 same:∀ a x,w.cell? a=some x→x≠.pointer none→w'.cell? a=some x
theorem Fill.of {w:World} {S k:Nat} {vs:List Value} {T:TypeId} (h:Blk w S vs T) (hk:vs[k]? = some (.pointer none)) (hv:∀ x∈vs,(∀ b,x≠.bool b)∧∀ k n,x=.int k n→k=.i64) (u:Value):Fill S w (w.setCell ⟨S,k,none⟩ u):=by
 refine ⟨(But.refl _ _).set k u,fun o x e=>hv x (cell_in h e),fun es clock e=>?_,fun a x e hx=>?_⟩
 ·unfold Blk at h;rw [h] at e;cases e
 ·by_cases ha:a=⟨S,k,none⟩
  ·subst ha
   obtain ⟨hl,e2⟩:=List.getElem?_eq_some_iff.1 hk
   have:=h.cell k hl
   rw [this,e2] at e;injection e with e;exact absurd e.symm hx
  ·rw [World.cell?_setCell_other w ⟨S,k,none⟩ a u (Ne.symm ha)];exact e
theorem BigP.fill {w w':World} {S p:Nat} {z:Int} (h:BigP w p z) (hf:Fill S w w'):BigP w' p z:=by
 obtain ⟨h0,u,h1,h2,A,c,h3,h4,h5,h6⟩:=h
 have hblk:∀ b o x,w.cell? ⟨b,o,none⟩=some x→b≠S→w'.heap[b]? = w.heap[b]? := fun b o x hc hne=>hf.but.block b (cell_lt hc) hne
 have hp:w'.heap[p]? = w.heap[p]? := hblk p 0 _ h1 (fun e=>by subst e;exact (hf.kind 0 _ h1).1 _ rfl)
 refine ⟨h0.same hp,u,(World.cell?_of_block (a:=⟨p,0,none⟩) hp).trans h1,(World.cell?_of_block (a:=⟨p,1,none⟩) hp).trans h2,A,c,h3,h4,h5,fun i hi=>?_⟩
 obtain ⟨b,off,e,hc⟩:=h6 i hi
 exact ⟨b,off,e,(World.cell?_of_block (a:=⟨b,off+i,none⟩) (hblk b _ _ hc (fun e=>by subst e;have:=(hf.kind _ _ hc).2 _ _ rfl;cases this))).trans hc⟩
theorem VecX.fill {X:Nat→Prop} {w w':World} {S:Nat} {v:Value} {n:Nat} {f:Nat→Int} (h:VecX X w v n f) (hf:Fill S w w'):VecX X w' v n f:=by
 obtain ⟨A,c,h1,h2,h3,h4⟩:=h
 refine ⟨A,c,h1,h2,h3,fun i hi=>?_⟩
 obtain ⟨b,o,p,e,hx,hc,hz⟩:=h4 i hi
 exact ⟨b,o,p,e,hx,hf.same _ _ hc (by intro e;cases e),hz.fill hf⟩
theorem LatP.fill {w w':World} {S L M n:Nat} {rows:Lt} (h:LatP w L M n rows) (hf:Fill S w w'):LatP w' L M n rows:=by
 obtain ⟨F,h1,h2⟩:=h.map
 have hne:M≠S:=by
  rintro rfl
  obtain ⟨es,clock,h3,-⟩:=h1.ex
  exact hf.map _ _ h3
 refine ⟨hf.same _ _ h.c0 (by intro e;cases e),hf.same _ _ h.c1 (by intro e;cases e),F,h1.other hf.but hne,fun p hp=>?_⟩
 rcases h2 p hp with h|⟨v,r,h3,h4,h5⟩
 ·exact .inl h
 ·exact .inr ⟨v,r,h3,h4,h5.fill hf⟩
def sysV (n m:Nat) (a b:Option Nat):List Value:=[.int .i64 n,.pointer (a.map fun q=>⟨q,0,none⟩),.pointer (b.map fun q=>⟨q,0,none⟩),.int .i64 m]
theorem sysV_kind (n m:Nat) (a b:Option Nat):∀ x∈sysV n m a b,(∀ b,x≠.bool b)∧∀ k n,x=.int k n→k=.i64:=fun x hx=>by
 unfold sysV at hx
 simp only [List.mem_cons,List.not_mem_nil,or_false] at hx
 rcases hx with rfl|rfl|rfl|rfl<;>exact ⟨fun b e=>(by cases e),fun k n e=>(by cases e<;>rfl)⟩
structure SysP (w:World) (S m n:Nat) (rc rn:Lt):Prop where
 ex:∃ LC MC LN MN,Blk w S (sysV n m (some LC) (some LN)) 192∧LatP w LC MC (m+n) rc∧LatP w LN MN n rn
theorem SysP.ext {w w':World} {S m n:Nat} {rc rn:Lt} (h:SysP w S m n rc rn) (hb:Below w.heap.size w w'):SysP w' S m n rc rn:=by
 obtain ⟨LC,MC,LN,MN,h1,h2,h3⟩:=h.ex
 exact ⟨LC,MC,LN,MN,h1.ext hb,h2.ext hb,h3.ext hb⟩
def fsF (fs:List V):Nat→V:=fun i=>fs.getD i fun _=>0
theorem fsF_at {fs:List V} {i:Nat} (h:i<fs.length):fsF fs i=fs[i]:=by unfold fsF;simp [h]
theorem jrows_len (F:Nat→V) (m n:Nat):(jrows F m n).length=n:=by unfold jrows;simp
theorem jrows_at (F:Nat→V) (m n j:Nat) (h:j<n):(jrows F m n)[j]'(by rw [jrows_len];exact h)=jrow F m j:=by unfold jrows;simp
theorem VecX.tail {X:Nat→Prop} {w:World} {b o N c m n:Nat} {f:Nat→Int} (h:VecX X w (.slice (some ⟨b,o,none⟩) N c) N f) (hN:m+n=N):VecX X w (.slice (some ⟨b,o+m,none⟩) n (c-m)) n (tailV m f):=by
 obtain ⟨A',c',h1,h2,h3,h4⟩:=h
 injection h1 with e1 e2 e3
 subst e1;subst e3
 refine ⟨_,_,rfl,by omega,by omega,fun i hi=>?_⟩
 obtain ⟨b,o,p,e,hx,hc,hz⟩:=h4 (m+i) (by omega)
 injection e with e;injection e with e1 e2
 subst e1;subst e2
 refine ⟨_,_,p,rfl,hx,?_,hz⟩
 rw [Nat.add_assoc];exact hc
def tailsTo (rc:Lt) (m n k:Nat):List V:=(((pivots rc (m+n)).take k).filter fun p=>decide (m≤p)).map fun p=>tailV m ((rc p).getD fun _=>0)
theorem tailsTo_all (rc:Lt) (m n:Nat):tailsTo rc m n (pivots rc (m+n)).length=tails rc m n:=by unfold tailsTo tails;rw [List.take_length]
theorem tailsTo_succ {rc:Lt} {m n k:Nat} (hk:k<(pivots rc (m+n)).length):tailsTo rc m n (k+1)=tailsTo rc m n k ++ if m≤(pivots rc (m+n))[k] then [tailV m ((rc (pivots rc (m+n))[k]).getD fun _=>0)] else []:=by
 unfold tailsTo
 rw [List.take_succ_eq_append_getElem hk,List.filter_append,List.map_append]
 congr 1
 by_cases h:m≤(pivots rc (m+n))[k]
 ·rw [if_pos h];simp [h]
 ·rw [if_neg h];simp [h]
theorem tailsTo_len (rc:Lt) (m n k:Nat):(tailsTo rc m n k).length≤k:=by
 unfold tailsTo
 rw [List.length_map]
 refine Nat.le_trans (List.length_filter_le _ _) ?_
 rw [List.length_take];omega
theorem tails_at {rc:Lt} {m n k:Nat} (hk:k<(pivots rc (m+n)).length) (hp:m≤(pivots rc (m+n))[k]) :
 ∃ h:(tailsTo rc m n k).length<(tails rc m n).length,(tails rc m n)[(tailsTo rc m n k).length]=tailV m ((rc (pivots rc (m+n))[k]).getD fun _=>0):=by
 have e:tails rc m n=tailsTo rc m n (k+1) ++ ((((pivots rc (m+n)).drop (k+1)).filter fun p=>decide (m≤p)).map fun p=>tailV m ((rc p).getD fun _=>0)):=by
  unfold tails tailsTo
  rw [←List.map_append,←List.filter_append,List.take_append_drop]
 have e2:=tailsTo_succ hk
 rw [if_pos hp] at e2
 rw [e2,List.append_assoc] at e
 have hl:(tailsTo rc m n k).length<(tails rc m n).length:=by rw [e];simp
 refine ⟨hl,?_⟩
 have:(tails rc m n)[(tailsTo rc m n k).length]? = some (tailV m ((rc (pivots rc (m+n))[k]).getD fun _=>0)):=by rw [e];simp
 rw [List.getElem?_eq_getElem hl] at this
 exact Option.some.inj this
theorem small_gen {R:V→Prop} {N:Nat} {rows:Lt} (hE:Ech N rows) (hR:Lp.Red rows) (hk:(pivots rows N).length≤6) (hb:∀ r,R r→∀ i,(r i).natAbs≤30) (hg:∀ x,Gen (From rows 0) x↔Gen R x) {q:Nat} {r:V} (hq:rows q=some r) (c:Nat):(r c).natAbs≤3149280000000:=by
 obtain ⟨D,d1,d2,d3,d4⟩:=size_gen hE hk hb hg
 have:=d4 r 1 (Gen.one ⟨q,Nat.zero_le _,hq⟩) (size_row hE hR d3 hq) c
 omega
theorem lv_le {X Y:Nat} (h:X≤Y):∀ k,lv X k≤lv Y k
 | 0=>h
 | k+1=>Nat.mul_le_mul_left 3 (Nat.mul_le_mul (lv_le h k) (lv_le h k))
theorem wide_sys {k:Nat} (hk:k≤21) {z:Int} (hz:z.natAbs≤lv 3149280000000 k):Wide z:=by
 have h1:lv 3149280000000 k≤lv 30 (3+k):=by
  rw [←lv_add]
  exact lv_le (by decide) k
 exact wide_27 (by omega) (Nat.le_trans hz h1)
theorem VRow.vecsN {w:World} {base i n:Nat} {v:Value} {fs:List V} (h:VRow w base v i n fs) (hi:i=fs.length):∃ A c,v=.slice A i c∧i≤c∧c≤maxLen∧VecsP w A n fs:=by subst hi;exact h.vecs
theorem fsF_bd {fs:List V} (h:∀ f∈fs,∀ i,(f i).natAbs≤30):∀ i,i<fs.length→∀ j,(fsF fs i j).natAbs≤30:=fun i hi j=>by rw [fsF_at hi];exact h _ (List.getElem_mem hi) j
theorem jrow_high {F:Nat→V} {m n:Nat}:∀ f∈jrows F m n,∀ i,m+n≤i→f i=0:=fun f hf i hi=>by
 obtain ⟨j,hj,rfl⟩:=List.mem_map.1 hf
 have:=List.mem_range.1 hj
 unfold jrow
 rw [if_neg (by omega),if_neg (by omega)]
theorem isOneV_calm (B:Nat) (x:Value):Calm NoBlk fun v w=>∃ g,v=.slice (some ⟨g,0,none⟩) 1 1∧B≤g∧Blk w g [x] 112:=⟨fun v w w' ⟨g,h1,h2,h3⟩ hb=>⟨g,h1,h2,h3.ext hb⟩,fun v w w' p h hp hb=>hp.elim⟩
end
end Go.Proofs.YtkljafmdbajfeaaGreatDoor
