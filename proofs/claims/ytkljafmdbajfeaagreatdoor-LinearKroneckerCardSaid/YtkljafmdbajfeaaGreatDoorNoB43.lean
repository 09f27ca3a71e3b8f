/- Plain laws of Refute: rational numbers that show that equations have no integer solution, and their sizes. -/
import Derived.Test.YtkljafmdbajfeaaGreatDoorNoB36
import Derived.Test.YtkljafmdbajfeaaGreatDoorNoB39
namespace Go.Proofs.YtkljafmdbajfeaaGreatDoor
set_option linter.unusedVariables false
set_option linter.unusedSimpArgs false
open Go.Lib (hid)
section
namespace Lp
section
variable {n:Nat} {L:Lt} {R:V→Prop} {p:Nat→Nat} {k:Nat} {H:Nat→V}
theorem Piv.unit (h:Piv n L k p H) (hE:Ech n L) {B:Nat} (hB:0<B) (hR:∀ r,R r→∀ i,(r i).natAbs≤B) (hgen:∀ x,Gen (From L 0) x↔Gen R x) :
 ∃ D:Int,D≠0∧D.natAbs≤fac k*B ^ k∧∀ j,j<k→∃ v,Gen (From L 0) v∧v (p j)=D∧∀ m,m<k→m≠j→v (p m)=0:=by
 obtain ⟨g,g1,-,g3⟩:=h.pick hE (R:=R) (fun i hi=>(hgen _).1 (Gen.one ⟨p i,Nat.zero_le _,h.row i hi⟩)) k (Nat.le_refl _)
 obtain ⟨N,hN⟩:∃ N:Nat→Nat→Rat,N=fun r c=>(g r (p c):Rat):=⟨_,rfl⟩
 rw [←hN] at g3
 have hNI:∀ r c,r<k→c<k→IsI (N r c) B:=fun r c hr _=>by rw [hN];exact isI_of (hR _ (g1 r hr) _)
 have hdet:∀ M:Nat→Nat→Rat,(∀ r c,r<k→c<k→IsI (M r c) B)→IsI (det k M) (fac k*B ^ k):=fun M hM=>by
  have:=det_int (k:=k) (M:=M) (B:=fun _=>B) hM
  rw [prodTo_allS] at this;exact this
 obtain ⟨D,hD,hDb⟩:=hdet N hNI
 refine ⟨D,fun e=>g3 (by rw [hD,e];rfl),hDb,fun j hj=>?_⟩
 have hcf:∀ i,IsI (det k (setCol N j fun r=>if r=i then 1 else 0)) (fac k*B ^ k):=fun i=>hdet _ fun r c hr hc=>by
  unfold setCol;split
  ·show IsI (if r=i then 1 else 0) B
   split
   ·exact (show IsI 1 1 from ⟨1,rfl,by omega⟩).mono (by omega)
   ·exact .zero _
  ·exact hNI r c hr hc
 have hex:∃ cf:Nat→Int,∀ i,det k (setCol N j fun r=>if r=i then 1 else 0)=(cf i:Rat):=⟨fun i=>Classical.choose (hcf i),fun i=>(Classical.choose_spec (hcf i)).1⟩
 obtain ⟨cf,hcf⟩:=hex
 have hv:=gen_sum (R:=R) (g:=g) (cf:=cf) k g1
 obtain ⟨v,hvd⟩:∃ v:V,v=fun x=>sumZ k fun i=>cf i*g i x:=⟨_,rfl⟩
 rw [←hvd] at hv
 have hcol:∀ m,m<k→(v (p m):Rat)=det k (setCol N j fun r=>N r m):=fun m hm=>by
  have e1:det k (setCol N j fun r=>N r m)=det k (setCol N j fun r=>sumTo k fun l=>N l m*(if r=l then 1 else 0)):=det_congr fun r c hr hc=>by
   unfold setCol;split
   ·show N r m=sumTo k fun l=>N l m*if r=l then 1 else 0
    rw [sumTo_one r hr fun i hi hne=>by rw [if_neg (Ne.symm hne)];grind];rw [if_pos rfl];grind
   ·rfl
  rw [e1,det_sum N j hj (fun l=>N l m) (fun r l=>if r=l then 1 else 0) k,hvd]
  show ((sumZ k fun i=>cf i*g i (p m):Int):Rat)=_
  rw [sumZ_cast]
  exact sumTo_congr fun l hl=>by rw [hcf l,Rat.intCast_mul,hN];grind
 refine ⟨v,(hgen v).2 hv,?_,fun m hm hne=>?_⟩
 ·have:=hcol j hj
  rw [det_setCol_self,hD] at this
  exact Rat.intCast_inj.1 this
 ·have h1:=hcol m hm
  rw [det_equal _ j m hj hm (Ne.symm hne) fun r hr=>by unfold setCol;rw [if_pos rfl,if_neg hne]] at h1
  exact Rat.intCast_inj.1 (show ((v (p m):Int):Rat)=((0:Int):Rat) from h1)
end
end Lp
open Lp (Lt V Ech pivots Gen From Least Piv fac sumZ gen_sum sumTo sumTo_congr sumTo_zero sumTo_one sumTo_add sumTo_mul)
structure RefY (m:Nat) (rc:Lt) (t P:Nat) (y:Nat→Rat):Prop where
 high:∀ q,t<q→y q=0
 low:∀ q,q<P→q≠t→y q=0
 no:∀ q,q<t→rc q=none→y q=0
 row:∀ q r,P≤q→q≤t→rc q=some r→(sumTo m fun i=>y i*(r i:Rat))=if q=t then 1 else 0
 top:rc t=none→y t=1
theorem RefY.int {F:Nat→V} {m n:Nat} {rc rn:Lt} (hs:SysV F m n rc rn) {t:Nat} {y:Nat→Rat} (h:RefY m rc t 0 y) (ht:t<m) {x:V} (hx:Sat F m n x) :
 ∃ z:Int,(sumTo m fun i=>y i*(x i:Rat))=(z:Rat)∧(rc t=none→z=0):=by
 refine Gen.prop (P:=fun x=>∃ z:Int,(sumTo m fun i=>y i*(x i:Rat))=(z:Rat)∧(rc t=none→z=0)) ⟨0,?_,fun _=>rfl⟩ ?_ ((hs.genC x).2 hx)
 ·rw [sumTo_zero fun i _=>by show y i*((0:Int):Rat)=0;rw [show ((0:Int):Rat)=0 from rfl];grind];rfl
 ·rintro v r c ⟨z,h1,h2⟩ ⟨q,-,hq⟩
  have e:(sumTo m fun i=>y i*((v i+c*r i:Int):Rat))=(z:Rat)+(c:Rat)*sumTo m fun i=>y i*(r i:Rat):=by
   rw [←h1,←sumTo_mul,←sumTo_add]
   exact sumTo_congr fun i _=>by rw [Rat.intCast_add,Rat.intCast_mul];grind
  rcases Nat.lt_or_ge t q with h3|h3
  ·refine ⟨z,?_,h2⟩
   rw [e,sumTo_zero fun i hi=>?_]
   ·grind
   ·rcases Nat.lt_or_ge i q with h4|h4
    ·rw [hs.echC.low q r hq i h4,show ((0:Int):Rat)=0 from rfl];grind
    ·rw [h.high i (by omega)];grind
  ·have h5:=h.row q r (Nat.zero_le _) h3 hq
   by_cases hqt:q=t
   ·subst hqt
    rw [if_pos rfl] at h5
    refine ⟨z+c,?_,fun hn=>by rw [hq] at hn;cases hn⟩
    rw [e,h5,Rat.intCast_add];grind
   ·rw [if_neg hqt] at h5
    refine ⟨z,?_,h2⟩
    rw [e,h5];grind
theorem RefY.right {F:Nat→V} {m n:Nat} {rc rn:Lt} (hs:SysV F m n rc rn) {t:Nat} {y:Nat→Rat} (h:RefY m rc t 0 y) (ht:t<m) {b v:V} (hv:SolAt F m n rc b t v) :
 ∃ z:Int,(sumTo m fun i=>y i*(b i:Rat))=y t*(v t:Rat)+(z:Rat)∧(rc t=none→z=0):=by
 obtain ⟨z,h1,h2⟩:=h.int hs ht hv.gen
 refine ⟨z,?_,h2⟩
 rw [←h1]
 have e1:(sumTo m fun i=>y i*(v i:Rat))=y t*(v t:Rat):=sumTo_one t ht fun i hi hne=>by
  rcases Nat.lt_or_ge i t with h3|h3
  ·rw [hv.zero i h3,show ((0:Int):Rat)=0 from rfl];grind
  ·rw [h.high i (by omega)];grind
 rw [←e1,←sumTo_add]
 refine sumTo_congr fun i hi=>?_
 have e2:join m b (fun _=>0) i=b i:=by unfold join;rw [if_pos hi]
 show _=y i*(v i:Rat)+y i*((join m b (fun _=>0) i + -1*v i:Int):Rat)
 rw [e2,Rat.intCast_add,Rat.intCast_mul,show ((-1:Int):Rat) = -1 from rfl];grind
theorem RefY.at {m:Nat} {rc:Lt} {t n:Nat} {y:Nat→Rat} (h:RefY m rc t 0 y) (hE:Ech n rc) (ht:t<m) {r:V} (hr:rc t=some r):y t*(r t:Rat)=1:=by
 have h1:=h.row t r (Nat.zero_le _) (Nat.le_refl _) hr
 rw [if_pos rfl] at h1
 have e:(sumTo m fun i=>y i*(r i:Rat))=y t*(r t:Rat):=sumTo_one t ht fun i hi hne=>by
  rcases Nat.lt_or_ge i t with h3|h3
  ·rw [hE.low t r hr i h3,show ((0:Int):Rat)=0 from rfl];grind
  ·rw [h.high i (by omega)];grind
 rw [←e,h1]
theorem RefY.den {F:Nat→V} {m n:Nat} {rc rn:Lt} (hs:SysV F m n rc rn) {t:Nat} {y:Nat→Rat} (h:RefY m rc t 0 y) (ht:t<m) :
 ∃ D:Nat,0<D∧D≤524880000000∧∀ i,∃ z:Int,(D:Rat)*y i=(z:Rat):=by
 have hp:=piv_of hs.echC
 obtain ⟨k,hkk⟩:∃ k,(pivots rc (m+n)).length=k:=⟨_,rfl⟩
 have hk:k≤6:=by have:=hs.cnt;have:=hs.n6;omega
 rw [hkk] at hp
 obtain ⟨D,d1,d2,d3⟩:=hp.unit hs.echC (R:=(·∈jrows F m n)) (B:=30) (by omega) (jrow_bd hs.bd) fun x=>(hs.genC x).trans (gen_joint F m n x).symm
 have hK:fac k*30 ^ k≤524880000000:=Lp.fac_all hk
 have key:∀ i,∃ z:Int,(D:Rat)*y i=(z:Rat):=fun i=>by
  rcases Nat.lt_trichotomy i t with h1|h1|h1
  ·cases hr:rc i with
   | none=>exact ⟨0,by rw [h.no i h1 hr,show ((0:Int):Rat)=0 from rfl];grind⟩
   | some r =>
     obtain ⟨j,hj,e⟩:=hp.all i r hr
     obtain ⟨v,v1,v2,v3⟩:=d3 j hj
     obtain ⟨z,h2,-⟩:=h.int hs ht ((hs.genC v).1 v1)
     rw [e] at v2
     by_cases ht2:rc t=none
     ·have e2:(sumTo m fun q=>y q*(v q:Rat))=y i*(v i:Rat)+y t*(v t:Rat):=by
       refine Lp.sumTo_two i t (by omega) ht h1 fun q hq h3 h4=>?_
       rcases Nat.lt_or_ge q t with h5|h5
       ·cases hq2:rc q with
        | none=>rw [h.no q h5 hq2];grind
        | some s =>
          obtain ⟨l,hl,e3⟩:=hp.all q s hq2
          have:=v3 l hl fun e4=>h3 (by rw [←e3,←e,e4])
          rw [e3] at this
          rw [this,show ((0:Int):Rat)=0 from rfl];grind
       ·rw [h.high q (by omega)];grind
      rw [h2,v2,h.top ht2] at e2
      refine ⟨z-v t,?_⟩
      rw [Rat.intCast_sub,e2];grind
     ·have e2:(sumTo m fun q=>y q*(v q:Rat))=y i*(v i:Rat):=by
       refine sumTo_one i (by omega) fun q hq h3=>?_
       rcases Nat.lt_or_ge t q with h5|h5
       ·rw [h.high q (by omega)];grind
       ·cases hq2:rc q with
        | none =>
          have h6:q<t:=by
           rcases Nat.lt_or_ge q t with h6|h6
           ·exact h6
           ·obtain rfl:q=t:=by omega
            exact absurd hq2 ht2
          rw [h.no q h6 hq2];grind
        | some s =>
          obtain ⟨l,hl,e3⟩:=hp.all q s hq2
          have:=v3 l hl fun e4=>h3 (by rw [←e3,←e,e4])
          rw [e3] at this
          rw [this,show ((0:Int):Rat)=0 from rfl];grind
      rw [h2,v2] at e2
      exact ⟨z,by rw [e2];grind⟩
  ·subst h1
   cases hr:rc i with
   | none=>exact ⟨D,by rw [h.top hr];grind⟩
   | some r =>
     obtain ⟨j,hj,e⟩:=hp.all i r hr
     obtain ⟨v,v1,v2,v3⟩:=d3 j hj
     obtain ⟨z,h2,-⟩:=h.int hs ht ((hs.genC v).1 v1)
     rw [e] at v2
     have e2:(sumTo m fun q=>y q*(v q:Rat))=y i*(v i:Rat):=by
      refine sumTo_one i ht fun q hq h3=>?_
      rcases Nat.lt_or_ge q i with h5|h5
      ·cases hq2:rc q with
       | none=>rw [h.no q h5 hq2];grind
       | some s =>
         obtain ⟨l,hl,e3⟩:=hp.all q s hq2
         have:=v3 l hl fun e4=>h3 (by rw [←e3,←e,e4])
         rw [e3] at this
         rw [this,show ((0:Int):Rat)=0 from rfl];grind
      ·rw [h.high q (by omega)];grind
     rw [h2,v2] at e2
     exact ⟨z,by rw [e2];grind⟩
  ·exact ⟨0,by rw [h.high i h1,show ((0:Int):Rat)=0 from rfl];grind⟩
 refine ⟨D.natAbs,by omega,by omega,fun i=>?_⟩
 obtain ⟨z,hz⟩:=key i
 rcases Int.natAbs_eq D with e|e
 ·exact ⟨z,by rw [←hz];conv=>rhs;rw [e,Rat.intCast_natCast]⟩
 ·refine ⟨-z,?_⟩
  have e2:((D.natAbs:Nat):Rat) = -(D:Rat):=by
   rw [←Rat.intCast_natCast,←Rat.intCast_neg];congr 1;omega
  rw [Rat.intCast_neg,←hz,e2];grind
end
section
open Go.RowKit Go.ChangeMaps
open Lp (IsI)
structure RowZ (w:World) (B b n m:Nat) (P:Nat→Nat) (q:Nat→Int):Prop where
 ptrs:Ptrs w b
 lt:b<w.heap.size
 new:B≤b
 fr:∀ i,w.frozen? ⟨b,i,none⟩=false
 ex:∀ i,i<n→∃ a,w.cell? ⟨b,i,none⟩=some (.pointer a)
 cell:∀ i,i<m→w.cell? ⟨b,i,none⟩=some (.pointer (some ⟨P i,0,none⟩))
 num:∀ i,i<m→BigP w (P i) (q i)
 low:∀ i,i<m→B≤P i
 inj:∀ i j,i<m→j<m→P i=P j→i=j
theorem RowZ.ext {w w':World} {B b n m:Nat} {P:Nat→Nat} {q:Nat→Int} (h:RowZ w B b n m P q) (hb:Below w.heap.size w w'):RowZ w' B b n m P q:=by
 have hs:=hb.block b h.lt
 have hc:∀ o,w'.cell? ⟨b,o,none⟩=w.cell? ⟨b,o,none⟩:=fun o=>World.cell?_of_block (a:=⟨b,o,none⟩) hs
 exact ⟨h.ptrs.same hs,Nat.lt_of_lt_of_le h.lt hb.size,h.new,fun i=>(World.frozen?_of_block (a:=⟨b,i,none⟩) hs).trans (h.fr i),fun i hi=>by rw [hc];exact h.ex i hi,fun i hi=>by rw [hc];exact h.cell i hi,fun i hi=>(h.num i hi).ext hb,h.low,h.inj⟩
theorem RowZ.congr {w:World} {B b n m:Nat} {P:Nat→Nat} {q r:Nat→Int} (h:RowZ w B b n m P q) (e:∀ i,i<m→q i=r i):RowZ w B b n m P r :=
 { h with num:=fun i hi=>by rw [←e i hi];exact h.num i hi }
theorem RowZ.ne {w:World} {B b n m p:Nat} {P:Nat→Nat} {q:Nat→Int} (h:RowZ w B b n m P q) (hp:IntBlk w p):b≠p:=by
 rintro rfl
 obtain ⟨x,A,k,c,h0,-⟩:=hp.c
 obtain ⟨a,e⟩:=h.ptrs _ _ h0;cases e
theorem RowZ.other {w w':World} {B b n m p:Nat} {P:Nat→Nat} {q:Nat→Int} (h:RowZ w B b n m P q) (hp:IntBlk w p) (hb:But p w w') (hne:∀ i,i<m→P i≠p):RowZ w' B b n m P q:=by
 have hs:=hb.block b h.lt (h.ne hp)
 have hc:∀ o,w'.cell? ⟨b,o,none⟩=w.cell? ⟨b,o,none⟩:=fun o=>World.cell?_of_block (a:=⟨b,o,none⟩) hs
 exact ⟨h.ptrs.same hs,Nat.lt_of_lt_of_le h.lt hb.size,h.new,fun i=>(World.frozen?_of_block (a:=⟨b,i,none⟩) hs).trans (h.fr i),fun i hi=>by rw [hc];exact h.ex i hi,fun i hi=>by rw [hc];exact h.cell i hi,fun i hi=>(h.num i hi).but hp hb (hne i hi),h.low,h.inj⟩
theorem RowZ.set {w w':World} {B b n m k:Nat} {P:Nat→Nat} {q:Nat→Int} {x:Int} (h:RowZ w B b n m P q) (hk:k<m) (hx:BigP w' (P k) x) (hb:But (P k) w w'):RowZ w' B b n m P (fun i=>if i=k then x else q i):=by
 have hp:=(h.num k hk).blk
 have hs:=hb.block b h.lt (h.ne hp)
 have hc:∀ o,w'.cell? ⟨b,o,none⟩=w.cell? ⟨b,o,none⟩:=fun o=>World.cell?_of_block (a:=⟨b,o,none⟩) hs
 refine ⟨h.ptrs.same hs,Nat.lt_of_lt_of_le h.lt hb.size,h.new,fun i=>(World.frozen?_of_block (a:=⟨b,i,none⟩) hs).trans (h.fr i),fun i hi=>by rw [hc];exact h.ex i hi,fun i hi=>by rw [hc];exact h.cell i hi,fun i hi=>?_,h.low,h.inj⟩
 by_cases e:i=k
 ·subst e;rw [if_pos rfl];exact hx
 ·rw [if_neg e];exact (h.num i hi).but hp hb (fun e2=>e (h.inj i k hi hk e2))
theorem RowZ.put {w:World} {B b n m p:Nat} {P:Nat→Nat} {q:Nat→Int} (h:RowZ w B b n m P q) (hm:m<n) (hp:BigP w p (q m)) (hB:B≤p) (hne:∀ i,i<m→P i≠p) :
 RowZ (w.setCell ⟨b,m,none⟩ (.pointer (some ⟨p,0,none⟩))) B b n (m+1) (fun i=>if i=m then p else P i) q:=by
 have hb:But b w (w.setCell ⟨b,m,none⟩ (.pointer (some ⟨p,0,none⟩))):=(But.refl b w).set m _
 obtain ⟨a0,h0⟩:=h.ex m hm
 have hsame:=World.cell?_setCell_same w ⟨b,m,none⟩ (.pointer (some ⟨p,0,none⟩)) h0
 have hoth:∀ o,o≠m→(w.setCell ⟨b,m,none⟩ (.pointer (some ⟨p,0,none⟩))).cell? ⟨b,o,none⟩=w.cell? ⟨b,o,none⟩:=fun o ho =>
  World.cell?_setCell_other w ⟨b,m,none⟩ ⟨b,o,none⟩ _ (by intro e;injection e with _ e;exact ho e.symm)
 refine ⟨fun o x e=>?_,Nat.lt_of_lt_of_le h.lt hb.size,h.new,fun j=>?_,fun j hj=>?_,fun j hj=>?_,fun j hj=>?_,fun j hj=>?_,fun i j hi hj e=>?_⟩
 ·by_cases ho:o=m
  ·subst ho;rw [hsame] at e;injection e with e;exact ⟨_,e.symm⟩
  ·rw [hoth o ho] at e;exact h.ptrs o x e
 ·simp only [World.frozen?_setCell];exact h.fr j
 ·by_cases ho:j=m
  ·subst ho;exact ⟨_,hsame⟩
  ·rw [hoth j ho];exact h.ex j hj
 ·by_cases ho:j=m
  ·subst ho;rw [if_pos rfl];exact hsame
  ·rw [if_neg ho,hoth j ho];exact h.cell j (by omega)
 ·by_cases ho:j=m
  ·subst ho;rw [if_pos rfl];exact hp.butP h.ptrs hb
  ·rw [if_neg ho];exact (h.num j (by omega)).butP h.ptrs hb
 ·by_cases ho:j=m
  ·rw [if_pos ho];exact hB
  ·rw [if_neg ho];exact h.low j (by omega)
 ·by_cases hi':i=m<;>by_cases hj':j=m
  ·omega
  ·rw [if_pos hi',if_neg hj'] at e;exact absurd e.symm (hne j (by omega))
  ·rw [if_neg hi',if_pos hj'] at e;exact absurd e (hne i (by omega))
  ·rw [if_neg hi',if_neg hj'] at e;exact h.inj i j (by omega) (by omega) e
theorem RowZ.made (w:World) (n:Nat) (P:Nat→Nat) (q:Nat→Int):RowZ (w.alloc (.cells (nils n).toArray 150 (0,0))) w.heap.size w.heap.size n 0 P q:=by
 have hb:=Blk.new w (nils n) 150
 refine ⟨fun o x e=>?_,hb.lt,Nat.le_refl _,fun i=>hb.free i,fun i hi=>⟨none,?_⟩,fun i hi=>by omega,fun i hi=>by omega,fun i hi=>by omega,fun i j hi=>by omega⟩
 ·have:=cell_in hb e
  exact ⟨none,List.eq_of_mem_replicate this⟩
 ·have hl:i<(nils n).length:=by unfold nils;simpa using hi
  rw [hb.cell i hl];simp [nils]
theorem RowZ.low_base {w:World} {B C b n m:Nat} {P:Nat→Nat} {q:Nat→Int} (h:RowZ w B b n m P q) (hb:C≤B):RowZ w C b n m P q :=
 { h with new:=Nat.le_trans hb h.new,low:=fun i hi=>Nat.le_trans hb (h.low i hi) }
theorem RowZ.own {w:World} {B b n:Nat} {P:Nat→Nat} {q:Nat→Int} (h:RowZ w B b n n P q):OwnV w b n n q :=
 ⟨h.ptrs,h.lt,h.fr,h.ex,fun i hi=>⟨P i,h.cell i hi,h.num i hi⟩⟩
set_option maxRecDepth 100000 in
set_option maxHeartbeats 4000000 in
theorem clearZ_calls (v:Value) (n D:Nat) (q:Nat→Rat) (w:World) (hv:RatsX w v n q) (hn:n≤1000) (hD0:0<D) (hD:D≤524880000000) (hi:∀ i,i<n→(q i).den ∣ D) (sq:∀ i,i<n→Wide (q i).num) :
 Calls Tryz.prog 170 #[v] w fun e w'=>∃ g p P,e=.returned (.tuple #[.slice (some ⟨g,0,none⟩) n n,.pointer (some ⟨p,0,none⟩)])∧RowZ w' w.heap.size g n n P (numD q n)∧(∀ i,i<n→P i≠p)∧w.heap.size≤p∧BigP w' p (lcmD q n:Nat)∧Below w.heap.size w w':=by
 obtain ⟨A,c,rfl,-⟩:=id hv
 have LB:Hid (∀ k,k≤n→lcmD q k≤524880000000):=hid fun k hk=>Nat.le_trans (Nat.le_of_dvd hD0 (lcmD_dvd fun i hi'=>hi i (by omega))) hD
 have WN:Hid (∀ i,i<n→Wide (q i).num):=hid sq
 have DB:Hid (∀ i,i<n→(q i).den≤524880000000):=hid fun i hi'=>Nat.le_trans (Nat.le_of_dvd hD0 (hi i hi')) hD
 have HV:=hid hv
 have hmk:=fun w=>run_makeVec w n (by omega)
 clear hv hi sq hD hD0
 have HNE:=hid (newInt_calls 1 w (by omega) (by omega))
 go_enter Tryz.func170,Tryz.ntmps170
 go_wp2_with fail
 refine HNE.out.mono ?_;rintro e w1 ⟨dp,rfl,hdp,hz1,hb1⟩
 have HZ1:Hid (BigP w1 dp (lcmD q 0:Nat)):=hid hz1
 have HB1:=hid hb1
 have hdpl:w.heap.size≤dp:=hdp
 clear hz1 hb1 HNE hdp
 go_wp2_with fail
 go_loopw [14] (fun ti wr=>∃ (i:Nat),i≤n∧ti=.int .i64 i∧Hid (BigP wr dp (lcmD q i:Nat))∧Hid (Below w.heap.size w wr)) (fun ti _=>n-(intOf ti).toNat)
 case atStart=>exact ⟨0,Nat.zero_le _,rfl,HZ1,HB1⟩
 case round =>
  clear HZ1 HB1
  obtain ⟨i,hi,rfl,hZ,hbe⟩:=hrel
  by_cases hlt:i<n
  ·have hi1:(i:Int)<n:=by omega
   obtain ⟨a,o,p,rfl,q1,hzp⟩:=(HV.out.ext hbe.out).at hlt
   have hA1:Below wr.heap.size wr (wr.alloc (.cells #[.bool false,.slice none 0 0] 196 (0,0))):=(Below.refl _ _).alloc (Nat.le_refl _) _
   have hn1:IntBlk (wr.alloc (.cells #[.bool false,.slice none 0 0] 196 (0,0))) wr.heap.size:=IntBlk.of (Blk.new _ [.bool false,.slice none 0 0] _)
   have HDN:=hid (denom_calls p (q i) _ (hzp.ext hA1))
   have HZP:=hid hzp;have HA1:=hid hA1;have HN1:=hid hn1
   have wl:Hid (Wide (lcmD q i:Nat)):=hid (wide_small (by have:=LB.out i (by omega);omega))
   have wd:Hid (Wide ((q i).den:Nat)):=hid (wide_small (by have:=DB.out i hlt;omega))
   clear hzp hA1 hn1
   go_wp2_with fail
   refine HDN.out.mono ?_;rintro e w2 ⟨d1,rfl,hd1,hzd,hb2⟩
   have hB2:Below wr.heap.size wr w2:=HA1.out.trans (hb2.mono HA1.out.size)
   have HGC:=hid (gcdNil_calls wr.heap.size dp d1 _ _ w2 (HN1.out.ext hb2) (hZ.out.ext hB2) hzd wl.out wd.out)
   have HB2:=hid hB2
   clear hzd hb2 hB2 HDN HA1 HN1
   go_wp2_with fail
   refine HGC.out.mono ?_;rintro e w3 ⟨rfl,hz3,hb3⟩
   simp only [Int.natAbs_natCast] at hz3
   have hB3:Below wr.heap.size wr w3:=HB2.out.trans (hb3.below (Nat.le_refl _) HB2.out.size)
   have HZ3:=hid hz3;have HB3:=hid hB3
   obtain ⟨gp,hgp⟩:∃ gp,wr.heap.size=gp:=⟨_,rfl⟩
   rw [hgp] at HZ3 ⊢
   clear hz3 hb3 hB3 HGC HB2
   have hA3:Below w3.heap.size w3 (w3.alloc (.cells #[.bool false,.slice none 0 0] 196 (0,0))):=(Below.refl _ _).alloc (Nat.le_refl _) _
   have hn3:IntBlk (w3.alloc (.cells #[.bool false,.slice none 0 0] 196 (0,0))) w3.heap.size:=IntBlk.of (Blk.new _ [.bool false,.slice none 0 0] _)
   have HDN:=hid (denom_calls p (q i) _ ((HZP.out.ext HB3.out).ext hA3))
   have HA3:=hid hA3;have HN3:=hid hn3
   clear hA3 hn3
   go_wp2_with fail
   refine HDN.out.mono ?_;rintro e w4 ⟨d2,rfl,hd2,hzd,hb4⟩
   have hB4:Below w3.heap.size w3 w4:=HA3.out.trans (hb4.mono HA3.out.size)
   have hg0:((Nat.gcd (lcmD q i) (q i).den:Nat):Int)≠0:=by
    have:=Nat.gcd_pos_of_pos_left (q i).den (lcmD_pos q i)
    omega
   have wg:Wide ((Nat.gcd (lcmD q i) (q i).den:Nat):Int):=wide_small (by
    have:=Nat.le_of_dvd (lcmD_pos q i) (Nat.gcd_dvd_left (lcmD q i) (q i).den)
    have:=LB.out i (by omega)
    rw [Int.natAbs_natCast];omega)
   have HQU:=hid (quo_calls w3.heap.size d2 gp _ _ w4 (HN3.out.ext hb4) hzd (HZ3.out.ext hB4) hg0 wd.out wg)
   have HB4:=hid hB4
   clear hzd hb4 hB4 hg0 wg HDN HA3 HN3
   go_wp2_with fail
   refine HQU.out.mono ?_;rintro e w5 ⟨rfl,hz5,hb5⟩
   have hB5:Below w3.heap.size w3 w5:=HB4.out.trans (hb5.below (Nat.le_refl _) HB4.out.size)
   have hBr5:Below wr.heap.size wr w5:=HB3.out.trans (hB5.mono HB3.out.size)
   have hq:=hz5
   have hwq:Wide (((q i).den:Int).tdiv ((Nat.gcd (lcmD q i) (q i).den:Nat):Int)):=wide_small (by
    rw [←Int.ofNat_tdiv,Int.natAbs_natCast]
    have:=Nat.div_le_self (q i).den (Nat.gcd (lcmD q i) (q i).den)
    have:=DB.out i hlt
    omega)
   have HML:=hid (mul_t dp dp w3.heap.size _ _ w5 (hZ.out.ext hBr5).blk (hZ.out.ext hBr5) hz5 wl.out hwq)
   have HBR:=hid hBr5
   clear hz5 hb5 hB5 hBr5 hq hwq HQU HB4
   go_wp2_with fail
   refine HML.out.mono ?_;rintro e w6 ⟨rfl,hz6,hb6,-⟩
   rw [lcm_quo] at hz6
   have HZ6:Hid (BigP w6 dp (lcmD q (i+1):Nat)):=hid hz6
   have HB6:=hid ((hbe.out.trans (HBR.out.mono hbe.out.size)).trans (hb6.below hdpl (by have:=hbe.out.size;have:=HBR.out.size;omega)))
   clear hz6 hb6 HML HBR HB3 HZ3 hZ hbe
   go_wp2
   go_roundw
   case rel=>exact ⟨i+1,by omega,by go_num,HZ6,HB6⟩
   case measure=>simp [intOf];omega
  ·obtain rfl:n=i:=by omega
   have HO:=fun w=>RowZ.made w n (fun _=>0) (numD q n)
   have hA:Below wr.heap.size wr (wr.alloc (.cells (nils n).toArray 150 (0,0))):=(Below.refl _ _).alloc (Nat.le_refl _) _
   have hO0:=(HO wr).low_base hbe.out.size;have HO0:=hid hO0;have hdl:=hZ.out.lt;  have HZ0:=hid (hZ.out.ext hA);have HB0:=hid (hbe.out.trans (hA.mono hbe.out.size));have HA:=hid hA
   clear HO hA hZ hO0
   obtain ⟨g,hg⟩:∃ g,wr.heap.size=g:=⟨_,rfl⟩
   rw [hg] at HO0
   have hgw:w.heap.size≤g:=by rw [←hg];exact hbe.out.size
   have HGW:=hid hgw
   go_wp2_with fail
   try rw [hg]
   clear hg hgw hmk hbe
   go_loopw [37] (fun ti wr=>∃ (i:Nat) (P:Nat→Nat),i≤n∧ti=.int .i64 i∧Hid (RowZ wr w.heap.size g n i P (numD q n)∧(∀ k,k<i→P k≠dp)∧dp<wr.heap.size)∧Hid (BigP wr dp (lcmD q n:Nat))∧Hid (Below w.heap.size w wr)) (fun ti _=>n-(intOf ti).toNat)
   case atStart=>exact ⟨0,fun _=>0,Nat.zero_le _,rfl,hid ⟨HO0.out,fun k hk=>by omega,HZ0.out.lt⟩,HZ0,HB0⟩
   case round =>
    clear HO0 HZ0 HB0 HA
    obtain ⟨i,P,hi,rfl,hO,hZ,hbe⟩:=hrel
    by_cases hlt:i<n
    ·have hi1:(i:Int)<n:=by omega
     obtain ⟨a,o,p,rfl,q1,hzp⟩:=(HV.out.ext hbe.out).at hlt
     have hA1:Below wr.heap.size wr (wr.alloc (.cells #[.bool false,.slice none 0 0] 196 (0,0))):=(Below.refl _ _).alloc (Nat.le_refl _) _
     have hn1:IntBlk (wr.alloc (.cells #[.bool false,.slice none 0 0] 196 (0,0))) wr.heap.size:=IntBlk.of (Blk.new _ [.bool false,.slice none 0 0] _)
     have HNU:=hid (num_calls p (q i) _ (hzp.ext hA1))
     have HZP:=hid hzp;have HA1:=hid hA1;have HN1:=hid hn1
     clear hzp hA1 hn1
     go_wp2_with fail
     refine HNU.out.mono ?_;rintro e w2 ⟨pn,rfl,hpn,hzn,hb2⟩
     have hB2:Below wr.heap.size wr w2:=HA1.out.trans (hb2.mono HA1.out.size)
     have hA2:Below w2.heap.size w2 (w2.alloc (.cells #[.bool false,.slice none 0 0] 196 (0,0))):=(Below.refl _ _).alloc (Nat.le_refl _) _
     have hn2:IntBlk (w2.alloc (.cells #[.bool false,.slice none 0 0] 196 (0,0))) w2.heap.size:=IntBlk.of (Blk.new _ [.bool false,.slice none 0 0] _)
     have HDN:=hid (denom_calls p (q i) _ ((HZP.out.ext hB2).ext hA2))
     have HK2:=hid (HN1.out.ext hb2);have HZN2:=hid hzn;have HB2:=hid hB2;have HA2:=hid hA2;have HN2:=hid hn2
     have hk2:wr.heap.size<w2.heap.size:=(HN1.out.ext hb2).lt
     obtain ⟨mp,hmp⟩:∃ mp,wr.heap.size=mp:=⟨_,rfl⟩
     rw [hmp] at HK2 hk2 ⊢
     have HMP:=hid hmp
     clear hzn hb2 hB2 hA2 hn2 HNU HA1 HN1 hmp
     go_wp2_with fail
     refine HDN.out.mono ?_;rintro e w3 ⟨pd,rfl,hpd,hzd,hb3⟩
     have hB3:Below w2.heap.size w2 w3:=HA2.out.trans (hb3.mono HA2.out.size)
     have wl:Wide (lcmD q n:Nat):=wide_small (by have:=LB.out n (Nat.le_refl _);omega)
     have wd:Wide ((q i).den:Nat):=wide_small (by have:=DB.out i hlt;omega)
     have HQU:=hid (quo_calls w2.heap.size dp pd _ _ w3 (HN2.out.ext hb3) ((hZ.out.ext HB2.out).ext hB3) hzd (by have:=(q i).den_pos;omega) wl wd)
     have HB3:=hid hB3
     obtain ⟨qp,hqp⟩:∃ qp,w2.heap.size=qp:=⟨_,rfl⟩
     rw [hqp] at HQU hk2 ⊢
     have HQP:=hid hqp
     clear hzd hb3 hB3 wl wd HDN HA2 HN2 hqp
     go_wp2_with fail
     refine HQU.out.mono ?_;rintro e w4 ⟨rfl,hz4,hb4⟩
     rw [←Int.ofNat_tdiv] at hz4
     have hB4:Below w2.heap.size w2 w4:=HB3.out.trans (hb4.below (by have:=HQP.out;omega) HB3.out.size)
     have hwq:Wide ((lcmD q n / (q i).den:Nat):Int):=wide_small (by
      have:=Nat.div_le_self (lcmD q n) (q i).den
      have:=LB.out n (Nat.le_refl _)
      rw [Int.natAbs_natCast];omega)
     have HML:=hid (mul_t mp pn qp _ _ w4 (HK2.out.ext hB4) (HZN2.out.ext hB4) hz4 (WN.out i hlt) hwq)
     have HB4:=hid (HB2.out.trans (hB4.mono HB2.out.size))
     clear hz4 hb4 hB4 hwq HQU HB3 HK2 HZN2
     go_wp2_with fail
     refine HML.out.mono ?_;rintro e w5 ⟨rfl,hz5,hb5,-⟩
     have hB5:Below wr.heap.size wr w5:=HB4.out.trans (hb5.below (by have:=HMP.out;omega) HB4.out.size)
     have hO5:=hO.out.1.ext hB5
     obtain ⟨a5,hc5⟩:=hO5.ex i hlt
     have hf5:=hO5.fr i
     have hst:=hO5.put hlt (p:=mp) hz5 (by have:=HMP.out;have:=hbe.out.size;omega) (fun k hk e=>by
      have h1:=(hO.out.1.num k hk).lt
      have:=HMP.out
      omega)
     have hpd:∀ k,k<i+1→(fun k=>if k=i then mp else P k) k≠dp:=fun k hk=>by
      show (if k=i then mp else P k)≠dp
      split
      ·have:=HMP.out;have:=hO.out.2.2;omega
      ·exact hO.out.2.1 k (by omega)
     have hdl:dp<(w5.setCell ⟨g,i,none⟩ (.pointer (some ⟨mp,0,none⟩))).heap.size:=by
      have h1:=hO.out.2.2
      have h2:=hB5.size
      have h3:(w5.setCell ⟨g,i,none⟩ (.pointer (some ⟨mp,0,none⟩))).heap.size=w5.heap.size:=by simp
      omega
     have hbt:But g w5 (w5.setCell ⟨g,i,none⟩ (.pointer (some ⟨mp,0,none⟩))):=(But.refl _ _).set i _
     have HST:=hid (And.intro hst (And.intro hpd hdl))
     have HZ6:=hid ((hZ.out.ext hB5).butP hO5.ptrs hbt)
     have HB6:=hid ((hbe.out.trans (hB5.mono hbe.out.size)).trans (hbt.below HGW.out (by have:=hbe.out.size;have:=hB5.size;omega)))
     clear hz5 hb5 hB5 hO5 hst hbt HML HB4 hO hZ hbe hpd hdl
     go_wp2
     go_roundw
     case rel=>exact ⟨i+1,_,by omega,by go_num,HST,HZ6,HB6⟩
     case measure=>simp [intOf];omega
    ·obtain rfl:n=i:=by omega
     go_wp2
     go_ret2
     exact ⟨g,dp,P,rfl,hO.out.1,hO.out.2.1,hdpl,hZ.out,hbe.out⟩
end
end Go.Proofs.YtkljafmdbajfeaaGreatDoor
