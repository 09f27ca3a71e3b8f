/- The statements' own small functions in layer 1: same. -/
import Derived.Test.YtkljafmdbajfeaaGreatDoorNoB14
import Derived.Test.YtkljafmdbajfeaaGreatDoorNoB23
import Derived.Test.YtkljafmdbajfeaaGreatDoorNoB38
import Derived.Test.YtkljafmdbajfeaaGreatDoorNoB40
import Derived.Test.YtkljafmdbajfeaaGreatDoorNoB41
namespace Go.Proofs.YtkljafmdbajfeaaGreatDoor
set_option linter.unusedVariables false
set_option linter.unusedSimpArgs false
open Go.Lib (hid)
section
open Go.RowKit
def sameB (xs ys:List Int):Bool:=decide (xs=ys)
theorem sameB_len {xs ys:List Int} (h:xs.length≠ys.length):sameB xs ys=false:=by
 unfold sameB;exact decide_eq_false fun e=>h (by rw [e])
theorem sameB_at {xs ys:List Int} {i:Nat} (h:nth xs i≠nth ys i):sameB xs ys=false:=by
 unfold sameB;exact decide_eq_false fun e=>h (by rw [e])
theorem sameB_all {xs ys:List Int} (hl:xs.length=ys.length) (h:∀ i,i<xs.length→nth xs i=nth ys i):sameB xs ys=true:=by
 unfold sameB
 refine decide_eq_true (List.ext_getElem hl fun i h1 h2=>?_)
 have:=h i h1
 rw [nth_lt h1,nth_lt h2] at this;exact this
set_option maxHeartbeats 1000000 in
theorem same_calls (A B:Option Addr) (ca cb:Nat) (xs ys:List Int) (w:World) (hx:xs.length≤maxLen) (hy:ys.length≤maxLen) (hA:Ints w A xs) (hB:Ints w B ys) :
 Calls Tryz.prog 36 #[.slice A xs.length ca,.slice B ys.length cb] w fun e w'=>e=.returned (.bool (sameB xs ys))∧∃ k,w'=w.drewN k:=by
 unfold maxLen at hx hy
 by_cases hl:xs.length=ys.length
 ·have d1:((xs.length:Int) != (ys.length:Int))=false:=by simp [hl]
  have HL:=hid hl;clear hl
  go_enter Tryz.func36,Tryz.ntmps36
  go_wp2
  go_loopw [5] (fun i wr=>∃ k n:Nat,k≤xs.length∧i=.int .i64 k∧(∀ j,j<k→nth xs j=nth ys j)∧wr=w.drewN n) (fun i _=>xs.length-(intOf i).toNat)
  case atStart=>exact ⟨0,0,Nat.zero_le _,rfl,fun j hj=>by omega,rfl⟩
  case round =>
   obtain ⟨k,n,hk,rfl,hs,rfl⟩:=hrel
   have HS:=hid hs;clear hs
   by_cases hlt:k<xs.length
   ·obtain ⟨b1,o1,rfl,g1⟩:=hA k hlt
    obtain ⟨b2,o2,rfl,g2⟩:=hB k (by rw [←HL.out];exact hlt)
    have h0:(0:Int)≤k:=by omega
    have h1:(k:Int)<xs.length:=by omega
    have h2:(k:Int)<ys.length:=by have:=HL.out;omega
    by_cases hq:nth xs k=nth ys k
    ·have q1:(nth xs k != nth ys k)=false:=by simp [hq]
     have HQ:=hid hq;clear hq
     go_wp2_with fail
     go_quiet (fail)
     go_wp2
     go_roundw
     case rel=>exact ⟨k+1,_,by omega,by go_num,fun j hj=>by rcases Nat.lt_or_ge j k with e|e;exact HS.out j e;(obtain rfl:j=k:=by omega);exact HQ.out,by first|rfl|exact drewN_add _ _ _⟩
     case measure=>simp [intOf];omega
    ·have q1:(nth xs k != nth ys k)=true:=by simp [hq]
     have HQ:=hid hq;clear hq
     go_wp2_with fail
     go_quiet (fail)
     go_wp2
     go_ret
     exact ⟨by rw [sameB_at HQ.out];rfl,_,by first|rfl|exact drewN_add _ _ _⟩
   ·obtain rfl:k=xs.length:=by omega
    go_wp2
    go_ret
    exact ⟨by rw [sameB_all HL.out HS.out];rfl,n,rfl⟩
 ·have d1:((xs.length:Int) != (ys.length:Int))=true:=by simp;omega
  have HL:=hid hl;clear hl
  go_enter Tryz.func36,Tryz.ntmps36
  go_wp2
  go_ret
  exact ⟨by rw [sameB_len HL.out];rfl,0,rfl⟩
end
section
open Go.RowKit
def lastP (p:Nat→Nat):Nat→Int
 | 0 => -1
 | i+1=>p i
set_option maxRecDepth 100000 in
set_option maxHeartbeats 4000000 in
theorem normal_calls (A:Option Addr) (ca n:Nat) (l:List (List Int)) (p:Nat→Nat) (w:World) (hA:Grid w A l) (hn:n≤6) (hl:l.length≤6) (hr:∀ i,i<l.length→(nrow l i).length=n) (hp:∀ i,i<l.length→p i<n)
 (h0:∀ i,i<l.length→∀ c,c<p i→nth (nrow l i) c=0) (h1:∀ i,i<l.length→1≤nth (nrow l i) (p i)) (h2:∀ i j,i<j→j<l.length→0≤nth (nrow l i) (p j)∧nth (nrow l i) (p j)<nth (nrow l j) (p j)) (h3:∀ i,i<l.length→lastP p i<p i) :
 Calls Tryz.prog 39 #[.slice A l.length ca] w fun e w'=>e=.returned (.bool true)∧∃ k,w'=w.drewN k:=by
 have HR:=hid hr;have HP:=hid hp;have H0:=hid h0;have H1:=hid h1;have H2:=hid h2;have H3:=hid h3;have HA:=hid hA
 clear hr hp h0 h1 h2 h3 hA
 go_enter Tryz.func39,Tryz.ntmps39
 go_wp2
 go_loopw [3,4] (fun tl ti wr=>∃ (i m:Nat),i≤l.length∧ti=.int .i64 i∧tl=.int .i64 (lastP p i)∧wr=w.drewN m) (fun _ ti _=>l.length-(intOf ti).toNat)
 case atStart=>exact ⟨0,0,Nat.zero_le _,rfl,rfl,rfl⟩
 case round =>
  obtain ⟨i,m,hi,rfl,rfl,rfl⟩:=hrel
  by_cases hlt:i<l.length
  ·have hi1:(i:Int)<l.length:=by omega
   obtain ⟨b1,o1,R,cR,rfl,c1,-,c2⟩:=HA.out i hlt
   have hrl:=HR.out i hlt
   have hpi:=HP.out i hlt
   have hla:=H3.out i hlt
   have HC2:=hid c2
   have HI:=hid hlt
   rw [hrl] at c1
   have HRL:=hid hrl
   obtain ⟨q,hq⟩:∃ q,p i=q:=⟨_,rfl⟩
   obtain ⟨la,hlq⟩:∃ la,lastP p i=la:=⟨_,rfl⟩
   rw [hq] at hpi hla
   rw [hlq] at hla
   rw [hlq]
   have HQ:=hid hq
   clear hrl c2 hq hlq
   go_wp2
   go_loopw [5] (fun tc wr=>∃ (c m':Nat),c≤q∧tc=.int .i64 c∧wr=w.drewN m') (fun tc _=>q-(intOf tc).toNat)
   case atStart=>exact ⟨0,m,Nat.zero_le _,rfl,rfl⟩
   case round =>
    obtain ⟨c,m',hc,rfl,rfl⟩:=hrel
    have hcn:c<n:=by omega
    have hc1:(c:Int)<n:=by omega
    obtain ⟨b2,o2,hR2,c3⟩:=HC2.out c (by rw [HRL.out];exact hcn)
    subst hR2
    by_cases hcq:c<q
    ·have hz:=H0.out i HI.out c (by rw [HQ.out];exact hcq)
     rw [hz] at c3
     have HZ:=hid hz
     clear hz
     go_wp2
     go_roundw
     case rel=>exact ⟨c+1,m',by omega,by go_num,rfl⟩
     case measure=>simp [intOf];omega
    ·obtain rfl:c=q:=by omega
     have hge:=H1.out i HI.out
     rw [HQ.out] at hge
     obtain ⟨x,hx⟩:∃ x,nth (nrow l i) c=x:=⟨_,rfl⟩
     rw [hx] at c3 hge
     have HX:=hid hx
     have x0:(x == 0)=false:=by simp;omega
     have x1:decide (x<1)=false:=decide_eq_false (by omega)
     have x2:decide ((c:Int)≤la)=false:=decide_eq_false (by omega)
     have x3:decide (n≤c)=false:=decide_eq_false (by omega)
     clear hx hge
     go_wp2
     go_loopw [6] (fun tk wr=>∃ (k m'':Nat),k≤i∧tk=.int .i64 k∧wr=w.drewN m'') (fun tk _=>i-(intOf tk).toNat)
     case atStart=>exact ⟨0,m',Nat.zero_le _,rfl,rfl⟩
     case round =>
      obtain ⟨k,m'',hk,rfl,rfl⟩:=hrel
      by_cases hki:k<i
      ·have hk1:(k:Int)<i:=by omega
       have hk2:(k:Int)<l.length:=by omega
       obtain ⟨b3,o3,R3,cR3,hAA,d1,-,d2⟩:=HA.out k (by omega)
       injection hAA with hAA
       injection hAA with e1 e2
       subst e1 e2
       have hrk:=HR.out k (by omega)
       obtain ⟨b4,o4,hR4,d3⟩:=d2 c (by rw [hrk];exact hcn)
       subst hR4
       rw [hrk] at d1
       have hb:=H2.out k i hki HI.out
       rw [HQ.out,HX.out] at hb
       obtain ⟨y,hy⟩:∃ y,nth (nrow l k) c=y:=⟨_,rfl⟩
       rw [hy] at d3 hb
       have y0:decide (y<0)=false:=decide_eq_false (by omega)
       have y1:decide (x≤y)=false:=decide_eq_false (by omega)
       clear hrk hb hy d2
       go_wp2
       go_quiet (fail)
       go_wp2
       go_roundw
       case rel=>exact ⟨k+1,_,by omega,by go_num,by first|rfl|exact drewN_add _ _ _⟩
       case measure=>simp [intOf];omega
      ·obtain rfl:k=i:=by omega
       go_wp2
       go_roundw
       case rel=>exact ⟨k+1,m'',by omega,by go_num,by show _=Value.int .i64 (p k:Int);rw [HQ.out],rfl⟩
       case measure=>simp [intOf];omega
  ·obtain rfl:i=l.length:=by omega
   go_wp2
   go_ret
   exact ⟨rfl,m,rfl⟩
end
section
open Go.RowKit Go.ChangeMaps
open Lp (Lt V Ech pivots Gen From Least)
theorem rowed_far (A:Option Addr) (c:Nat) (l:List (List Int)) (k:Int) (w:World) (h:k<1∨6<k) :
 Calls Tryz.prog 80 #[.slice A l.length c,.int .i64 k] w fun e w'=>e=.returned (.bool false)∧Below w.heap.size w w':=by
 have hb0:∀ o,Below w.heap.size w (w.alloc o):=fun o=>(Below.refl _ _).alloc (Nat.le_refl _) _
 rcases h with h|h
 ·have d1:decide (1≤k)=false:=decide_eq_false (by omega)
  go_enter Tryz.func80,Tryz.ntmps80
  go_wp2
  go_ret
  exact ⟨rfl,hb0 _⟩
 ·have d1:decide (1≤k)=true:=decide_eq_true (by omega)
  have d2:decide (k≤6)=false:=decide_eq_false (by omega)
  go_enter Tryz.func80,Tryz.ntmps80
  go_wp2
  go_ret
  exact ⟨rfl,hb0 _⟩
def okN (l:List (List Int)) (k:Int):Bool:=decide (1≤k) && decide (k≤6) && rowsOk l k.toNat
theorem okN_nat {l:List (List Int)} {k:Int} (h:okN l k=true):∃ n:Nat,k=n∧1≤n∧n≤6∧rowsOk l n=true:=by
 unfold okN at h
 simp only [Bool.and_eq_true,decide_eq_true_eq] at h
 exact ⟨k.toNat,by omega,by omega,by omega,h.2⟩
end
section
open Go.RowKit Go.ChangeMaps
open Lp (Lt V Ech BdV Bd pivots lv cnt Gen From Least)
def gridF (l:List (List Int)):Nat→V:=fun i=>nth (nrow l i)
theorem fsF_grid (l:List (List Int)):fsF (l.map nth)=gridF l:=by
 funext i
 rcases Nat.lt_or_ge i l.length with h|h
 ·rw [fsF_at (by simpa using h)];unfold gridF;rw [nrow_lt h];simp
 ·have h2:fsF (l.map nth) i=fun _=>0:=by unfold fsF;simp [List.getD,h]
  have h3:nrow l i=[]:=by unfold nrow;simp [List.getD,h]
  rw [h2];unfold gridF;rw [h3];funext j;rfl
set_option maxHeartbeats 400000 in
theorem sysKernel_calls (S LN:Nat) (w:World) (h:w.cell? ⟨S,2,none⟩=some (.pointer (some ⟨LN,0,none⟩))) :
 Calls Tryz.prog 115 #[.pointer (some ⟨S,0,none⟩)] w fun e w'=>e=.returned (.pointer (some ⟨LN,0,none⟩))∧w'=w:=by
 go_enter Tryz.func115,Tryz.ntmps115
 go_wp2
 go_ret
 exact ⟨rfl,rfl⟩
theorem rowed_any (A:Option Addr) (c:Nat) (l:List (List Int)) (k:Int) (w:World) (h:Grid w A l) (hl:l.length≤maxLen) (hr:∀ r∈l,r.length≤maxLen) :
 Calls Tryz.prog 80 #[.slice A l.length c,.int .i64 k] w fun e w'=>e=.returned (.bool (okN l k))∧Below w.heap.size w w':=by
 by_cases h1:k<1∨6<k
 ·rw [show okN l k=false by unfold okN;rcases h1 with h1|h1<;>simp<;>omega]
  exact rowed_far A c l k w h1
 ·obtain ⟨n,rfl⟩:∃ n:Nat,k=n:=⟨k.toNat,by omega⟩
  have e:okN l (n:Int)=rowsOk l n:=by
   unfold okN
   rw [Int.toNat_natCast,decide_eq_true (show (1:Int)≤n by omega),decide_eq_true (show (n:Int)≤6 by omega),Bool.true_and,Bool.true_and]
  rw [e]
  exact rowed_calls A c l n w hl hr (by unfold maxLen;omega) h
def okS (l:List (List Int)) (b:List Int) (k:Int):Bool:=okN l k && decide (b.length=l.length) && listOk 1000 b
theorem okS_in {l:List (List Int)} {b:List Int} {k:Int} (h:okS l b k=true):okN l k=true∧b.length=l.length∧listOk 1000 b=true:=by
 unfold okS at h
 simp only [Bool.and_eq_true,decide_eq_true_eq] at h
 exact ⟨h.1.1,h.1.2,h.2⟩
theorem grid_bd {l:List (List Int)} {n:Nat} (h:rowsOk l n=true):∀ f∈l.map nth,∀ i,(f i).natAbs≤30:=fun f hf i=>by
 obtain ⟨-,-,-,-,hx⟩:=rowsOk_in h
 obtain ⟨r,hr,rfl⟩:=List.mem_map.1 hf
 exact nth_bd (fun y hy=>hx r hr y hy) i
def GridN (B:Nat) (w:World) (A:Option Addr) (l:List (List Int)):Prop :=
 ∀ i,i<l.length→∃ b o b' o' c,A=some ⟨b,o,none⟩∧B≤b∧w.cell? ⟨b,o+i,none⟩=some (.slice (some ⟨b',o',none⟩) (nrow l i).length c)∧(nrow l i).length≤c∧B≤b'∧∀ j,j<(nrow l i).length→w.cell? ⟨b',o'+j,none⟩=some (.int .i64 (nth (nrow l i) j))
theorem GridN.grid {B:Nat} {w:World} {A:Option Addr} {l:List (List Int)} (h:GridN B w A l):Grid w A l:=fun i hi=>by
 obtain ⟨b,o,b',o',c,h1,-,h2,h3,-,h4⟩:=h i hi
 exact ⟨b,o,_,c,h1,h2,h3,fun j hj=>⟨b',o',rfl,h4 j hj⟩⟩
theorem GridN.fr {B:Nat} {w w':World} {A:Option Addr} {l:List (List Int)} {S:Nat→Prop} (h:GridN B w A l) (hf:Fr S w w') (hS:∀ k,S k→k<B):GridN B w' A l:=fun i hi=>by
 obtain ⟨b,o,b',o',c,h1,hb,h2,h3,hb',h4⟩:=h i hi
 refine ⟨b,o,b',o',c,h1,hb,?_,h3,hb',fun j hj=>?_⟩
 ·rw [World.cell?_of_block (a:=⟨b,o+i,none⟩) (hf.block b (cell_lt h2) fun hs=>by have:=hS _ hs;omega)];exact h2
 ·rw [World.cell?_of_block (a:=⟨b',o'+j,none⟩) (hf.block b' (cell_lt (h4 j hj)) fun hs=>by have:=hS _ hs;omega)];exact h4 j hj
theorem GridN.mono {B C:Nat} {w:World} {A:Option Addr} {l:List (List Int)} (h:GridN B w A l) (hc:C≤B):GridN C w A l:=fun i hi=>by
 obtain ⟨b,o,b',o',c,h1,hb,h2,h3,hb',h4⟩:=h i hi
 exact ⟨b,o,b',o',c,h1,by omega,h2,h3,by omega,h4⟩
theorem GRow.gridN {w:World} {base n:Nat} {v:Value} {fs:List V} (h:GRow w base v fs.length n fs):∃ A c,v=.slice A fs.length c∧GridN base w A (fs.map fun f=>intsTo f n n):=by
 obtain ⟨gs,h1,h2,-,h3⟩:=h.ex
 obtain ⟨-,h4⟩:=id h2
 rcases h4 with ⟨rfl,h0⟩|⟨g,cap,cur,rfl,hg,hh,h5,h6,_⟩
 ·exact ⟨none,0,by rw [h0],fun i hi=>by simp at hi;omega⟩
 ·refine ⟨_,cap,rfl,fun j hj=>?_⟩
  have hj':j<fs.length:=by simpa using hj
  obtain ⟨hf,hb,hI⟩:=h3 j (by omega)
  have e:nrow (fs.map fun f=>intsTo f n n) j=intsTo fs[j] n n:=by rw [nrow_lt hj];simp
  refine ⟨g,0,gs[j]'(by omega),0,n,rfl,hg,?_,by rw [e,intsTo_len];exact Nat.le_refl _,hb,fun k hk=>?_⟩
  ·rw [Nat.zero_add,h2.cellAt j (by omega),e,intsTo_len]
   simp [h1,hj']
  ·rw [e] at hk ⊢
   rw [Nat.zero_add];exact hI.cell k hk
def KernP (l:List (List Int)) (k:Int) (w:World) (e:Ending) (w':World):Prop :=
 ∃ HA hc h er,e=.returned (.tuple #[.slice HA h.length hc,.int .i64 er])∧Hid (GridN w.heap.size w' HA h)∧Below w.heap.size w w' ∧
  ((okN l k=false∧er=2∧h=[])∨(okN l k=true∧er=0∧∃ rc rn,SysV (gridF l) l.length k.toNat rc rn∧h=formL rn k.toNat))
set_option maxRecDepth 100000 in
set_option maxHeartbeats 2000000 in
theorem kern_any (A:Option Addr) (c:Nat) (l:List (List Int)) (k:Int) (w:World) (h:Grid w A l) (hl:l.length≤maxLen) (hr:∀ r∈l,r.length≤maxLen) :
 Calls Tryz.prog 56 #[.slice A l.length c,.int .i64 k] w (KernP l k w):=by
 have HRW:=hid (rowed_any A c l k w h hl hr)
 have HG:=hid h
 clear h
 cases hok:okN l k with
 | false =>
   rw [hok] at HRW
   have HOK:=hid hok
   clear hok
   go_enter Tryz.func56,Tryz.ntmps56
   go_wp2_with fail
   refine HRW.out.mono ?_;rintro e w1 ⟨rfl,hb1⟩
   go_wp2
   go_ret2
   exact ⟨none,0,[],2,rfl,hid (fun i hi=>by simp at hi),hb1,.inl ⟨HOK.out,rfl,rfl⟩⟩
 | true =>
   rw [hok] at HRW
   have HOK:=hid hok
   obtain ⟨n,rfl,hn1,hn6,hro⟩:=okN_nat hok
   obtain ⟨-,-,hl6,hrow,hx⟩:=rowsOk_in hro
   have HRO:=hid hro;have HROW:Hid (∀ r∈l,r.length=n):=hid hrow;have HX:Hid (∀ r∈l,∀ x∈r,-30≤x∧x≤30):=hid hx
   clear hok hro hrow hx
   go_enter Tryz.func56,Tryz.ntmps56
   go_wp2_with fail
   refine HRW.out.mono ?_;rintro e w1 ⟨rfl,hb1⟩
   have HV:=hid (vectors_calls A c n l w1 (HG.out.ext hb1) (by omega) (by omega) HROW.out (fun r hr x hx=>by have:=HX.out r hr x hx;omega))
   have HB1:=hid hb1
   clear hb1 HRW
   go_wp2_with fail
   refine HV.out.mono ?_;rintro e w2 ⟨A2,c2,rfl,hvs,hb2⟩
   have heq:=equations_calls n (l.map nth) A2 c2 w2 hvs (by omega) hn6 (by simp;omega) (grid_bd HRO.out)
   rw [List.length_map,fsF_grid] at heq
   have HEQ:=hid heq
   have HB2:=hid (HB1.out.trans (hb2.mono HB1.out.size))
   clear heq hvs hb2 HV HB1
   go_wp2_with fail
   refine HEQ.out.mono ?_;rintro e w3 ⟨S,rc,rn,rfl,hS,hsp,hsv,hb3⟩
   obtain ⟨LC,MC,LN,MN,hBl,hLC,hLN⟩:=hsp.ex
   have k2:=hBl.cell 2 (by simp [sysV])
   simp only [sysV,List.getElem_cons_zero,List.getElem_cons_succ,Option.map] at k2
   have HLN:=hid hLN;have HSV:=hid hsv
   have HB3:=hid (HB2.out.trans (hb3.mono HB2.out.size))
   have HR:=hid (rows_calls LN MN n rn w3 hLN (by omega) (by omega))
   have hle:(rowsOf rn n).length≤1000:=by rw [rowsOf_len];have:=pivots_le rn n;omega
   have HKN:=hid (sysKernel_calls S LN w3 k2)
   clear hsp hsv hb3 hBl hLC hLN hS HEQ HB2 k2
   go_wp2_with fail
   refine HKN.out.mono ?_;rintro e w4 ⟨rfl,e4⟩;subst e4
   go_wp2_with fail
   refine HR.out.mono ?_;rintro e w5 ⟨A5,c5,rfl,hvs5,hb5⟩
   have HI:=hid (ints_calls A5 c5 n (rowsOf rn n) w5 hvs5 hle (by omega) (by omega))
   have HB5:=hid (HB3.out.trans (hb5.mono HB3.out.size))
   clear hvs5 hb5 HR HB3
   go_wp2_with fail
   refine HI.out.mono ?_;rintro e w6 ⟨v,rfl,hg,hb6⟩
   obtain ⟨HA,hc,rfl,hG⟩:=hg.gridN
   have HG6:=hid (hG.mono HB5.out.size);have HB6:=hid (HB5.out.trans (hb6.mono HB5.out.size))
   clear hg hb6 hG HI
   go_wp2
   go_ret2
   exact ⟨HA,hc,formL rn n,0,by rw [show (formL rn n).length=(rowsOf rn n).length by unfold formL;simp];rfl,HG6,HB6.out,.inr ⟨HOK.out,rfl,rc,rn,by rw [Int.toNat_natCast];exact HSV.out,by rw [Int.toNat_natCast]⟩⟩
def SysA (l:List (List Int)) (b:List Int) (k:Int) (w:World) (e:Ending) (w':World):Prop :=
 Below w.heap.size w w'∧((okS l b k=false∧e=.returned (.tuple #[.pointer none,.slice none 0 0,.bool false])) ∨
  (okS l b k=true∧∃ S vb rc rn,e=.returned (.tuple #[.pointer (some ⟨S,0,none⟩),vb,.bool true])∧SysP w' S l.length k.toNat rc rn∧SysV (gridF l) l.length k.toNat rc rn∧VecP w' vb l.length (nth b)))
set_option maxRecDepth 100000 in
set_option maxHeartbeats 4000000 in
theorem sys_any (A B:Option Addr) (c cb:Nat) (l:List (List Int)) (b:List Int) (k:Int) (w:World) (h:Grid w A l) (hB:Ints w B b) (hl:l.length≤maxLen) (hr:∀ r∈l,r.length≤maxLen) (hm:b.length≤maxLen) :
 Calls Tryz.prog 117 #[.slice A l.length c,.slice B b.length cb,.int .i64 k] w (SysA l b k w):=by
 have HRW:=hid (rowed_any A c l k w h hl hr)
 have HG:=hid h;have HBI:=hid hB
 have hl':=hl;unfold maxLen at hl'
 have hm':=hm;unfold maxLen at hm'
 clear h hB
 cases hok:okN l k with
 | false =>
   rw [hok] at HRW
   have HS:Hid (okS l b k=false):=hid (by unfold okS;rw [hok];rfl)
   clear hok
   go_enter Tryz.func117,Tryz.ntmps117
   go_wp2_with fail
   refine HRW.out.mono ?_;rintro e w1 ⟨rfl,hb1⟩
   go_wp2
   go_ret3
   exact ⟨hb1,.inl ⟨HS.out,rfl⟩⟩
 | true =>
   rw [hok] at HRW
   by_cases hlen:b.length=l.length
   ·have hd:((b.length:Int) != (l.length:Int))=false:=by rw [hlen];simp
    have HLI:=hid (fun w' hb'=>listed_calls B cb b 1000 w' hm (by omega) (by omega) (HBI.out.ext hb'))
    have HLEN:=hid hlen
    cases hls:listOk 1000 b with
    | false =>
      rw [hls] at HLI
      have HS:Hid (okS l b k=false):=hid (by unfold okS;rw [hls,Bool.and_false])
      clear hok hls hlen
      go_enter Tryz.func117,Tryz.ntmps117
      go_wp2_with fail
      refine HRW.out.mono ?_;rintro e w1 ⟨rfl,hb1⟩
      have HL1:=hid (HLI.out w1 hb1)
      have HB1:=hid hb1
      clear hb1 HLI HRW
      go_wp2_with fail
      refine HL1.out.mono ?_;rintro e w2 ⟨rfl,hb2⟩
      go_wp2
      go_ret3
      exact ⟨HB1.out.trans (hb2.mono HB1.out.size),.inl ⟨HS.out,rfl⟩⟩
    | true =>
      rw [hls] at HLI
      have HS:Hid (okS l b k=true):=hid (by unfold okS;rw [hok,hls,decide_eq_true hlen];rfl)
      obtain ⟨n,rfl,hn1,hn6,hro⟩:=okN_nat hok
      obtain ⟨-,-,hl6,hrow,hx⟩:=rowsOk_in hro
      have hb9:∀ x∈b,-9223372036854775808≤x∧x≤9223372036854775807:=fun x hx=>by
       have:=List.all_eq_true.1 hls x hx
       unfold inB at this
       simp only [Bool.and_eq_true,decide_eq_true_eq] at this
       omega
      have HB9:Hid (∀ x∈b,-9223372036854775808≤x∧x≤9223372036854775807):=hid hb9
      have HRO:=hid hro;have HROW:Hid (∀ r∈l,r.length=n):=hid hrow;have HX:Hid (∀ r∈l,∀ x∈r,-30≤x∧x≤30):=hid hx
      clear hok hls hlen hro hrow hx hb9
      go_enter Tryz.func117,Tryz.ntmps117
      go_wp2_with fail
      refine HRW.out.mono ?_;rintro e w1 ⟨rfl,hb1⟩
      have HL1:=hid (HLI.out w1 hb1)
      have HB1:=hid hb1
      clear hb1 HLI HRW
      go_wp2_with fail
      refine HL1.out.mono ?_;rintro e w2 ⟨rfl,hb2⟩
      have HB2:=hid (HB1.out.trans (hb2.mono HB1.out.size))
      have HV:=hid (vectors_calls A c n l w2 (HG.out.ext HB2.out) (by omega) (by omega) HROW.out (fun r hr x hx=>by have:=HX.out r hr x hx;omega))
      clear hb2 HL1 HB1
      go_wp2_with fail
      refine HV.out.mono ?_;rintro e w3 ⟨A2,c2,rfl,hvs,hb3⟩
      have heq:=equations_calls n (l.map nth) A2 c2 w3 hvs (by omega) hn6 (by simp;omega) (grid_bd HRO.out)
      rw [List.length_map,fsF_grid] at heq
      have HEQ:=hid heq
      have HB3:=hid (HB2.out.trans (hb3.mono HB2.out.size))
      clear heq hvs hb3 HV HB2
      go_wp2_with fail
      refine HEQ.out.mono ?_;rintro e w4 ⟨S,rc,rn,rfl,hS,hsp,hsv,hb4⟩
      have HB4:=hid (HB3.out.trans (hb4.mono HB3.out.size))
      have HOF:=hid (vecOf_calls B cb b w4 (HBI.out.ext HB4.out) (by have:=HLEN.out;omega) HB9.out)
      have HSP:=hid hsp;have HSV:=hid hsv
      clear hsp hsv hb4 hS HEQ HB3
      go_wp2_with fail
      refine HOF.out.mono ?_;rintro e w5 ⟨vb,rfl,hvb,hb5⟩
      have HVB:=hid hvb;have HB5:=hid (HB4.out.trans (hb5.mono HB4.out.size));have HSP5:=hid (HSP.out.ext hb5)
      clear hvb hb5 HOF HSP HB4
      go_wp2
      go_ret3
      exact ⟨HB5.out,.inr ⟨HS.out,S,vb,rc,rn,rfl,by rw [Int.toNat_natCast];exact HSP5.out,by rw [Int.toNat_natCast];exact HSV.out,by rw [←HLEN.out];exact HVB.out⟩⟩
   ·have hd:((b.length:Int) != (l.length:Int))=true:=by simp;omega
    have HS:Hid (okS l b k=false):=hid (by unfold okS;rw [decide_eq_false hlen,Bool.and_false,Bool.false_and])
    clear hok hlen
    go_enter Tryz.func117,Tryz.ntmps117
    go_wp2_with fail
    refine HRW.out.mono ?_;rintro e w1 ⟨rfl,hb1⟩
    go_wp2
    go_ret3
    exact ⟨hb1,.inl ⟨HS.out,rfl⟩⟩
def SolP (l:List (List Int)) (b:List Int) (k:Int) (w:World) (e:Ending) (w':World):Prop :=
 Below w.heap.size w w'∧((okS l b k=false∧e=.returned (.tuple #[.slice none 0 0,.int .i64 2])) ∨
  (okS l b k=true∧∃ rc rn,SysV (gridF l) l.length k.toNat rc rn ∧
    ((e=.returned (.tuple #[.slice none 0 0,.int .i64 10])∧∀ x,¬ Sol (gridF l) l.length k.toNat (nth b) x) ∨
     ∃ g x,e=.returned (.tuple #[.slice (some ⟨g,0,none⟩) k.toNat k.toNat,.int .i64 0])∧w.heap.size≤g∧IBlk w' g (intsTo x k.toNat k.toNat)∧Sol (gridF l) l.length k.toNat (nth b) x∧Least rn x)))
theorem nth_b1000 {b:List Int} (h:listOk 1000 b=true) (i:Nat):(nth b i).natAbs≤1000:=by
 rcases Nat.lt_or_ge i b.length with h2|h2
 ·have:=listOk_nth h h2;omega
 ·rw [nth_beyond h2];simp
set_option maxRecDepth 100000 in
set_option maxHeartbeats 4000000 in
theorem solL_any (A B:Option Addr) (c cb:Nat) (l:List (List Int)) (b:List Int) (k:Int) (w:World) (h:Grid w A l) (hB:Ints w B b) (hl:l.length≤maxLen) (hr:∀ r∈l,r.length≤maxLen) (hm:b.length≤maxLen) :
 Calls Tryz.prog 58 #[.slice A l.length c,.slice B b.length cb,.int .i64 k] w (SolP l b k w):=by
 have HSY:=hid (sys_any A B c cb l b k w h hB hl hr hm)
 clear h hB hr
 go_enter Tryz.func58,Tryz.ntmps58
 go_wp2_with fail
 refine HSY.out.mono ?_;rintro e w1 ⟨hb1,h1⟩
 clear HSY
 rcases h1 with ⟨hok,rfl⟩|⟨hok,S,vb,rc,rn,rfl,hsp,hsv,hvb⟩
 ·have HOK:=hid hok
  clear hok
  go_wp2
  go_ret2
  exact ⟨hb1,.inl ⟨HOK.out,rfl⟩⟩
 ·obtain ⟨hok1,hlen,hls⟩:=okS_in hok
  obtain ⟨n,rfl,hn1,hn6,hro⟩:=okN_nat hok1
  have hl6:=(rowsOk_in hro).2.2.1
  rw [Int.toNat_natCast] at hsp hsv
  have HSS:=hid (solveSys_calls S l.length n rc rn (gridF l) (nth b) vb w1 hsp hsv hvb (fun i _=>nth_b1000 hls i) (by omega) (by omega))
  have HB1:=hid hb1;have HSV:=hid hsv;have HOK:=hid hok;have HLS:=hid hls
  clear hb1 hsp hsv hvb hok hok1 hls hro hlen
  go_wp2_with fail
  refine HSS.out.mono ?_;rintro e w2 ⟨h2,hb2⟩
  have HB2:=hid (HB1.out.trans (hb2.mono HB1.out.size))
  have hsz:=HB1.out.size
  clear hb2 HSS HB1
  rcases h2 with ⟨g,cg,x,rfl,hg1,hg2,hg3,hO,hsol,hle⟩|⟨v,t,z,rfl,ht,hz1,hz2,hz3⟩
  ·have HIN:=hid (vecInts_calls n x _ w2 (hO.vec hg1 hg2).vec (by omega))
   have HSOL:=hid hsol;have HLE:=hid hle
   clear hO hsol hle
   go_wp2_with fail
   refine HIN.out.mono ?_;rintro e w3 ⟨g3,rfl,hg4,hI,hb3⟩
   have HI:=hid hI;have HB3:=hid (HB2.out.trans (hb3.mono HB2.out.size));have hsz2:=HB2.out.size
   clear hI hb3 HIN
   go_wp2
   go_ret2
   refine ⟨HB3.out,.inr ⟨HOK.out,rc,rn,by rw [Int.toNat_natCast];exact HSV.out,.inr ⟨g3,x,by rw [Int.toNat_natCast];rfl,by omega,by rw [Int.toNat_natCast];exact HI.out,by rw [Int.toNat_natCast];exact HSOL.out,HLE.out⟩⟩⟩
  ·have hno:∀ x,¬ Sol (gridF l) l.length n (nth b) x:=fun x hx=>by
    obtain ⟨r,hr1,hr2⟩:=hz1.goes HSV.out hx ht hz2
    exact hz3 r hr1 hr2
   have HNO:Hid (∀ x,¬ Sol (gridF l) l.length n (nth b) x):=hid hno
   clear hz1 hz2 hz3 hno
   go_wp2
   go_ret2
   exact ⟨HB2.out,.inr ⟨HOK.out,rc,rn,by rw [Int.toNat_natCast];exact HSV.out,.inl ⟨rfl,by rw [Int.toNat_natCast];exact HNO.out⟩⟩⟩
end
end Go.Proofs.YtkljafmdbajfeaaGreatDoor
