/- tinplatelaw01.meets, where the equations hold. -/
import Derived.Test.YtkljafmdbajfeaaGreatDoorNoB38
import Derived.Test.YtkljafmdbajfeaaGreatDoorNoB42
import Derived.Test.YtkljafmdbajfeaaGreatDoorNoB46
namespace Go.Proofs.YtkljafmdbajfeaaGreatDoor
set_option linter.unusedVariables false
set_option linter.unusedSimpArgs false
open Go.Lib (hid)
section
open Go.RowKit
open Lp (sumZ)
set_option maxHeartbeats 1000000 in
theorem rzero_calls (v:Value) (z:Int) (w:World) (h:RB w v z) (hf:Few z) :
 Calls Tryz.prog 124 #[v] w fun e w'=>e=.returned (.bool (decide (z=0)))∧Below w.heap.size w w':=by
 obtain ⟨A,c,rfl,-⟩:=h.form
 have hl:(T.digits z.natAbs).length=0↔z=0:=by
  constructor
  ·intro h0
   have:=T.digits_nil (List.eq_nil_of_length_eq_zero h0)
   omega
  ·rintro rfl;simp [T.digits]
 obtain ⟨n,hn⟩:∃ n,(T.digits z.natAbs).length=n:=⟨_,rfl⟩
 obtain ⟨q,hq⟩:∃ q,decide (z<0)=q:=⟨_,rfl⟩
 rw [hn] at hl ⊢
 rw [hq]
 by_cases hz:z=0
 ·have h0:n=0:=hl.2 hz
  subst h0
  have HZ:=hid hz
  clear hz hl hn hq h hf
  go_enter Tryz.func124,Tryz.ntmps124
  go_wp2
  go_ret
  exact ⟨by rw [decide_eq_true HZ.out];rfl,(Below.refl _ _).alloc (Nat.le_refl _) _⟩
 ·have h0:n≠0:=fun e=>hz (hl.1 e)
  have hb:((n:Int) == 0)=false:=by simp;omega
  have HZ:=hid hz
  clear hz hl hn hq h hf h0
  go_enter Tryz.func124,Tryz.ntmps124
  go_wp2
  go_ret
  exact ⟨by rw [decide_eq_false HZ.out];rfl,(Below.refl _ _).alloc (Nat.le_refl _) _⟩
def meetS (l:List (List Int)) (b xs:List Int) (i j:Nat):Int := -nth b i+sumZ j fun t=>gridF l i t*nth xs t
theorem meetS_succ (l:List (List Int)) (b xs:List Int) (i j:Nat):meetS l b xs i (j+1)=meetS l b xs i j+gridF l i j*nth xs j:=by
 unfold meetS;simp only [sumZ];omega
set_option maxRecDepth 100000 in
set_option maxHeartbeats 4000000 in
theorem meets_calls (A B X:Option Addr) (ca cb cx n:Nat) (l:List (List Int)) (b xs:List Int) (w:World) (hA:Grid w A l) (hB:Ints w B b) (hX:Ints w X xs) (hro:rowsOk l n=true) (hlen:b.length=l.length) (hb:listOk 1000 b=true) (hxl:xs.length=n)
 (hx:∀ i,i<n → -9223372036854775808≤nth xs i∧nth xs i≤9223372036854775807) (hs:∀ i,i<l.length→(sumZ n fun j=>gridF l i j*nth xs j)=nth b i) :
 Calls Tryz.prog 63 #[.slice A l.length ca,.slice B b.length cb,.slice X xs.length cx] w fun e w'=>e=.returned (.bool true)∧Below w.heap.size w w':=by
 obtain ⟨h1,h6,hl6,hrow,hent⟩:=rowsOk_in hro
 have hprod:∀ i j,i<l.length→j<n→(gridF l i j*nth xs j).natAbs≤30*9223372036854775808:=fun i j hi hj=>by
  rw [Int.natAbs_mul]
  have h2 : -30≤gridF l i j∧gridF l i j≤30:=by
   have hm:=nrow_mem hi
   exact hent _ hm _ (nth_mem (by rw [hrow _ hm];exact hj))
  exact Nat.mul_le_mul (by omega) (by have:=hx j hj;omega)
 have hbd:∀ i j,i<l.length→j≤n→(meetS l b xs i j).natAbs≤1000+6*(30*9223372036854775808):=fun i j hi hj=>by
  unfold meetS
  have h2:=sumZ_abs (f:=fun t=>gridF l i t*nth xs t) (K:=30*9223372036854775808) (m:=j) fun t ht=>hprod i t hi (by omega)
  have h3:j*(30*9223372036854775808)≤6*(30*9223372036854775808):=Nat.mul_le_mul_right _ (by omega)
  have h4:=nth_b1000 hb i
  omega
 have HA:=hid hA;have HB:=hid hB;have HX:=hid hX
 have HLEN:=hid hlen;have HXL:=hid hxl;have HBO:=hid hb
 have HXB:Hid (∀ i,i<n → -9223372036854775808≤nth xs i∧nth xs i≤9223372036854775807):=hid hx
 have HS:Hid (∀ i,i<l.length→(sumZ n fun j=>gridF l i j*nth xs j)=nth b i):=hid hs
 have HROW:Hid (∀ r∈l,r.length=n):=hid hrow
 have HENT:Hid (∀ r∈l,∀ x∈r,-30≤x∧x≤30):=hid hent
 have HPR:Hid (∀ i j,i<l.length→j<n→(gridF l i j*nth xs j).natAbs≤30*9223372036854775808):=hid hprod
 have HBD:Hid (∀ i j,i<l.length→j≤n→(meetS l b xs i j).natAbs≤1000+6*(30*9223372036854775808)):=hid hbd
 clear hA hB hX hro hlen hb hxl hx hs hrow hent hprod hbd
 go_enter Tryz.func63,Tryz.ntmps63
 go_wp2
 go_loopw [7] (fun ti wr=>∃ (i:Nat),i≤l.length∧ti=.int .i64 i∧Hid (Below w.heap.size w wr)) (fun ti _=>l.length-(intOf ti).toNat)
 case atStart=>exact ⟨0,Nat.zero_le _,rfl,hid (Below.refl _ _)⟩
 case round =>
  obtain ⟨i,hi,rfl,hbe⟩:=hrel
  obtain ⟨wo,hwo⟩:∃ wo,wo=wr:=⟨_,rfl⟩
  subst hwo
  by_cases hli:i<l.length
  ·have hi1:(i:Int)<l.length:=by omega
   have hi2:(i:Int)<b.length:=by have:=HLEN.out;omega
   obtain ⟨b1,o1,rfl,c1⟩:=(HB.out.ext hbe.out) i (by have:=HLEN.out;omega)
   obtain ⟨b2,o2,R,cR,rfl,c2,-,c3⟩:=(HA.out.ext hbe.out) i hli
   have hrl:(nrow l i).length=n:=HROW.out _ (nrow_mem hli)
   have HRL:=hid hrl;have HC3:=hid c3
   have hbi:=nth_b1000 HBO.out i
   obtain ⟨bi,hbie⟩:∃ x,nth b i=x:=⟨_,rfl⟩
   rw [hbie] at c1 hbi
   have HBIE:=hid hbie
   have HOF:=hid (rOf_calls (-bi) wo (by omega))
   clear hrl c3 hbie
   go_wp2_with fail
   refine HOF.out.mono ?_;rintro e w1 ⟨v,rfl,hv,hb1⟩
   obtain ⟨Av,cv,e1,-⟩:=hv.rb.form
   obtain ⟨q0,hq0⟩:∃ q,decide (-bi<0)=q:=⟨_,rfl⟩
   obtain ⟨l0,hl0⟩:∃ l,(T.digits (-bi).natAbs).length=l:=⟨_,rfl⟩
   rw [hq0,hl0] at e1
   have hrb:=hv.rb
   rw [e1] at hrb ⊢
   have hbig:=BigAt.new hrb
   have hA1:Below w1.heap.size w1 (w1.alloc (.cells #[.bool q0,.slice Av l0 cv] 61 (0,0))):=(Below.refl _ _).alloc (Nat.le_refl _) _
   have hb2:Below wo.heap.size wo (w1.alloc (.cells #[.bool q0,.slice Av l0 cv] 61 (0,0))):=hb1.trans (hA1.mono hb1.size)
   obtain ⟨sp,hsp⟩:∃ sp,w1.heap.size=sp:=⟨_,rfl⟩
   rw [hsp] at hbig
   have hspw:wo.heap.size≤sp:=by rw [←hsp];exact hb1.size
   have hm0:meetS l b xs i 0 = -bi:=by unfold meetS;rw [HBIE.out];simp only [sumZ];omega
   rw [←hm0] at hbig
   have HBG:=hid hbig;have HB2:=hid hb2;have HSP:=hid hsp
   have hrn:(n:Int)=((nrow l i).length:Int):=by rw [HRL.out]
   have hne:((xs.length:Int) != ((nrow l i).length:Int))=false:=by rw [HXL.out,HRL.out];simp
   clear hbig hA1 hb2 hv hb1 hrb e1 hq0 hl0 hsp hm0 hrn HOF c1
   obtain ⟨w2,hw2⟩:∃ w2,w1.alloc (.cells #[.bool q0,.slice Av l0 cv] 61 (0,0))=w2:=⟨_,rfl⟩
   have HW2:=hid hw2
   rw [hw2] at HBG HB2
   have hc2':w2.cell? ⟨b2,o2+i,none⟩=some (.slice R (nrow l i).length cR):=((HB2.out.cell (p:=⟨b2,o2+i,none⟩) (cell_lt c2)).trans c2)
   clear c2 hw2
   go_upto_region 5 with (fail)
   rw [HW2.out]
   have HSP2:=HSP
   try rw [HSP2.out]
   clear HW2
   go_wp2
   clear hc2' hne
   go_loopw [9] (fun tj wq=>∃ (j:Nat) (q:Bool) (sl:Value),j≤n∧tj=.int .i64 j∧Hid (BigAt wq sp (meetS l b xs i j) q sl)∧Hid (Below wo.heap.size wo wq)) (fun tj _=>n-(intOf tj).toNat)
   case atStart=>exact ⟨0,_,_,Nat.zero_le _,rfl,HBG,HB2⟩
   case round =>
    clear HBG HB2
    obtain ⟨j,q,sl,hj,rfl,HK,HBE⟩:=hrel
    by_cases hlj:j<n
    ·have hj1:(j:Int)<xs.length:=by rw [HXL.out];omega
     have hj2:(j:Int)<(nrow l i).length:=by rw [HRL.out];omega
     have hbt:=hbe.out.trans (HBE.out.mono hbe.out.size)
     obtain ⟨b3,o3,R3,cR3,e3,c2,-,c3⟩:=(HA.out.ext hbt) i hli
     injection e3 with e3;injection e3 with e4 e5;subst e4;subst e5
     obtain ⟨b5,o5,rfl,x0⟩:=(HX.out.ext hbt) j (by rw [HXL.out];exact hlj)
     obtain ⟨b4,o4,rfl,c4⟩:=c3 j (by rw [HRL.out];exact hlj)
     have z2:=HXB.out j hlj
     have hm:=nrow_mem hli
     have z1:=HENT.out _ hm _ (nth_mem (show j<(nrow l i).length by rw [HRL.out];exact hlj))
     have f1:=HBD.out i j hli (by omega)
     have f2:=HPR.out i j hli hlj
     have hnx:=meetS_succ l b xs i j
     unfold gridF at f2 hnx
     obtain ⟨ck,hck⟩:∃ x,nth (nrow l i) j=x:=⟨_,rfl⟩
     obtain ⟨xk,hxk⟩:∃ x,nth xs j=x:=⟨_,rfl⟩
     obtain ⟨s,hs⟩:∃ x,meetS l b xs i j=x:=⟨_,rfl⟩
     rw [hck] at c4 f2 z1 hnx
     rw [hxk] at x0 f2 z2 hnx
     rw [hs] at f1 HK hnx
     have HOP:=hid (fun W=>rOf_calls ck W (by omega));have HOX:=hid (fun W=>rOf_calls xk W (by omega))
     have HTM:=hid (fun v1 v2 W (k1:RB W v1 ck) (k2:RB W v2 xk)=>rTimes_calls v1 v2 ck xk W k1 k2 (few_bd (by omega)) (few_bd (by omega)))
     have HPL:=hid (fun v1 v2 W (k1:RB W v1 s) (k2:RB W v2 (ck*xk))=>rPlus_calls v1 v2 s (ck*xk) W k1 k2 (few_bd (by omega)) (few_bd (by omega)))
     have HNX:=hid hnx
     obtain ⟨Asl,nsl,csl,rfl⟩:=HK.out.sli
     have a0:=HK.out.blk.cell 0 (by simp)
     have a1:=HK.out.blk.cell 1 (by simp)
     simp only [List.getElem_cons_zero,List.getElem_cons_succ] at a0 a1
     clear hck hxk hs f1 f2 z1 z2 hnx hbt hm
     go_wp2_with fail
     refine wp_region_keys (w0:=wr) 16 [36,37,38,39,40,41,42,43,44,45,46,47,48,49,50,51]
      [leafS 36 (.agg #[.bool q,.slice Asl nsl csl]),leafS 37 (.slice (some ⟨b2,o2,none⟩) l.length ca),leafS 38 (.int .i64 i),leafS 39 (.pointer (some ⟨b2,o2+i,none⟩)),leafS 40 (.slice (some ⟨b4,o4,none⟩) (nrow l i).length cR3),leafS 41 (.int .i64 j),leafS 42 (.pointer (some ⟨b4,o4+j,none⟩)),leafS 43 (.int .i64 ck),leaf1 44 (fun v w=>RB w v ck),leafS 45 (.slice (some ⟨b5,o5,none⟩) xs.length cx),leafS 46 (.int .i64 j),leafS 47 (.pointer (some ⟨b5,o5+j,none⟩)),leafS 48 (.int .i64 xk),leaf1 49 (fun v w=>RB w v xk),leaf1 50 (fun v w=>RB w v (ck*xk)),leaf1 51 (fun v w=>RB w v (s+ck*xk))]
      [] [none,none,none,none,none,none,none,none,none,none,none,none,none,none,none,none] NoBlk (by kernel_rfl) (by kernel_rfl) (by kernel_rfl) rfl (F:=?cFm10) ?m10c1 ?m10c2 ?m10c3 ?m10c4
     case m10c1 =>
      intro x
      simp only [fullF,Act.put,List.setIfInBounds_toArray,List.set_cons_zero,List.set_cons_succ]
      rfl
     case m10c2 =>
      exact ⟨keeps_const _ _ _ _ _ _ _,keeps_const _ _ _ _ _ _ _,keeps_const _ _ _ _ _ _ _,keeps_const _ _ _ _ _ _ _,keeps_const _ _ _ _ _ _ _,keeps_const _ _ _ _ _ _ _,keeps_const _ _ _ _ _ _ _,keeps_const _ _ _ _ _ _ _,keeps_calm (calm_rb ck) _ _ _ _ _,keeps_const _ _ _ _ _ _ _,keeps_const _ _ _ _ _ _ _,keeps_const _ _ _ _ _ _ _,keeps_const _ _ _ _ _ _ _,keeps_calm (calm_rb xk) _ _ _ _ _,keeps_calm (calm_rb (ck*xk)) _ _ _ _ _,keeps_calm (calm_rb (s+ck*xk)) _ _ _ _ _,trivial⟩
     case m10c3 =>
      refine ⟨?_,?_,?_,?_,?_,?_,?_,?_,?_,?_,?_,?_,?_,?_,?_,?_,trivial⟩
      all_goals
       intro xx wq HE hd K hK
       have hc:=(bcell HE).1
       have a0':=(hc _ _ (cell_lt a0)).trans a0
       have a1':=(hc _ _ (cell_lt a1)).trans a1
       have c2':=(hc _ _ (cell_lt c2)).trans c2
       have c4':=(hc _ _ (cell_lt c4)).trans c4
       have x0':=(hc _ _ (cell_lt x0)).trans x0
       try have e0:xx 36=_:=hd 0 _ (by decide) rfl
       try have e1:xx 37=_:=hd 1 _ (by decide) rfl
       try have e2:xx 38=_:=hd 2 _ (by decide) rfl
       try have e3:xx 39=_:=hd 3 _ (by decide) rfl
       try have e4:xx 40=_:=hd 4 _ (by decide) rfl
       try have e5:xx 41=_:=hd 5 _ (by decide) rfl
       try have e6:xx 42=_:=hd 6 _ (by decide) rfl
       try have e7:xx 43=_:=hd 7 _ (by decide) rfl
       try have g8:=hd 8 _ (by decide) rfl
       try have e9:xx 45=_:=hd 9 _ (by decide) rfl
       try have e10:xx 46=_:=hd 10 _ (by decide) rfl
       try have e11:xx 47=_:=hd 11 _ (by decide) rfl
       try have e12:xx 48=_:=hd 12 _ (by decide) rfl
       try have g13:=hd 13 _ (by decide) rfl
       try have g14:=hd 14 _ (by decide) rfl
       try have g15:=hd 15 _ (by decide) rfl
       have HE:=hid HE
       have HC:=hid hc
       clear hd hc
       all_goals go_simp
       try (refine hK _ _ _ (mv_const _ rfl) ?_;dsimp only [Act.put];first|done|rfl|(simp [*];done))
      ·refine (HOP.out wq).mono ?_
       rintro e w3 ⟨v,rfl,h1,h2⟩
       exact hK _ _ _ (mv_plain h2 h1.rb rfl) (by first|(dsimp only [Act.put];done)|(dsimp only [Act.put];first|rfl|(simp [*];done)|(simp [*,ptr];done)))
      ·refine (HOX.out wq).mono ?_
       rintro e w3 ⟨v,rfl,h1,h2⟩
       exact hK _ _ _ (mv_plain h2 h1.rb rfl) (by first|(dsimp only [Act.put];done)|(dsimp only [Act.put];first|rfl|(simp [*];done)|(simp [*,ptr];done)))
      ·refine (HTM.out _ _ wq g8 g13).mono ?_
       rintro e w3 ⟨v,rfl,h1,h2⟩
       exact hK _ _ _ (mv_plain h2 h1.rb rfl) (by first|(dsimp only [Act.put];done)|(dsimp only [Act.put];first|rfl|(simp [*];done)|(simp [*,ptr];done)))
      ·refine (HPL.out _ _ wq (HK.out.num.ext HE.out) g14).mono ?_
       rintro e w3 ⟨v,rfl,h1,h2⟩
       exact hK _ _ _ (mv_plain h2 h1.rb rfl) (by first|(dsimp only [Act.put];done)|(dsimp only [Act.put];first|rfl|(simp [*];done)|(simp [*,ptr];done)))
     case m10c4 =>
      intro xx wz hE hG hA
      have e0:xx 36=_:=hG 0 _ rfl
      have e1:xx 37=_:=hG 1 _ rfl
      have e2:xx 38=_:=hG 2 _ rfl
      have e3:xx 39=_:=hG 3 _ rfl
      have e4:xx 40=_:=hG 4 _ rfl
      have e5:xx 41=_:=hG 5 _ rfl
      have e6:xx 42=_:=hG 6 _ rfl
      have e7:xx 43=_:=hG 7 _ rfl
      have g8:=hG 8 _ rfl
      have e9:xx 45=_:=hG 9 _ rfl
      have e10:xx 46=_:=hG 10 _ rfl
      have e11:xx 47=_:=hG 11 _ rfl
      have e12:xx 48=_:=hG 12 _ rfl
      have g13:=hG 13 _ rfl
      have g14:=hG 14 _ rfl
      have g15:=hG 15 _ rfl
      obtain ⟨A9,n9,e14,-⟩:=RB.form g15
      obtain ⟨q9,hq9⟩:∃ q,decide (s+ck*xk<0)=q:=⟨_,rfl⟩
      obtain ⟨l9,hl9⟩:∃ l,(T.digits (s+ck*xk).natAbs).length=l:=⟨_,rfl⟩
      rw [hq9,hl9] at e14
      have HR9:Hid (RB wz (.agg #[.bool q9,.slice A9 l9 n9]) (s+ck*xk)):=hid (by rw [←e14];exact g15)
      have HKz:=hid (HK.out.ext hE);have HBz:=hid (HBE.out.trans (hE.mono HBE.out.size))
      have y0:=HKz.out.blk.cell 0 (by simp)
      have y1:=HKz.out.blk.cell 1 (by simp)
      simp only [List.getElem_cons_zero,List.getElem_cons_succ] at y0 y1
      have fr0:=HKz.out.blk.free 0
      have fr1:=HKz.out.blk.free 1
      have hlz:=HKz.out.blk.lt
      clear hG hA hE hq9 hl9 g15 a0 a1 c2 c4 x0
      (refine tail_one (i:=16) (by kernel_rfl) rfl ?_;intro K hK;go_simp;refine hK _ _ ?_;clear hK)
      refine wpAny_done (by kernel_rfl) ?_ _
      (try simp only [Exit.inBlock,Exit.then])
      go_wp2
      go_roundw
      case rel=>exact ⟨j+1,_,_,by omega,by go_num,hid (by rw [HNX.out];exact HKz.out.put HR9.out),hid ((HBz.out.setCell (p:=⟨sp,0,none⟩) hspw _).setCell (p:=⟨sp,1,none⟩) hspw _)⟩
      case measure=>simp [intOf];omega
    ·obtain rfl:n=j:=by omega
     have hmz:meetS l b xs i n=0:=by unfold meetS;rw [HS.out i hli];omega
     have hnl:¬ ((n:Int)<(xs.length:Int)):=by rw [HXL.out];omega
     rw [hmz] at HK
     obtain ⟨Asl,nsl,csl,rfl⟩:=HK.out.sli
     have a0:=HK.out.blk.cell 0 (by simp)
     have a1:=HK.out.blk.cell 1 (by simp)
     simp only [List.getElem_cons_zero,List.getElem_cons_succ] at a0 a1
     have HZR:=hid (rzero_calls _ 0 wr HK.out.num (few_bd (by decide)))
     have hd0:decide ((0:Int)=0)=true:=rfl
     clear hmz HK
     go_wp2_with fail
     refine HZR.out.mono ?_;rintro e w5 ⟨rfl,hb5⟩
     have HB5:=hid (hbe.out.trans ((HBE.out.trans (hb5.mono HBE.out.size)).mono hbe.out.size))
     clear hb5 HZR a0 a1 hbe HBE
     go_wp2
     go_roundw
     case rel=>exact ⟨i+1,by omega,by go_num,HB5⟩
     case measure=>simp [intOf];omega
  ·obtain rfl:l.length=i:=by omega
   go_wp2
   go_ret
   exact ⟨rfl,hbe.out⟩
end
section
open Go.RowKit
open Lp (Lt V Ech pivots Gen From Least sumZ)
theorem dotN_sum (xs ys:List Int):∀ k,dotN xs ys k=sumZ k fun i=>nth xs i*nth ys i
 | 0=>rfl
 | k+1=>by unfold dotN sumZ;rw [dotN_sum xs ys k]
theorem sumZ_swap (f:Nat→Nat→Int) (n:Nat):∀ m,(sumZ m fun i=>sumZ n fun j=>f i j)=sumZ n fun j=>sumZ m fun i=>f i j
 | 0=>(sumZ_zero fun j _=>rfl).symm
 | m+1=>by
   have h:=sumZ_swap f n m
   have h2:=sumZ_lin 1 (fun j=>sumZ m fun i=>f i j) (fun j=>f m j) n
   show (sumZ m fun i=>sumZ n fun j=>f i j)+(sumZ n fun j=>f m j)=_
   rw [h,show (sumZ n fun j=>sumZ m fun i=>f i j)+(sumZ n fun j=>f m j)=(sumZ n fun j=>sumZ m fun i=>f i j)+1*(sumZ n fun j=>f m j) by omega,←h2]
   exact sumZ_congr fun j _=>by show _=(sumZ m fun i=>f i j)+f m j;omega
theorem refutes_false {l:List (List Int)} {b ys:List Int} {k d:Int} {x:V} (hx:Sol (gridF l) l.length k.toNat (nth b) x):refutesS l b k ys d=false:=by
 refine Bool.eq_false_iff.2 fun h=>?_
 unfold refutesS at h
 rw [Bool.and_eq_true,Bool.and_eq_true,Bool.and_eq_true,decide_eq_true_eq] at h
 obtain ⟨⟨⟨h1,h2⟩,h3⟩,h4⟩:=h
 obtain ⟨p1,p2,-,-⟩:=pointOk_in h2
 rw [List.all_eq_true] at h3
 refine h4 (Int.tmod_eq_zero_of_dvd ?_)
 unfold dotZ
 rw [dotN_sum,p1]
 have e:(sumZ l.length fun i=>nth ys i*nth b i)=sumZ k.toNat fun j=>x j*dotZ (clmOf l j) ys:=by
  have e1:(sumZ l.length fun i=>nth ys i*nth b i)=sumZ l.length fun i=>sumZ k.toNat fun j=>nth ys i*(gridF l i j*x j):=sumZ_congr fun i hi=>by
   rw [←hx.1 i hi,←sumZ_mul]
  rw [e1,sumZ_swap]
  refine sumZ_congr fun j hj=>?_
  unfold dotZ
  rw [dotN_sum,show (clmOf l j).length=l.length from clmTo_len _ _ _,←sumZ_mul]
  exact sumZ_congr fun i hi=>by rw [clmOf_nth _ _ _ hi];unfold gridF;grind
 rw [e]
 refine sumZ_divs fun j hj=>?_
 refine Int.dvd_trans ?_ (Int.dvd_mul_left (x j) (dotZ (clmOf l j) ys))
 have h5:=h3 (dotZ (clmOf l j) ys) (by unfold timZ;exact List.mem_map.2 ⟨j,List.mem_range.2 hj,rfl⟩)
 exact Int.dvd_of_tmod_eq_zero (of_decide_eq_true h5)
theorem refutes_true {l:List (List Int)} {b xs:List Int} {k d:Int} (hok:okS l b k=true) (h:RefPt l b k.toNat xs d):refutesS l b k xs d=true:=by
 unfold refutesS
 have h1:=h.one
 have h2:=h.most
 have hp:pointOk l.length xs d=true:=by
  unfold pointOk listOk inB
  rw [decide_eq_true h.len,decide_eq_true h1,decide_eq_true (show d≤1125899906842624 by omega)]
  simp only [Bool.true_and,List.all_eq_true,Bool.and_eq_true,decide_eq_true_eq]
  intro x hx
  obtain ⟨i,hi,rfl⟩:=List.mem_iff_getElem.1 hx
  have:=h.low i (by rw [←h.len];exact hi)
  rw [nth_lt hi] at this
  omega
 rw [hok,hp,Bool.true_and,Bool.true_and,Bool.and_eq_true,List.all_eq_true]
 refine ⟨fun x hx=>?_,decide_eq_true fun e=>h.right ?_⟩
 ·obtain ⟨j,hj,rfl⟩:=List.mem_map.1 hx
  refine decide_eq_true (Int.tmod_eq_zero_of_dvd ?_)
  have:=h.col j (List.mem_range.1 hj)
  unfold dotZ
  rw [dotN_sum,show (clmOf l j).length=l.length from clmTo_len _ _ _]
  rw [sumZ_congr (g:=fun i=>nth xs i*gridF l i j) fun i hi=>by rw [clmOf_nth _ _ _ hi];unfold gridF;grind]
  exact this
 ·have:=Int.dvd_of_tmod_eq_zero e
  unfold dotZ at this
  rw [dotN_sum,h.len] at this
  exact this
theorem normal_rows (A:Option Addr) (ca n:Nat) {rows:Lt} (hE:Ech n rows) (hR:Lp.Red rows) (hn:n≤6) (hs:∀ q r,rows q=some r→∀ c,(r c).natAbs≤4000000000000000000) (w:World) (hA:Grid w A (formL rows n)) :
 Calls Tryz.prog 39 #[.slice A (formL rows n).length ca] w fun e w'=>e=.returned (.bool true)∧Below w.heap.size w w':=by
 have hp:=piv_of hE
 have hlen:(formL rows n).length=(pivots rows n).length:=by unfold formL rowsOf;simp
 have hk:(pivots rows n).length≤6:=Nat.le_trans (pivots_le rows n) hn
 have hrow:∀ i,i<(formL rows n).length→nrow (formL rows n) i=intsTo ((rows ((pivots rows n).getD i 0)).getD fun _=>0) n n:=fun i hi=>by
  rw [hlen] at hi
  unfold nrow formL rowsOf
  simp [hi]
 have hnth:∀ q r,rows q=some r→nth (intsTo r n n)=r:=fun q r hq=>nth_ints (hE.high q r hq) (hs q r hq)
 have hat:∀ i,i<(formL rows n).length→∀ c,nth (nrow (formL rows n) i) c=((rows ((pivots rows n).getD i 0)).getD fun _=>0) c:=fun i hi c=>by
  rw [hrow i hi,hnth _ _ (hp.row i (by rw [←hlen];exact hi))]
 refine (normal_calls A ca n (formL rows n) (fun i=>(pivots rows n).getD i 0) w hA hn (by omega) (fun i hi=>by rw [hrow i hi,intsTo_len]) (fun i hi=>hE.lt _ _ (hp.row i (by omega))) (fun i hi c hc=>?_) (fun i hi=>?_) (fun i j hij hj=>?_) (fun i hi=>?_)).mono fun e w' ⟨h1,k,h2⟩=>⟨h1,by rw [h2];exact drewN_below _ _⟩
 ·rw [hat i hi];exact hE.low _ _ (hp.row i (by omega)) c hc
 ·rw [hat i hi];have:=hE.pos _ _ (hp.row i (by omega));omega
 ·rw [hat i (by omega),hat j hj]
  exact hR _ _ _ _ (hp.row j (by omega)) (hp.row i (by omega)) (hp.up i j hij (by omega))
 ·cases i with
  | zero =>
    show (-1:Int)<(((pivots rows n).getD 0 0:Nat):Int)
    omega
  | succ i =>
    have h:(pivots rows n).getD i 0<(pivots rows n).getD (i+1) 0:=hp.up i (i+1) (by omega) (by omega)
    show (((pivots rows n).getD i 0:Nat):Int)<(((pivots rows n).getD (i+1) 0:Nat):Int)
    omega
theorem formL_at {rows:Lt} {n:Nat} (hE:Ech n rows) (hs:∀ q r,rows q=some r→∀ c,(r c).natAbs≤4000000000000000000) {i:Nat} (hi:i<(formL rows n).length):∃ q r,rows q=some r∧nrow (formL rows n) i=intsTo r n n∧nth (nrow (formL rows n) i)=r:=by
 have hp:=piv_of hE
 have hlen:(formL rows n).length=(pivots rows n).length:=by unfold formL rowsOf;simp
 have h1:=hp.row i (by omega)
 have h2:nrow (formL rows n) i=intsTo ((rows ((pivots rows n).getD i 0)).getD fun _=>0) n n:=by
  rw [hlen] at hi
  unfold nrow formL rowsOf
  simp [hi]
 exact ⟨_,_,h1,h2,by rw [h2];exact nth_ints (hE.high _ _ h1) (hs _ _ h1)⟩
def flN (f:V) (n:Nat):List Int:=(List.range n).map f
theorem flN_len (f:V) (n:Nat):(flN f n).length=n:=by unfold flN;simp
theorem flN_nth {f:V} {n i:Nat} (h:i<n):nth (flN f n) i=f i:=by unfold flN nth;simp [h]
theorem flN_set {f g:V} {n j:Nat} {x:Int} (hj:j<n) (hx:g j=x) (h:∀ i,i<n→i≠j→g i=f i):(flN f n).set j x=flN g n:=by
 unfold flN
 apply List.ext_getElem (by simp)
 intro i h1 h2
 have hi:i<n:=by simpa using h2
 simp only [List.getElem_set,List.getElem_map,List.getElem_range]
 by_cases e:j=i
 ·subst e;rw [if_pos rfl];exact hx.symm
 ·rw [if_neg e];exact (h i hi (Ne.symm e)).symm
theorem flN_congr {f g:V} {n:Nat} (h:∀ i,i<n→f i=g i):flN f n=flN g n:=by
 unfold flN;exact List.map_congr_left fun i hi=>h i (List.mem_range.1 hi)
end
section
open Go.RowKit
open Lp (Lt V Ech Gen From Red pivots sumTo Feas EndFound EndEmpty EndFree)
def exL:Lt:=fun p=>if p=0 then some (nth [2,3]) else none
theorem nth23 (i:Nat):nth [2,3] i=if i=0 then 2 else if i=1 then 3 else 0:=by
 match i with
 | 0=>rfl
 | 1=>rfl
 | i+2=>rw [nth_beyond (by simp)];simp
theorem nth46 (i:Nat):nth [4,6] i=2*nth [2,3] i:=by
 match i with
 | 0=>rfl
 | 1=>rfl
 | i+2=>rw [nth_beyond (by simp),nth_beyond (by simp)];rfl
theorem nth69 (i:Nat):nth [6,9] i=3*nth [2,3] i:=by
 match i with
 | 0=>rfl
 | 1=>rfl
 | i+2=>rw [nth_beyond (by simp),nth_beyond (by simp)];rfl
theorem exL_ech:Ech 2 exL:=by
 have key:∀ p r,exL p=some r→p=0∧r=nth [2,3]:=fun p r h=>by
  unfold exL at h;split at h
  ·injection h with h;exact ⟨by assumption,h.symm⟩
  ·cases h
 refine ⟨fun p r h=>?_,fun p r h i hi=>?_,fun p r h i hi=>?_,fun p r h=>?_⟩<;>obtain ⟨rfl,rfl⟩:=key p r h
 ·omega
 ·omega
 ·rw [nth_beyond (by simpa using hi)]
 ·decide
theorem exL_red:Red exL:=fun p r q s h1 h2 h3=>by
 unfold exL at h1;split at h1
 ·omega
 ·cases h1
theorem ex_gen (x:V):Gen (From exL 0) x↔Gen (·∈[[4,6],[6,9]].map nth) x:=by
 have hg:Gen (From exL 0) (nth [2,3]):=.one ⟨0,by omega,rfl⟩
 have h1:Gen (·∈[[4,6],[6,9]].map nth) (nth [4,6]):=.one (by simp)
 have h2:Gen (·∈[[4,6],[6,9]].map nth) (nth [6,9]):=.one (by simp)
 have h3:Gen (·∈[[4,6],[6,9]].map nth) (nth [2,3]):=(h2.addMul (-1) h1).cast fun i=>by rw [nth46,nth69];omega
 constructor
 ·intro h
  induction h with
  | zero=>exact .zero
  | step v r c _ hr ih =>
    obtain ⟨q,-,hq⟩:=hr
    unfold exL at hq;split at hq
    ·injection hq with hq;subst hq;exact ih.addMul c h3
    ·cases hq
 ·intro h
  induction h with
  | zero=>exact .zero
  | step v r c _ hr ih =>
    simp only [List.map_cons,List.map_nil,List.mem_cons,List.not_mem_nil,or_false] at hr
    rcases hr with rfl|rfl
    ·exact (ih.addMul (2*c) hg).cast fun i=>by rw [nth46];rw [Int.mul_comm 2 c,Int.mul_assoc]
    ·exact (ih.addMul (3*c) hg).cast fun i=>by rw [nth69];rw [Int.mul_comm 3 c,Int.mul_assoc]
theorem ex_rows {rows:Lt} (h:Ech 2 rows) (hr:Red rows) (hg:∀ x,Gen (From rows 0) x↔Gen (·∈[[4,6],[6,9]].map nth) x):rowsOf rows 2=[nth [2,3]]:=by
 have hs:=h.same exL_ech hr exL_red (fun v=>(hg v).trans (ex_gen v).symm)
 have:rows=exL:=funext hs
 subst this
 rfl
def exA:List (List Int):=[[1,2],[3,1]]
theorem exQ:qA exA 0 0=1∧qA exA 0 1=2∧qA exA 1 0=3∧qA exA 1 1=1∧qB [4,6] 0=4∧qB [4,6] 1=6∧qB [1,1] 0=1∧qB [1,1] 1=1:=⟨rfl,rfl,rfl,rfl,rfl,rfl,rfl,rfl⟩
theorem sum2 (f:Nat→Rat):sumTo 2 f=f 0+f 1:=by simp only [sumTo];grind
theorem ex_found {x y:Nat→Rat} (h:EndFound (qA exA) (qB [4,6]) (qB [1,1]) 2 2 x y):5*x 0=8∧5*x 1=6:=by
 obtain ⟨e1,e2,e3,e4,e5,e6,e7,e8⟩:=exQ
 have g0:=h.feas.ge 0 (by omega)
 have g1:=h.feas.ge 1 (by omega)
 have n0:=h.nn 0 (by omega)
 have n1:=h.nn 1 (by omega)
 have l0:=h.le 0 (by omega)
 have l1:=h.le 1 (by omega)
 have lv:=h.level
 simp only [sum2,e1,e2,e3,e4,e5,e6,e7,e8] at g0 g1 l0 l1 lv
 generalize x 0=x0 at *
 generalize x 1=x1 at *
 generalize y 0=y0 at *
 generalize y 1=y1 at *
 clear h e1 e2 e3 e4 e5 e6 e7 e8
 have a1:4*y0+6*y1≤14 / 5:=by grind
 constructor<;>grind
theorem ex_empty {y:Nat→Rat} (h:EndEmpty (qA exA) (qB [4,6]) 2 2 y):False:=by
 obtain ⟨e1,e2,e3,e4,e5,e6,e7,e8⟩:=exQ
 have n0:=h.nn 0 (by omega)
 have n1:=h.nn 1 (by omega)
 have l0:=h.le 0 (by omega)
 have l1:=h.le 1 (by omega)
 have ps:=h.pos
 simp only [sum2,e1,e2,e3,e4,e5,e6] at l0 l1 ps
 generalize y 0=y0 at *
 generalize y 1=y1 at *
 grind
theorem ex_free {x:Nat→Rat} (h:EndFree (qA exA) (qB [4,6]) (qB [1,1]) 2 2 x):False:=by
 obtain ⟨e1,e2,e3,e4,e5,e6,e7,e8⟩:=exQ
 have n0:=h.nn 0 (by omega)
 have n1:=h.nn 1 (by omega)
 have fl:=h.falls
 simp only [sum2,e7,e8] at fl
 generalize x 0=x0 at *
 generalize x 1=x1 at *
 grind
theorem ex_point {xs:List Int} {d:Int} {x:Nat→Rat} (h:PtOf xs d 2 x) (h0:5*x 0=8) (h1:5*x 1=6):xs=[8,6]∧d=5:=by
 have v0:=h.val 0 (by omega)
 have v1:=h.val 1 (by omega)
 have hl:=h.len
 match xs,hl with
 | [a,b],_ =>
   have e0:nth [a,b] 0=a:=rfl
   have e1:nth [a,b] 1=b:=rfl
   rw [e0] at v0;rw [e1] at v1
   have i0:5*a=8*d:=by
    have:((5*a:Int):Rat)=((8*d:Int):Rat):=by rw [Rat.intCast_mul,Rat.intCast_mul,v0];grind
    exact Rat.intCast_inj.1 this
   have i1:5*b=6*d:=by
    have:((5*b:Int):Rat)=((6*d:Int):Rat):=by rw [Rat.intCast_mul,Rat.intCast_mul,v1];grind
    exact Rat.intCast_inj.1 this
   have hd:=h.d1
   obtain ⟨k,hk⟩:∃ k:Nat,d=5*(k:Int):=⟨(d / 5).toNat,by omega⟩
   have ha:a=8*(k:Int):=by omega
   have hb:b=6*(k:Int):=by omega
   have hlow:=h.low
   have hk1:k ∣ gcdN d [a,b] 2:=by
    have q0:(nth [a,b] 0).natAbs=8*k:=by rw [e0,ha];omega
    have q1:(nth [a,b] 1).natAbs=6*k:=by rw [e1,hb];omega
    simp only [gcdN]
    rw [q0,q1]
    exact Nat.dvd_gcd (Nat.dvd_gcd ⟨5,by rw [hk];omega⟩ ⟨8,by omega⟩) ⟨6,by omega⟩
   rw [hlow] at hk1
   have:k=1:=Nat.dvd_one.1 hk1
   subst this
   exact ⟨by rw [ha,hb];rfl,by omega⟩
end
section
open Go.RowKit
open Lp (Lt V Ech Gen From Red pivots EndFound)
theorem ints2 {w:World} {g:Nat} {a b:Int} {T:TypeId} (h:Blk w g [.int .i64 a,.int .i64 b] T):Ints w (some ⟨g,0,none⟩) [a,b]:=fun i hi=>by
 refine ⟨g,0,rfl,?_⟩
 rw [Nat.zero_add]
 have h1:i=0∨i=1:=by simp at hi;omega
 rcases h1 with rfl|rfl
 ·exact h.cell 0 (by simp)
 ·exact h.cell 1 (by simp)
theorem grid2 {w:World} {g g0 g1:Nat} {T:TypeId} {a b c d:Int} {T0 T1:TypeId} (h:Blk w g [.slice (some ⟨g0,0,none⟩) 2 2,.slice (some ⟨g1,0,none⟩) 2 2] T) (h0:Blk w g0 [.int .i64 a,.int .i64 b] T0) (h1:Blk w g1 [.int .i64 c,.int .i64 d] T1) :
 Grid w (some ⟨g,0,none⟩) [[a,b],[c,d]]:=fun i hi=>by
 have h3:i=0∨i=1:=by simp at hi;omega
 rcases h3 with rfl|rfl
 ·exact ⟨g,0,_,2,rfl,by rw [Nat.zero_add];exact h.cell 0 (by simp),Nat.le_refl _,ints2 h0⟩
 ·exact ⟨g,0,_,2,rfl,by rw [Nat.zero_add];exact h.cell 1 (by simp),Nat.le_refl _,ints2 h1⟩
theorem ex_hermite {w w':World} {v:Value} {rows:Lt} (h:HermiteV w w' v [[4,6],[6,9]] 2 rows):∃ gr c g,v=.slice (some ⟨gr,0,none⟩) 1 c∧w'.cell? ⟨gr,0,none⟩=some (.slice (some ⟨g,0,none⟩) 2 2)∧IBlk w' g [2,3]:=by
 have hr:=ex_rows h.ech h.red h.gen
 have hg:=h.grid
 rw [hr] at hg
 obtain ⟨gs,h1,h2,-,h3⟩:=hg.ex
 match gs,h1 with
 | [g],_ =>
   obtain ⟨hf,_,hI⟩:=h3 0 (by simp)
   rcases h2.2 with ⟨-,h0⟩|⟨gr,cap,cur,rfl,_⟩
   ·simp at h0
   ·have hI2:IBlk w' g (intsTo (nth [2,3]) 2 2):=hI
    rw [show intsTo (nth [2,3]) 2 2=[2,3] by
     show [wrap64 (nth [2,3] 0),wrap64 (nth [2,3] 1)]=[2,3]
     rw [wrap64_small (by decide),wrap64_small (by decide)];rfl] at hI2
    refine ⟨gr,cap,g,rfl,?_,hI2⟩
    rw [h2.cellAt 0 (by simp)];rfl
set_option maxRecDepth 100000 in
set_option maxHeartbeats 4000000 in
theorem alive_calls (w:World) (hc:TabOk 0 costsO w) :
 Calls Tryz.prog 15 #[] w fun e w'=>e=.returned (.bool true)∧Below w.heap.size w w':=by
 obtain ⟨g0,hg0⟩:∃ g0,w.heap.size=g0:=⟨_,rfl⟩
 obtain ⟨wa,hwa⟩:∃ wa,w.alloc (.cells #[.int .i64 4,.int .i64 6] 3 (0,0))=wa:=⟨_,rfl⟩
 obtain ⟨wb,hwb⟩:∃ wb,wa.alloc (.cells #[.int .i64 6,.int .i64 9] 3 (0,0))=wb:=⟨_,rfl⟩
 obtain ⟨wc,hwc⟩:∃ wc,wb.alloc (.cells #[.slice (some ⟨g0,0,none⟩) 2 2,.slice (some ⟨g0+1,0,none⟩) 2 2] 23 (0,0))=wc:=⟨_,rfl⟩
 have sa:wa.heap.size=g0+1:=by rw [←hwa];simp [hg0]
 have sb:wb.heap.size=g0+1+1:=by rw [←hwb];simp [sa]
 have ba:Blk wa g0 [.int .i64 4,.int .i64 6] 3:=by rw [←hwa,←hg0];exact Blk.new _ _ _
 have bb:Blk wb (g0+1) [.int .i64 6,.int .i64 9] 3:=by rw [←hwb,←sa];exact Blk.new _ _ _
 have bc:Blk wc (g0+1+1) [.slice (some ⟨g0,0,none⟩) 2 2,.slice (some ⟨g0+1,0,none⟩) 2 2] 23:=by rw [←hwc,←sb];exact Blk.new _ _ _
 have eb:Below wa.heap.size wa wb:=by rw [←hwb];exact (Below.refl _ _).alloc (Nat.le_refl _) _
 have ec:Below wb.heap.size wb wc:=by rw [←hwc];exact (Below.refl _ _).alloc (Nat.le_refl _) _
 have ea:Below w.heap.size w wa:=by rw [←hwa];exact (Below.refl _ _).alloc (Nat.le_refl _) _
 have e3:Below w.heap.size w wc:=(ea.trans (eb.mono (by omega))).trans (ec.mono (by omega))
 have hgr:=grid2 bc ((ba.ext eb).ext ec) (bb.ext ec)
 have hh:Calls Tryz.prog 31 #[.slice (some ⟨g0+1+1,0,none⟩) 2 2,.int .i64 2] wc fun e w'=>∃ v rows,e=.returned (.tuple #[v,.int .i64 0])∧HermiteV wc w' v [[4,6],[6,9]] 2 rows:=hermite_good _ 2 2 [[4,6],[6,9]] wc hgr (by decide)
 have HH:=hid hh;have HE3:=hid e3;have HC:=hid hc
 clear hh hgr ba bb bc eb ec ea e3 hc
 have HW:=hid (And.intro hwa (And.intro hwb hwc));have HS:=hid (And.intro sa sb)
 have HG:=hid hg0
 clear hwa hwb hwc sa sb hg0
 go_enter Tryz.func15,Tryz.ntmps15
 go_wp2_with fail
 rw [HG.out,HW.out.1,HW.out.2.1,HW.out.2.2]
 refine HH.out.mono ?_;rintro e w1 ⟨v,rows,rfl,hv⟩
 obtain ⟨gr,cr,g,rfl,hgc,hgi⟩:=ex_hermite hv
 have HB1:=hid (HE3.out.trans (hv.below.mono HE3.out.size));have HGC:=hid hgc;have HGI:=hid hgi
 clear hv hgc hgi HH HW HS HG
 obtain ⟨k0,hk0⟩:∃ k0,w1.heap.size=k0:=⟨_,rfl⟩
 obtain ⟨va,hva⟩:∃ va,w1.alloc (.cells #[.int .i64 1,.int .i64 2] 3 (0,0))=va:=⟨_,rfl⟩
 obtain ⟨vb,hvb⟩:∃ vb,va.alloc (.cells #[.int .i64 3,.int .i64 1] 3 (0,0))=vb:=⟨_,rfl⟩
 obtain ⟨vc,hvc⟩:∃ vc,vb.alloc (.cells #[.slice (some ⟨k0,0,none⟩) 2 2,.slice (some ⟨k0+1,0,none⟩) 2 2] 23 (0,0))=vc:=⟨_,rfl⟩
 obtain ⟨vd,hvd⟩:∃ vd,vc.alloc (.cells #[.int .i64 4,.int .i64 6] 3 (0,0))=vd:=⟨_,rfl⟩
 obtain ⟨ve,hve⟩:∃ ve,vd.alloc (.cells #[.int .i64 1,.int .i64 1] 3 (0,0))=ve:=⟨_,rfl⟩
 have sa:va.heap.size=k0+1:=by rw [←hva];simp [hk0]
 have sb:vb.heap.size=k0+1+1:=by rw [←hvb];simp [sa]
 have sc:vc.heap.size=k0+1+1+1:=by rw [←hvc];simp [sb]
 have sd:vd.heap.size=k0+1+1+1+1:=by rw [←hvd];simp [sc]
 have ba:Blk va k0 [.int .i64 1,.int .i64 2] 3:=by rw [←hva,←hk0];exact Blk.new _ _ _
 have bb:Blk vb (k0+1) [.int .i64 3,.int .i64 1] 3:=by rw [←hvb,←sa];exact Blk.new _ _ _
 have bc:Blk vc (k0+1+1) [.slice (some ⟨k0,0,none⟩) 2 2,.slice (some ⟨k0+1,0,none⟩) 2 2] 23:=by rw [←hvc,←sb];exact Blk.new _ _ _
 have bd:Blk vd (k0+1+1+1) [.int .i64 4,.int .i64 6] 3:=by rw [←hvd,←sc];exact Blk.new _ _ _
 have be:Blk ve (k0+1+1+1+1) [.int .i64 1,.int .i64 1] 3:=by rw [←hve,←sd];exact Blk.new _ _ _
 have ea:Below w1.heap.size w1 va:=by rw [←hva];exact (Below.refl _ _).alloc (Nat.le_refl _) _
 have eb:Below va.heap.size va vb:=by rw [←hvb];exact (Below.refl _ _).alloc (Nat.le_refl _) _
 have ec:Below vb.heap.size vb vc:=by rw [←hvc];exact (Below.refl _ _).alloc (Nat.le_refl _) _
 have ed:Below vc.heap.size vc vd:=by rw [←hvd];exact (Below.refl _ _).alloc (Nat.le_refl _) _
 have ee:Below vd.heap.size vd ve:=by rw [←hve];exact (Below.refl _ _).alloc (Nat.le_refl _) _
 have e15:Below w1.heap.size w1 ve:=(((ea.trans (eb.mono (by omega))).trans (ec.mono (by omega))).trans (ed.mono (by omega))).trans (ee.mono (by omega))
 have hgr:=grid2 ((bc.ext ed).ext ee) ((((ba.ext eb).ext ec).ext ed).ext ee) (((bb.ext ec).ext ed).ext ee)
 have hp3:Prog3 ve (some ⟨k0+1+1,0,none⟩) (some ⟨k0+1+1+1,0,none⟩) (some ⟨k0+1+1+1+1,0,none⟩) exA [4,6] [1,1]:=⟨hgr,ints2 (bd.ext ee),ints2 be,by decide,by decide,by decide,by decide⟩
 have hmin:Calls Tryz.prog 16 #[.agg #[.slice (some ⟨k0+1+1,0,none⟩) 2 2,.slice (some ⟨k0+1+1+1,0,none⟩) 2 2,.slice (some ⟨k0+1+1+1+1,0,none⟩) 2 2]] ve fun e w'=>OfPost exA [4,6] [1,1] 0 costsO true ve w' e∧Below ve.heap.size ve w' :=
  minimum_calls _ _ _ 2 2 2 exA [4,6] [1,1] ve hp3 (HC.out.ext (HB1.out.trans (e15.mono HB1.out.size)))
 have HM:=hid hmin
 have HB2:=hid (HB1.out.trans (e15.mono HB1.out.size));have HGC2:=hid (((bcell e15).1 _ _ (cell_lt HGC.out)).trans HGC.out);have HGI2:=hid (Blk.ext HGI.out e15)
 clear hp3 hmin hgr ba bb bc bd be ea eb ec ed ee e15 sa sb sc sd HB1 HGC HGI HE3 HC
 have HV:=hid (And.intro hva (And.intro hvb (And.intro hvc (And.intro hvd hve))));have HK:=hid hk0
 clear hva hvb hvc hvd hve hk0
 go_wp2_with fail
 rw [HK.out,HV.out.1,HV.out.2.1,HV.out.2.2.1,HV.out.2.2.2.1,HV.out.2.2.2.2]
 refine HM.out.mono ?_;rintro e w2 ⟨hpost,hb2⟩
 obtain ⟨pg,rfl,hpi⟩:∃ pg,e=.returned (.tuple #[.agg #[.slice (some ⟨pg,0,none⟩) 2 2,.int .i64 5],.int .i64 0])∧IBlk w2 pg [8,6]:=by
  rcases hpost with ⟨h1,-⟩|⟨-,s,x,y,hs3,hq,h5⟩
  ·exact absurd h1 (by decide)
  ·have hs0:s=0∧EndFound (qA exA) (qB [4,6]) (qB [1,1]) 2 2 x y:=by
    rcases hq with ⟨e,h,-⟩|⟨-,h,-⟩|⟨-,h,-⟩
    ·exact ⟨e,h⟩
    ·exact (ex_empty h).elim
    ·exact (ex_free h).elim
   obtain ⟨rfl,hf⟩:=hs0
   obtain ⟨x0,x1⟩:=ex_found hf
   rcases h5 with ⟨h5,-⟩|⟨-,pg,xs,d,h6,-,h8,h9⟩
   ·exact absurd rfl h5
   ·obtain ⟨rfl,rfl⟩:=ex_point h9 x0 x1
    exact ⟨pg,h6,h8⟩
 have HB3:=hid (HB2.out.trans (hb2.mono HB2.out.size));have HGC3:=hid (((bcell hb2).1 _ _ (cell_lt HGC2.out)).trans HGC2.out);have HGI3:=hid (Blk.ext HGI2.out hb2);have HPI:=hid hpi
 clear hpost hb2 hpi HM HV HK HB2 HGC2 HGI2
 have HGG:=hid (IBlk.ints (show IBlk w2 g [2,3] from HGI3.out));have HPP:=hid (HPI.out.ints)
 have hgc:=HGC3.out
 have hA1:Below w2.heap.size w2 (w2.alloc (.cells #[.slice (some ⟨pg,0,none⟩) 2 2,.int .i64 5] 29 (0,0))):=(Below.refl _ _).alloc (Nat.le_refl _) _
 obtain ⟨w3,hw3⟩:∃ w3,w2.alloc (.cells #[.slice (some ⟨pg,0,none⟩) 2 2,.int .i64 5] 29 (0,0))=w3:=⟨_,rfl⟩
 rw [hw3] at hA1
 have bp:Blk w3 w2.heap.size [.slice (some ⟨pg,0,none⟩) 2 2,.int .i64 5] 29:=by rw [←hw3];exact Blk.new _ _ _
 obtain ⟨w4,hw4⟩:∃ w4,w3.alloc (.cells #[.int .i64 2,.int .i64 3] 3 (0,0))=w4:=⟨_,rfl⟩
 have hA2:Below w3.heap.size w3 w4:=by rw [←hw4];exact (Below.refl _ _).alloc (Nat.le_refl _) _
 have b23:Blk w4 w3.heap.size [.int .i64 2,.int .i64 3] 3:=by rw [←hw4];exact Blk.new _ _ _
 have hsame:Calls Tryz.prog 36 #[.slice (some ⟨g,0,none⟩) 2 2,.slice (some ⟨w3.heap.size,0,none⟩) 2 2] w4 fun e w'=>e=.returned (.bool (sameB [2,3] [2,3]))∧∃ k,w'=w4.drewN k:=same_calls _ _ 2 2 [2,3] [2,3] w4 (by decide) (by decide) ((HGG.out.ext hA1).ext hA2) (ints2 b23)
 rw [show sameB [2,3] [2,3]=true by decide] at hsame
 have HS1:=hid hsame
 have hgc3:=((bcell hA1).1 _ _ (cell_lt hgc)).trans hgc
 have HW3:=hid hw3;have HW4:=hid hw4;have HA1:=hid hA1;have HA2:=hid hA2;have HBP:=hid bp
 rw [←hw3] at hgc3
 clear hgc hA1 hA2 bp b23 hsame hw3 hw4
 have hsz3:w2.heap.size+1=w3.heap.size:=by rw [←HW3.out];simp
 go_wp2_with fail
 rw [HW3.out,HW4.out]
 refine HS1.out.mono ?_;rintro e w5 ⟨rfl,kd,hw5⟩
 have e45:Below w4.heap.size w4 w5:=by rw [hw5];exact drewN_below _ _
 have bp5:=(HBP.out.ext HA2.out).ext e45
 obtain ⟨pp,hpp⟩:∃ pp,w2.heap.size=pp:=⟨_,rfl⟩
 rw [hpp] at bp5 ⊢
 have c0:=bp5.cell 0 (by simp)
 have c1:=bp5.cell 1 (by simp)
 simp only [List.getElem_cons_zero,List.getElem_cons_succ] at c0 c1
 have e25:Below w2.heap.size w2 w5:=(HA1.out.trans (HA2.out.mono HA1.out.size)).trans (e45.mono (by have:=HA1.out.size;have:=HA2.out.size;omega))
 obtain ⟨w6,hw6⟩:∃ w6,w5.alloc (.cells #[.int .i64 8,.int .i64 6] 3 (0,0))=w6:=⟨_,rfl⟩
 have hA6:Below w5.heap.size w5 w6:=by rw [←hw6];exact (Below.refl _ _).alloc (Nat.le_refl _) _
 have b86:Blk w6 w5.heap.size [.int .i64 8,.int .i64 6] 3:=by rw [←hw6];exact Blk.new _ _ _
 have hsame:Calls Tryz.prog 36 #[.slice (some ⟨pg,0,none⟩) 2 2,.slice (some ⟨w5.heap.size,0,none⟩) 2 2] w6 fun e w'=>e=.returned (.bool (sameB [8,6] [8,6]))∧∃ k,w'=w6.drewN k:=same_calls _ _ 2 2 [8,6] [8,6] w6 (by decide) (by decide) ((HPP.out.ext e25).ext hA6) (ints2 b86)
 rw [show sameB [8,6] [8,6]=true by decide] at hsame
 have HS2:=hid hsame
 have HB6:=hid ((HB3.out.trans (e25.mono HB3.out.size)).trans (hA6.mono (by have:=HB3.out.size;have:=e25.size;omega)))
 have HW6:=hid hw6
 clear hw5 e45 bp5 hpp e25 hA6 b86 hsame hgc3 hsz3 HS1 hw6
 go_wp2_with fail
 rw [HW6.out]
 refine HS2.out.mono ?_;rintro e w7 ⟨rfl,kd2,hw7⟩
 have HB7:Hid (Below w.heap.size w w7):=hid (by rw [hw7];exact HB6.out.trans ((drewN_below w6 kd2).mono HB6.out.size))
 clear hw7 c0 c1
 go_wp2
 go_ret
 exact ⟨rfl,HB7.out⟩
end
end Go.Proofs.YtkljafmdbajfeaaGreatDoor
