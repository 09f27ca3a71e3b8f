/- exact.Clear: rational numbers over one divisor. -/
import Derived.Test.YtkljafmdbajfeaaGreatDoorNoH10
import Derived.Test.YtkljafmdbajfeaaGreatDoorNoH35
namespace Go.Proofs.YtkljafmdbajfeaaGreatDoor
set_option linter.unusedVariables false
set_option linter.unusedSimpArgs false
open Go.Lib (hid)
section
open Go.RowKit Go.ChangeMaps
open Lp (IsI)
def lcmD (q:Nat→Rat):Nat→Nat
 | 0=>1
 | k+1=>Nat.lcm (lcmD q k) (q k).den
theorem lcmD_pos (q:Nat→Rat):∀ k,0<lcmD q k
 | 0=>by simp [lcmD]
 | k+1=>Nat.lcm_pos (lcmD_pos q k) (q k).den_pos
theorem den_lcmD (q:Nat→Rat):∀ {k i:Nat},i<k→(q i).den ∣ lcmD q k
 | k+1,i,h=>by
   simp only [lcmD]
   rcases Nat.lt_or_ge i k with h1|h1
   ·exact Nat.dvd_trans (den_lcmD q h1) (Nat.dvd_lcm_left _ _)
   ·obtain rfl:i=k:=by omega
    exact Nat.dvd_lcm_right _ _
theorem mdn (x:Rat):x*(x.den:Rat)=(x.num:Rat):=by
 have h:(x.num:Rat) / (x.den:Rat)=x:=by rw [←Rat.mkRat_eq_div,Rat.mkRat_self]
 have h0:(x.den:Rat)≠0:=by
  intro e;exact x.den_nz (Rat.natCast_inj.1 (show ((x.den:Nat):Rat)=((0:Nat):Rat) from e))
 have h2:(x.num:Rat) / (x.den:Rat)*(x.den:Rat)=(x.num:Rat):=Rat.div_mul_cancel h0
 rw [h] at h2;exact h2
theorem den_dvd {D K:Nat} {x:Rat} (h:IsI ((D:Rat)*x) K):x.den ∣ D:=by
 obtain ⟨z,hz,-⟩:=h
 have h1:(x.num:Rat)*(D:Rat)=(z:Rat)*(x.den:Rat):=by
  have h2:x*(x.den:Rat)=(x.num:Rat):=mdn x
  have:(z:Rat)*(x.den:Rat)=(D:Rat)*(x*(x.den:Rat)):=by rw [←hz];grind
  rw [this,h2];grind
 have h3:x.num*(D:Int)=z*(x.den:Int):=by
  have e1:((x.num*(D:Int):Int):Rat)=((z*(x.den:Int):Int):Rat):=by
   rw [Rat.intCast_mul,Rat.intCast_mul,Rat.intCast_natCast,Rat.intCast_natCast];exact h1
  exact Rat.intCast_inj.1 e1
 have h4:(x.den:Int) ∣ x.num*(D:Int):=⟨z,by rw [h3,Int.mul_comm]⟩
 have h5:x.den ∣ x.num.natAbs*D:=by
  have:=Int.natAbs_dvd_natAbs.2 h4
  rw [Int.natAbs_natCast,Int.natAbs_mul,Int.natAbs_natCast] at this;exact this
 exact (Nat.Coprime.dvd_of_dvd_mul_left x.reduced.symm h5)
theorem lcmD_dvd {q:Nat→Rat} {D:Nat}:∀ {k:Nat},(∀ i,i<k→(q i).den ∣ D)→lcmD q k ∣ D
 | 0,_=>Nat.one_dvd _
 | k+1,h=>Nat.lcm_dvd (lcmD_dvd fun i hi=>h i (by omega)) (h k (by omega))
def numD (q:Nat→Rat) (n i:Nat):Int:=(q i).num*((lcmD q n / (q i).den:Nat):Int)
theorem numD_eq {q:Nat→Rat} {n i:Nat} (hi:i<n):((numD q n i:Int):Rat)=q i*(lcmD q n:Rat):=by
 obtain ⟨k,hk⟩:=den_lcmD q hi
 have hp:=(q i).den_pos
 unfold numD
 rw [hk,Nat.mul_div_cancel_left _ hp,Rat.intCast_mul,Rat.intCast_natCast,Rat.natCast_mul]
 have h2:q i*((q i).den:Rat)=((q i).num:Rat):=mdn (q i)
 rw [←h2];grind
theorem lcm_quo (a d:Nat):(a:Int)*((d:Int).tdiv (Nat.gcd a d:Nat))=(Nat.lcm a d:Nat):=by
 rw [←Int.ofNat_tdiv,←Int.natCast_mul]
 congr 1
 unfold Nat.lcm
 rw [Nat.mul_div_assoc _ (Nat.gcd_dvd_right a d)]
set_option maxRecDepth 100000 in
set_option maxHeartbeats 2000000 in
theorem gcdNil_calls (p q r:Nat) (a b:Int) (w:World) (hp:IntBlk w p) (hx:BigP w q a) (hy:BigP w r b) (wa:Wide a) (wb:Wide b) :
 Calls Tryz.prog 172 #[.pointer (some ⟨p,0,none⟩),.pointer none,.pointer none,.pointer (some ⟨q,0,none⟩),.pointer (some ⟨r,0,none⟩)] w fun e w'=>e=.returned (.pointer (some ⟨p,0,none⟩))∧BigP w' p (Nat.gcd a.natAbs b.natAbs:Nat)∧But p w w':=by
 obtain ⟨-,v,hb0,hb1,hv⟩:=id hx
 obtain ⟨-,u,hd0,hd1,hu⟩:=id hy
 have c1:w.cell? ⟨q,1,none⟩=some v:=hb1
 have d1:w.cell? ⟨r,1,none⟩=some u:=hd1
 have HV:=hid hv;have HU:=hid hu;have HP:=hid hp
 have ql:=hx.lt
 have rl:=hy.lt
 clear hb0 hb1 hd0 hd1 hv hu hx hy hp
 go_enter Tryz.func172,Tryz.ntmps172
 go_wp2_with fail
 refine wp_region_kc (w0:=w) 10 [23,24,25,26,27,28,29,30,31,32]
  [.c (.pointer (some ⟨p,0,none⟩)),.c (.pointer (some ⟨q,0,none⟩)),.c (.pointer (some ⟨q,0,none⟩)),.c (.pointer (some ⟨q,1,none⟩)),.c v,.c (.pointer (some ⟨r,0,none⟩)),.c (.pointer (some ⟨r,0,none⟩)),.c (.pointer (some ⟨r,1,none⟩)),.c u,.l none (leaf1 · (fun v w=>WSl w v (Nat.gcd a.natAbs b.natAbs)))]
  [] IntBlk (by kernel_rfl) (by kernel_rfl) (by kernel_rfl) rfl (F:=?cFr2) ?r2c1 ?r2c2 ?r2c3 ?r2c4
 case r2c1 =>
  intro x
  simp only [fullC,Act.put,List.setIfInBounds_toArray,List.set_cons_zero,List.set_cons_succ]
  rfl
 case r2c2 =>
  exact ⟨keeps_calm (calm_words _) _ _ _ _ _,trivial⟩
 case r2c3 =>
  refine ⟨?_,?_,?_,?_,?_,?_,?_,?_,?_,?_,trivial⟩
  all_goals
   intro xx wq HE hd K hK
   have hc:=(bcell HE).1
   have c1':=(hc _ _ (cell_lt c1)).trans c1
   have d1':=(hc _ _ (cell_lt d1)).trans d1
   try have g9:=hd 9 _ (by decide) rfl
   have HE:=hid HE
   have HC:=hid hc
   clear hd hc
   all_goals go_simp
   try (refine hK _ _ _ (mv_const _ rfl) ?_;dsimp only [Act.put];first|done|rfl|(simp [*];done))
  ·refine (common_calls v u a.natAbs b.natAbs _ wa wb (HV.out.ext HE.out) (HU.out.ext HE.out)).mono ?_
   rintro e w2 ⟨v2,rfl,hv2,hb2⟩
   exact hK _ _ _ (mv_plain hb2 hv2 rfl) (by first|(dsimp only [Act.put];done)|(dsimp only [Act.put];first|rfl|(simp [*];done)|(simp [*,ptr];done)))
 case r2c4 =>
  intro xx wz hE hG hA
  have g9:=hG 9 _ rfl
  have HE:=hid hE;have HG:=hid g9
  clear hG hA hE g9
  refine tail_one (i:=10) (by kernel_rfl) rfl ?_
  intro K hK
  go_simp
  refine (set_z p false _ (Nat.gcd a.natAbs b.natAbs) ((Nat.gcd a.natAbs b.natAbs:Nat):Int) wz (HP.out.ext HE.out) HG.out (by simp) (by simp)).mono ?_;rintro e w2 ⟨rfl,hz2,hb2⟩
  refine hK _ _ ?_
  have HZ2:=hid hz2;have HB2:=hid (((But.refl p w).ext HE.out).trans hb2)
  clear hK hz2 hb2
  (refine tail_one (i:=11) (by kernel_rfl) rfl ?_;intro K hK;go_simp;refine hK _ _ ?_;clear hK)
  refine wpAny_done (by kernel_rfl) ?_ _
  go_wp2
  go_ret
  exact ⟨rfl,HZ2.out,HB2.out⟩
set_option maxRecDepth 100000 in
set_option maxHeartbeats 4000000 in
theorem clear_calls (v:Value) (n D:Nat) (q:Nat→Rat) (w:World) (hv:RatsX w v n q) (hn:n≤1000) (hD0:0<D) (hD:D≤524880000000) (hi:∀ i,i<n→IsI ((D:Rat)*q i) 104976000000000) (sq:∀ i,i<n→Sq 10 (q i)) :
 Calls Tryz.prog 170 #[v] w fun e w'=>∃ g p,e=.returned (.tuple #[.slice (some ⟨g,0,none⟩) n n,.pointer (some ⟨p,0,none⟩)])∧OwnV w' g n n (numD q n)∧BigP w' p (lcmD q n:Nat)∧Below w.heap.size w w':=by
 obtain ⟨A,c,rfl,-⟩:=id hv
 have LB:Hid (∀ k,k≤n→lcmD q k≤524880000000):=hid fun k hk=>Nat.le_trans (Nat.le_of_dvd hD0 (lcmD_dvd fun i hi'=>den_dvd (hi i (by omega)))) hD
 have WN:Hid (∀ i,i<n→Wide (q i).num):=hid fun i hi'=>(sq i hi').wn
 have DB:Hid (∀ i,i<n→(q i).den≤524880000000):=hid fun i hi'=>Nat.le_trans (Nat.le_of_dvd hD0 (den_dvd (hi i hi'))) hD
 have HV:=hid hv
 have hmk:=fun w=>run_makeVec w n (by omega)
 clear hv hi sq hD hD0
 have HNE:=hid (newInt_calls 1 w (by omega) (by omega))
 go_enter Tryz.func170,Tryz.ntmps170
 go_wp2_with fail
 refine HNE.out.mono ?_;rintro e w1 ⟨dp,rfl,hdp,hz1,hb1⟩
 have HZ1:Hid (BigP w1 dp (lcmD q 0:Nat)):=hid hz1
 have HB1:=hid hb1
 have hdpl:w.heap.size≤dp:=hdp
 clear hz1 hb1 HNE hdp
 go_wp2_with fail
 go_loopw [14] (fun ti wr=>∃ (i:Nat),i≤n∧ti=.int .i64 i∧Hid (BigP wr dp (lcmD q i:Nat))∧Hid (Below w.heap.size w wr)) (fun ti _=>n-(intOf ti).toNat)
 case atStart=>exact ⟨0,Nat.zero_le _,rfl,HZ1,HB1⟩
 case round =>
  clear HZ1 HB1
  obtain ⟨i,hi,rfl,hZ,hbe⟩:=hrel
  by_cases hlt:i<n
  ·have hi1:(i:Int)<n:=by omega
   obtain ⟨a,o,p,rfl,q1,hzp⟩:=(HV.out.ext hbe.out).at hlt
   have hA1:Below wr.heap.size wr (wr.alloc (.cells #[.bool false,.slice none 0 0] 196 (0,0))):=(Below.refl _ _).alloc (Nat.le_refl _) _
   have hn1:IntBlk (wr.alloc (.cells #[.bool false,.slice none 0 0] 196 (0,0))) wr.heap.size:=IntBlk.of (Blk.new _ [.bool false,.slice none 0 0] _)
   have HDN:=hid (denom_calls p (q i) _ (hzp.ext hA1))
   have HZP:=hid hzp;have HA1:=hid hA1;have HN1:=hid hn1
   have wl:Hid (Wide (lcmD q i:Nat)):=hid (wide_small (by have:=LB.out i (by omega);omega))
   have wd:Hid (Wide ((q i).den:Nat)):=hid (wide_small (by have:=DB.out i hlt;omega))
   clear hzp hA1 hn1
   go_wp2_with fail
   refine HDN.out.mono ?_;rintro e w2 ⟨d1,rfl,hd1,hzd,hb2⟩
   have hB2:Below wr.heap.size wr w2:=HA1.out.trans (hb2.mono HA1.out.size)
   have HGC:=hid (gcdNil_calls wr.heap.size dp d1 _ _ w2 (HN1.out.ext hb2) (hZ.out.ext hB2) hzd wl.out wd.out)
   have HB2:=hid hB2
   clear hzd hb2 hB2 HDN HA1 HN1
   go_wp2_with fail
   refine HGC.out.mono ?_;rintro e w3 ⟨rfl,hz3,hb3⟩
   simp only [Int.natAbs_natCast] at hz3
   have hB3:Below wr.heap.size wr w3:=HB2.out.trans (hb3.below (Nat.le_refl _) HB2.out.size)
   have HZ3:=hid hz3;have HB3:=hid hB3
   obtain ⟨gp,hgp⟩:∃ gp,wr.heap.size=gp:=⟨_,rfl⟩
   rw [hgp] at HZ3 ⊢
   clear hz3 hb3 hB3 HGC HB2
   have hA3:Below w3.heap.size w3 (w3.alloc (.cells #[.bool false,.slice none 0 0] 196 (0,0))):=(Below.refl _ _).alloc (Nat.le_refl _) _
   have hn3:IntBlk (w3.alloc (.cells #[.bool false,.slice none 0 0] 196 (0,0))) w3.heap.size:=IntBlk.of (Blk.new _ [.bool false,.slice none 0 0] _)
   have HDN:=hid (denom_calls p (q i) _ ((HZP.out.ext HB3.out).ext hA3))
   have HA3:=hid hA3;have HN3:=hid hn3
   clear hA3 hn3
   go_wp2_with fail
   refine HDN.out.mono ?_;rintro e w4 ⟨d2,rfl,hd2,hzd,hb4⟩
   have hB4:Below w3.heap.size w3 w4:=HA3.out.trans (hb4.mono HA3.out.size)
   have hg0:((Nat.gcd (lcmD q i) (q i).den:Nat):Int)≠0:=by
    have:=Nat.gcd_pos_of_pos_left (q i).den (lcmD_pos q i)
    omega
   have wg:Wide ((Nat.gcd (lcmD q i) (q i).den:Nat):Int):=wide_small (by
    have:=Nat.le_of_dvd (lcmD_pos q i) (Nat.gcd_dvd_left (lcmD q i) (q i).den)
    have:=LB.out i (by omega)
    rw [Int.natAbs_natCast];omega)
   have HQU:=hid (quo_calls w3.heap.size d2 gp _ _ w4 (HN3.out.ext hb4) hzd (HZ3.out.ext hB4) hg0 wd.out wg)
   have HB4:=hid hB4
   clear hzd hb4 hB4 hg0 wg HDN HA3 HN3
   go_wp2_with fail
   refine HQU.out.mono ?_;rintro e w5 ⟨rfl,hz5,hb5⟩
   have hB5:Below w3.heap.size w3 w5:=HB4.out.trans (hb5.below (Nat.le_refl _) HB4.out.size)
   have hBr5:Below wr.heap.size wr w5:=HB3.out.trans (hB5.mono HB3.out.size)
   have hq:=hz5
   have hwq:Wide (((q i).den:Int).tdiv ((Nat.gcd (lcmD q i) (q i).den:Nat):Int)):=wide_small (by
    rw [←Int.ofNat_tdiv,Int.natAbs_natCast]
    have:=Nat.div_le_self (q i).den (Nat.gcd (lcmD q i) (q i).den)
    have:=DB.out i hlt
    omega)
   have HML:=hid (mul_t dp dp w3.heap.size _ _ w5 (hZ.out.ext hBr5).blk (hZ.out.ext hBr5) hz5 wl.out hwq)
   have HBR:=hid hBr5
   clear hz5 hb5 hB5 hBr5 hq hwq HQU HB4
   go_wp2_with fail
   refine HML.out.mono ?_;rintro e w6 ⟨rfl,hz6,hb6,-⟩
   rw [lcm_quo] at hz6
   have HZ6:Hid (BigP w6 dp (lcmD q (i+1):Nat)):=hid hz6
   have HB6:=hid ((hbe.out.trans (HBR.out.mono hbe.out.size)).trans (hb6.below hdpl (by have:=hbe.out.size;have:=HBR.out.size;omega)))
   clear hz6 hb6 HML HBR HB3 HZ3 hZ hbe
   go_wp2
   go_roundw
   case rel=>exact ⟨i+1,by omega,by go_num,HZ6,HB6⟩
   case measure=>simp [intOf];omega
  ·obtain rfl:n=i:=by omega
   have HO:=fun w=>OwnV.made w n (numD q n)
   have hA:Below wr.heap.size wr (wr.alloc (.cells (nils n).toArray 150 (0,0))):=(Below.refl _ _).alloc (Nat.le_refl _) _
   have HO0:=hid (HO wr);have HZ0:=hid (hZ.out.ext hA);have HB0:=hid (hbe.out.trans (hA.mono hbe.out.size));have HA:=hid hA
   clear HO hA hZ
   obtain ⟨g,hg⟩:∃ g,wr.heap.size=g:=⟨_,rfl⟩
   rw [hg] at HO0
   have hgw:w.heap.size≤g:=by rw [←hg];exact hbe.out.size
   have HGW:=hid hgw
   go_wp2_with fail
   try rw [hg]
   clear hg hgw hmk hbe
   go_loopw [37] (fun ti wr=>∃ (i:Nat),i≤n∧ti=.int .i64 i∧Hid (OwnV wr g n i (numD q n))∧Hid (BigP wr dp (lcmD q n:Nat))∧Hid (Below w.heap.size w wr)) (fun ti _=>n-(intOf ti).toNat)
   case atStart=>exact ⟨0,Nat.zero_le _,rfl,HO0,HZ0,HB0⟩
   case round =>
    clear HO0 HZ0 HB0 HA
    obtain ⟨i,hi,rfl,hO,hZ,hbe⟩:=hrel
    by_cases hlt:i<n
    ·have hi1:(i:Int)<n:=by omega
     obtain ⟨a,o,p,rfl,q1,hzp⟩:=(HV.out.ext hbe.out).at hlt
     have hA1:Below wr.heap.size wr (wr.alloc (.cells #[.bool false,.slice none 0 0] 196 (0,0))):=(Below.refl _ _).alloc (Nat.le_refl _) _
     have hn1:IntBlk (wr.alloc (.cells #[.bool false,.slice none 0 0] 196 (0,0))) wr.heap.size:=IntBlk.of (Blk.new _ [.bool false,.slice none 0 0] _)
     have HNU:=hid (num_calls p (q i) _ (hzp.ext hA1))
     have HZP:=hid hzp;have HA1:=hid hA1;have HN1:=hid hn1
     clear hzp hA1 hn1
     go_wp2_with fail
     refine HNU.out.mono ?_;rintro e w2 ⟨pn,rfl,hpn,hzn,hb2⟩
     have hB2:Below wr.heap.size wr w2:=HA1.out.trans (hb2.mono HA1.out.size)
     have hA2:Below w2.heap.size w2 (w2.alloc (.cells #[.bool false,.slice none 0 0] 196 (0,0))):=(Below.refl _ _).alloc (Nat.le_refl _) _
     have hn2:IntBlk (w2.alloc (.cells #[.bool false,.slice none 0 0] 196 (0,0))) w2.heap.size:=IntBlk.of (Blk.new _ [.bool false,.slice none 0 0] _)
     have HDN:=hid (denom_calls p (q i) _ ((HZP.out.ext hB2).ext hA2))
     have HK2:=hid (HN1.out.ext hb2);have HZN2:=hid hzn;have HB2:=hid hB2;have HA2:=hid hA2;have HN2:=hid hn2
     have hk2:wr.heap.size<w2.heap.size:=(HN1.out.ext hb2).lt
     obtain ⟨mp,hmp⟩:∃ mp,wr.heap.size=mp:=⟨_,rfl⟩
     rw [hmp] at HK2 hk2 ⊢
     have HMP:=hid hmp
     clear hzn hb2 hB2 hA2 hn2 HNU HA1 HN1 hmp
     go_wp2_with fail
     refine HDN.out.mono ?_;rintro e w3 ⟨pd,rfl,hpd,hzd,hb3⟩
     have hB3:Below w2.heap.size w2 w3:=HA2.out.trans (hb3.mono HA2.out.size)
     have wl:Wide (lcmD q n:Nat):=wide_small (by have:=LB.out n (Nat.le_refl _);omega)
     have wd:Wide ((q i).den:Nat):=wide_small (by have:=DB.out i hlt;omega)
     have HQU:=hid (quo_calls w2.heap.size dp pd _ _ w3 (HN2.out.ext hb3) ((hZ.out.ext HB2.out).ext hB3) hzd (by have:=(q i).den_pos;omega) wl wd)
     have HB3:=hid hB3
     obtain ⟨qp,hqp⟩:∃ qp,w2.heap.size=qp:=⟨_,rfl⟩
     rw [hqp] at HQU hk2 ⊢
     have HQP:=hid hqp
     clear hzd hb3 hB3 wl wd HDN HA2 HN2 hqp
     go_wp2_with fail
     refine HQU.out.mono ?_;rintro e w4 ⟨rfl,hz4,hb4⟩
     rw [←Int.ofNat_tdiv] at hz4
     have hB4:Below w2.heap.size w2 w4:=HB3.out.trans (hb4.below (by have:=HQP.out;omega) HB3.out.size)
     have hwq:Wide ((lcmD q n / (q i).den:Nat):Int):=wide_small (by
      have:=Nat.div_le_self (lcmD q n) (q i).den
      have:=LB.out n (Nat.le_refl _)
      rw [Int.natAbs_natCast];omega)
     have HML:=hid (mul_t mp pn qp _ _ w4 (HK2.out.ext hB4) (HZN2.out.ext hB4) hz4 (WN.out i hlt) hwq)
     have HB4:=hid (HB2.out.trans (hB4.mono HB2.out.size))
     clear hz4 hb4 hB4 hwq HQU HB3 HK2 HZN2
     go_wp2_with fail
     refine HML.out.mono ?_;rintro e w5 ⟨rfl,hz5,hb5,-⟩
     have hB5:Below wr.heap.size wr w5:=HB4.out.trans (hb5.below (by have:=HMP.out;omega) HB4.out.size)
     have hO5:=hO.out.ext hB5
     obtain ⟨a5,hc5⟩:=hO5.ex i hlt
     have hf5:=hO5.fr i
     have hst:=hO5.set (m':=i+1) (g:=numD q n) hlt hz5 (fun j hj hne=>⟨by omega,rfl⟩)
     have hbt:But g w5 (w5.setCell ⟨g,i,none⟩ (.pointer (some ⟨mp,0,none⟩))):=(But.refl _ _).set i _
     have HST:=hid hst
     have HZ6:=hid ((hZ.out.ext hB5).butP hO5.ptrs hbt)
     have HB6:=hid ((hbe.out.trans (hB5.mono hbe.out.size)).trans (hbt.below HGW.out (by have:=hbe.out.size;have:=hB5.size;omega)))
     clear hz5 hb5 hB5 hO5 hst hbt HML HB4 hO hZ hbe
     go_wp2
     go_roundw
     case rel=>exact ⟨i+1,by omega,by go_num,HST,HZ6,HB6⟩
     case measure=>simp [intOf];omega
    ·obtain rfl:n=i:=by omega
     go_wp2
     go_ret2
     exact ⟨g,dp,rfl,hO.out,hZ.out,hbe.out⟩
end
section
open Go.RowKit Go.ChangeMaps
open Lp (IsI)
theorem gcdN_dvd_d (d:Int) (xs:List Int):∀ k,gcdN d xs k ∣ d.natAbs
 | 0=>Nat.dvd_refl _
 | k+1=>Nat.dvd_trans (Nat.gcd_dvd_left _ _) (gcdN_dvd_d d xs k)
theorem gcdN_dvd_x (d:Int) (xs:List Int):∀ {k i:Nat},i<k→gcdN d xs k ∣ (nth xs i).natAbs
 | k+1,i,h=>by
   simp only [gcdN]
   rcases Nat.lt_or_ge i k with h1|h1
   ·exact Nat.dvd_trans (Nat.gcd_dvd_left _ _) (gcdN_dvd_x d xs h1)
   ·obtain rfl:i=k:=by omega
    exact Nat.gcd_dvd_right _ _
theorem natAbs_tdiv (x:Int) (g:Nat):(x.tdiv (g:Int)).natAbs=x.natAbs / g:=by
 rw [Int.natAbs_tdiv,Int.natAbs_natCast];rfl
theorem nth_mapD {xs:List Int} (g:Int) {i:Nat} (h:i<xs.length):nth (xs.map fun x=>x.tdiv g) i=(nth xs i).tdiv g:=by
 rw [nth_lt (by simpa using h),nth_lt h];simp
theorem gcdN_div {d:Int} {xs:List Int} {g:Nat} (hg:0<g) (hd:g ∣ d.natAbs):∀ {k:Nat},k≤xs.length→(∀ i,i<k→g ∣ (nth xs i).natAbs)→gcdN (d.tdiv g) (xs.map fun x=>x.tdiv (g:Int)) k=gcdN d xs k / g
 | 0,_,_=>by simp only [gcdN];exact natAbs_tdiv d g
 | k+1,hk,h=>by
   simp only [gcdN]
   rw [gcdN_div hg hd (by omega) fun i hi=>h i (by omega),nth_mapD _ (by omega),natAbs_tdiv]
   refine Nat.gcd_div ?_ (h k (by omega))
   have:∀ j,j≤k→g ∣ gcdN d xs j:=by
    intro j
    induction j with
    | zero=>intro _;exact hd
    | succ j ih=>intro hj;exact Nat.dvd_gcd (ih (by omega)) (h j (by omega))
   exact this k (Nat.le_refl _)
structure PtOf (xs:List Int) (d:Int) (n:Nat) (x:Nat→Rat):Prop where
 len:xs.length=n
 d1:1≤d
 d2:d≤524880000000
 val:∀ i,i<n→((nth xs i:Int):Rat)=x i*(d:Rat)
 bd:∀ i,i<n→(nth xs i).natAbs≤104976000000000
 low:gcdN d xs n=1
theorem natAbs_small {K:Nat} {x:Rat} {z u:Int} {t:Nat} (ht:0<t) (hz:(z:Rat)=x) (hu:(u:Rat)=x*(t:Rat)) (h:u.natAbs≤K):z.natAbs≤K:=by
 have e:u=z*(t:Int):=by
  have h1:((u:Int):Rat)=((z*(t:Int):Int):Rat):=by rw [hu,←hz,Rat.intCast_mul,Rat.intCast_natCast]
  exact Rat.intCast_inj.1 h1
 rw [e,Int.natAbs_mul,Int.natAbs_natCast] at h
 exact Nat.le_trans (Nat.le_mul_of_pos_right _ ht) h
theorem numD_bd {q:Nat→Rat} {n D i:Nat} (hD0:0<D) (hi:∀ i,i<n→IsI ((D:Rat)*q i) 104976000000000) (h:i<n):(numD q n i).natAbs≤104976000000000:=by
 obtain ⟨t,ht⟩:=lcmD_dvd (q:=q) (D:=D) (k:=n) fun i h=>den_dvd (hi i h)
 obtain ⟨u,hu,hub⟩:=hi i h
 have ht0:0<t:=by
  rcases Nat.eq_zero_or_pos t with h0|h0
  ·subst h0;simp at ht;omega
  ·exact h0
 refine natAbs_small (x:=q i*(lcmD q n:Rat)) (u:=u) ht0 (numD_eq h) ?_ hub
 rw [←hu,ht,Rat.natCast_mul];grind
theorem denB_sq {k:Nat} {x:Nat→Rat} (h:DenB k x):∀ i,i<k→Sq 10 (x i):=by
 obtain ⟨D,h0,hD,hi⟩:=h
 intro i hik
 obtain ⟨z,hz,hzb⟩:=hi i hik
 have hx:x i=mkRat z D:=by
  rw [Rat.mkRat_eq_div,Rat.div_def]
  have hD0:(D:Rat)≠0:=by
   intro e;have:=Rat.natCast_inj.1 (show ((D:Nat):Rat)=((0:Nat):Rat) from e);omega
  rw [←hz]
  have:((D:Rat))*((D:Rat))⁻¹=1:=Rat.mul_inv_cancel _ hD0
  grind
 have h2:=mkRat_le z D (by omega)
 rw [←hx] at h2
 exact Sq.mono (k:=2) ⟨digits_small.2 (by omega),digits_small.2 (by omega)⟩ (by omega)
theorem ptOf_low {q:Nat→Rat} {n D:Nat} (hD0:0<D) (hD:D≤524880000000) (hi:∀ i,i<n→IsI ((D:Rat)*q i) 104976000000000) {ys:List Int} (hl:ys.length=n) (hy:∀ i,i<n→nth ys i=numD q n i) :
 PtOf (ys.map fun x=>x.tdiv (gcdN (lcmD q n:Nat) ys ys.length:Nat)) (((lcmD q n:Nat):Int).tdiv (gcdN (lcmD q n:Nat) ys ys.length:Nat)) n q:=by
 have hLp:=lcmD_pos q n
 have hLle:lcmD q n≤524880000000:=Nat.le_trans (Nat.le_of_dvd hD0 (lcmD_dvd fun i h=>den_dvd (hi i h))) hD
 rw [hl]
 obtain ⟨G,hG⟩:∃ G,gcdN (lcmD q n:Nat) ys n=G:=⟨_,rfl⟩
 have hGd:=gcdN_dvd_d (lcmD q n:Nat) ys n
 have hGx:=fun i (h:i<n)=>gcdN_dvd_x (lcmD q n:Nat) ys h
 have hGp:=gcdN_pos (d:=(lcmD q n:Nat)) (by omega) ys n
 have hdiv:=gcdN_div (d:=(lcmD q n:Nat)) (xs:=ys) (g:=G) (by omega) (by rw [←hG];exact hGd) (k:=n) (by omega) (fun i h=>by rw [←hG];exact hGx i h)
 rw [hG] at hGd hGx hGp hdiv ⊢
 rw [Int.natAbs_natCast] at hGd
 obtain ⟨t,ht⟩:=hGd
 have htd:((lcmD q n:Nat):Int).tdiv (G:Int)=(t:Nat):=by
  rw [←Int.ofNat_tdiv,ht,Nat.mul_div_cancel_left _ (by omega)]
 have htp:0<t:=by
  rcases Nat.eq_zero_or_pos t with h0|h0
  ·subst h0;simp at ht;omega
  ·exact h0
 have htL:t≤lcmD q n:=by rw [ht];exact Nat.le_mul_of_pos_left _ (by omega)
 refine ⟨by simp [hl],by rw [htd];omega,by rw [htd];omega,fun i h=>?_,fun i h=>?_,by rw [hdiv];exact Nat.div_self (by omega)⟩
 ·rw [nth_mapD _ (by omega),htd,hy i h]
  obtain ⟨s,hs⟩:(G:Int) ∣ numD q n i:=by
   rw [←hy i h];exact Int.ofNat_dvd_left.2 (hGx i h)
  have h1:=numD_eq (q:=q) h
  have hG0:((G:Nat):Rat)≠0:=by
   intro e;have:=Rat.natCast_inj.1 (show ((G:Nat):Rat)=((0:Nat):Rat) from e);omega
  rw [hs,Int.mul_tdiv_cancel_left _ (by omega)]
  rw [hs,ht,Rat.intCast_mul,Rat.natCast_mul,Rat.intCast_natCast] at h1
  have h2:(G:Rat)*((s:Rat)-q i*(t:Rat))=0:=by grind
  have h3:(s:Rat)-q i*(t:Rat)=0:=by
   rcases Rat.mul_eq_zero.1 h2 with h4|h4
   ·exact absurd h4 hG0
   ·exact h4
  rw [Rat.intCast_natCast];grind
 ·rw [nth_mapD _ (by omega),natAbs_tdiv,hy i h]
  exact Nat.le_trans (Nat.div_le_self _ _) (numD_bd hD0 hi h)
theorem wrap64_small {z:Int} (h:z.natAbs≤1000000000000000):wrap64 z=z:=by unfold wrap64;omega
theorem i64_small2 {z:Int} (h:z.natAbs≤1000000000000000):IntKind.i64.wrap z=z:=by rw [IntKind.wrap_i64];omega
theorem intsTo_nth {f:Lp.V} {n i:Nat} (hi:i<n) (h:(f i).natAbs≤1000000000000000):nth (intsTo f n n) i=f i:=by
 rw [nth_lt (by rw [intsTo_len];exact hi)]
 unfold intsTo;simp only [List.getElem_map,List.getElem_range]
 rw [if_pos hi,wrap64_small h]
set_option maxRecDepth 100000 in
set_option maxHeartbeats 2000000 in
theorem pointed_calls (v:Value) (n:Nat) (q:Nat→Rat) (w:World) (hv:RatsX w v n q) (hn:n≤1000) (hD:DenB n q) :
 Calls Tryz.prog 126 #[v] w fun e w'=>∃ g xs d,e=.returned (.agg #[.slice (some ⟨g,0,none⟩) n n,.int .i64 d])∧w.heap.size≤g∧IBlk w' g xs∧PtOf xs d n q∧Below w.heap.size w w':=by
 have sq:=denB_sq hD
 obtain ⟨D,h0,hD2,hi⟩:=hD
 have hA:Below w.heap.size w (w.alloc (.cells #[.slice none 0 0,.int .i64 0] 29 (0,0))):=(Below.refl _ _).alloc (Nat.le_refl _) _
 have HCL:=hid (clear_calls v n D q _ (hv.ext hA) hn h0 hD2 hi sq)
 have HBK:=hid (Blk.new w [.slice none 0 0,.int .i64 0] 29)
 have HI:=hid hi;have HA:=hid hA
 have hL:lcmD q n≤524880000000:=Nat.le_trans (Nat.le_of_dvd h0 (lcmD_dvd fun i h=>den_dvd (hi i h))) hD2
 have hLp:=lcmD_pos q n
 have HD2:=hid hD2;have H0:=hid h0
 clear hv hi hA sq hD2 h0
 go_enter Tryz.func126,Tryz.ntmps126
 go_wp2_with fail
 obtain ⟨rp,hrp⟩:∃ rp,w.heap.size=rp:=⟨_,rfl⟩
 obtain ⟨w1,hw1⟩:∃ w1,w.alloc (.cells #[.slice none 0 0,.int .i64 0] 29 (0,0))=w1:=⟨_,rfl⟩
 have HRP:=hid hrp
 rw [hw1] at HCL HA HBK ⊢
 rw [hrp] at HBK ⊢
 clear hrp hw1
 refine HCL.out.mono ?_;rintro e w2 ⟨g0,p,rfl,hO,hZ,hb2⟩
 have hbl:=HBK.out.ext hb2
 have hrl:=HBK.out.lt
 have HVI:=hid (vecInts_calls n (numD q n) _ w2 ((hO.vec (Nat.le_refl _) (by unfold maxLen;omega)).mono fun _ _=>trivial) hn)
 have HZ:=hid hZ;have HB2:=hid hb2;have HBL:=hid hbl
 clear hO hZ hb2 hbl HCL HBK
 go_wp2_with fail
 refine HVI.out.mono ?_;rintro e w3 ⟨g,rfl,hg,hI3,hb3⟩
 have HI64:=hid (int64_calls p _ w3 (HZ.out.ext hb3))
 have HI3:=hid hI3;have HB3:=hid (HB2.out.trans (hb3.mono HB2.out.size));have HBL3:=hid (HBL.out.ext hb3)
 have hgw:=HB2.out.size
 have hg1:w1.heap.size≤g:=by omega
 clear hI3 hb3 HVI HZ HB2 HBL
 go_wp2_with fail
 refine HI64.out.mono ?_;rintro e w4 ⟨rfl,hb4⟩
 rw [i64_small2 (z:=((lcmD q n:Nat):Int)) (by omega)]
 have hlen:(intsTo (numD q n) n n).length=n:=intsTo_len _ _ _
 have hnt:∀ i,i<n→nth (intsTo (numD q n) n n) i=numD q n i:=fun i h=>intsTo_nth h (Nat.le_trans (numD_bd H0.out HI.out h) (by omega))
 have HPO:=hid (ptOf_low H0.out HD2.out HI.out hlen hnt)
 have hlo:=lowest_calls g n (intsTo (numD q n) n n) ((lcmD q n:Nat):Int) w4 (fun i h=>by
  rw [hlen] at h
  rw [hnt i h]
  have:=numD_bd H0.out HI.out h
  omega) (by omega) (by omega) (by rw [hlen];exact hn) (HI3.out.ext hb4)
 rw [hlen] at hlo HPO
 have HLO:=hid hlo
 have HB4:=hid (HB3.out.trans (hb4.mono HB3.out.size));have HBL4:=hid (HBL3.out.ext hb4)
 clear hlo hb4 hlen hnt HI64 HI3 HB3 HBL3
 go_wp2_with fail
 refine HLO.out.mono ?_;rintro e w5 ⟨rfl,hI5,hb5⟩
 have hbl5:=HBL4.out.but hb5 (by omega)
 have c0:=hbl5.cell 0 (by simp)
 have c1:=hbl5.cell 1 (by simp)
 have f0:=hbl5.free 0
 have f1:=hbl5.free 1
 simp only [List.getElem_cons_zero,List.getElem_cons_succ] at c0 c1
 obtain ⟨G,hG⟩:∃ G:Int,((gcdN ((lcmD q n:Nat):Int) (intsTo (numD q n) n n) n:Nat):Int)=G:=⟨_,rfl⟩
 rw [hG] at hI5 HPO ⊢
 obtain ⟨dq,hdq⟩:∃ dq:Int,((lcmD q n:Nat):Int).tdiv G=dq:=⟨_,rfl⟩
 rw [hdq] at HPO ⊢
 clear hG hdq
 have hbt:But rp w5 ((w5.setCell ⟨rp,0,none⟩ (.slice (some ⟨g,0,none⟩) n n)).setCell ⟨rp,1,none⟩ (.int .i64 dq)):=((But.refl rp w5).set 0 _).set 1 _
 have HIF:=hid (hI5.but hbt (by omega))
 have hB5:Below w.heap.size w w5:=(HA.out.trans (HB4.out.mono HA.out.size)).trans (hb5.below (by have:=HA.out.size;omega) (by have:=HA.out.size;have:=HB4.out.size;omega))
 have HBF:=hid (hB5.trans (hbt.below (by have:=HRP.out;omega) hB5.size))
 have bl3:=(hbl5.set 0 (.slice (some ⟨g,0,none⟩) n n)).set 1 (.int .i64 dq)
 have q0:=bl3.cell 0 (by simp)
 have q1:=bl3.cell 1 (by simp)
 simp only [List.getElem_cons_zero,List.getElem_cons_succ,List.set_cons_zero,List.set_cons_succ] at q0 q1
 have hgf:w.heap.size≤g:=by have:=HA.out.size;omega
 have HGF:=hid hgf
 clear hbt hB5 bl3 hbl5 hI5 hb5 hgf HLO
 go_wp2
 (try simp only [Exit.inBlock,Exit.then])
 refine bodyPost_ret (v:=.agg #[.slice (some ⟨g,0,none⟩) n n,.int .i64 dq]) (by simp [results,Tryz.results126,go_sem,q0,q1]) rfl ⟨g,_,_,rfl,HGF.out,HIF.out,HPO.out,HBF.out⟩
end
end Go.Proofs.YtkljafmdbajfeaaGreatDoor
