/- Package big: rational numbers: SetFrac, NewRat, SetInt, Set, Neg, Inv, Num, Denom, Sign. -/
import Derived.Test.YtkljafmdbajfeaaGreatDoorNoH17
namespace Go.Proofs.YtkljafmdbajfeaaGreatDoor
set_option linter.unusedVariables false
set_option linter.unusedSimpArgs false
open Go.Lib (hid)
section
open Go.RowKit
theorem ratBlk_ext:∀ (w w':World) (p:Nat),RatBlk w p→Below w.heap.size w w'→RatBlk w' p:=fun _ _ _ h hb=>h.ext hb
theorem ratBlk_other:∀ (w w':World) (p q:Nat),RatBlk w p→RatBlk w q→But q w w'→p≠q→RatBlk w' p:=fun _ _ _ _ h _ hb hne=>h.other hb hne
theorem calm_rat (z:Rat):CalmB RatBlk fun p w=>RatP w p z:=⟨fun p w w' h hb=>h.ext hb,fun p w w' q h hq hb hne=>h.but hq.int hb hne⟩
set_option maxRecDepth 100000 in
set_option maxHeartbeats 2000000 in
theorem setFrac_calls (p q r:Nat) (a b:Int) (w:World) (hp:RatBlk w p) (hx:BigP w q a) (hy:BigP w r b) (hb:0<b) (wx:Wide a) (wy:Wide b) :
 Calls Tryz.prog 201 #[.pointer (some ⟨p,0,none⟩),.pointer (some ⟨q,0,none⟩),.pointer (some ⟨r,0,none⟩)] w fun e w'=>e=.returned (.pointer (some ⟨p,0,none⟩))∧RatP w' p (mkRat a b.natAbs)∧But p w w':=by
 obtain ⟨-,v,hb0,hb1,hv⟩:=id hx
 obtain ⟨-,u,hd0,hd1,hu⟩:=id hy
 have c0:w.cell? ⟨q,0,none⟩=some (.bool (decide (a<0))):=hb0
 have c1:w.cell? ⟨q,1,none⟩=some v:=hb1
 have d0:w.cell? ⟨r,0,none⟩=some (.bool (decide (b<0))):=hd0
 have d1:w.cell? ⟨r,1,none⟩=some u:=hd1
 rw [decide_eq_false (show ¬ b<0 by omega)] at d0
 have hs:=set_sign a
 obtain ⟨bx,hbx⟩:∃ bx,Hid (decide (a<0)=bx):=⟨_,rfl⟩
 rw [hbx.out] at c0 hs
 have q5:∀ w,(binOp .neq 4 (.bool bx) (.bool false)).run Tryz.prog w=.ok (.bool bx) w:=fun w=>by rw [neqBool];cases bx<;>rfl
 have HS:=hid (hs.trans hbx.out.symm)
 have HV:=hid hv;have HU:=hid hu
 clear hs hb0 hb1 hd0 hd1 hx hy hv hu
 go_enter Tryz.func201,Tryz.ntmps201
 go_wp2_with fail
 refine wp_region_kc (w0:=w) 18 [7,8,9,10,11,12,13,14,15,16,17,18,19,20,21,22,23,24]
  [.c (.pointer (some ⟨p,0,none⟩)),.c (.pointer (some ⟨q,0,none⟩)),.c (.pointer (some ⟨q,0,none⟩)),.c (.pointer (some ⟨q,0,none⟩)),.c (.bool bx),.c (.pointer (some ⟨r,0,none⟩)),.c (.pointer (some ⟨r,0,none⟩)),.c (.pointer (some ⟨r,0,none⟩)),.c (.bool false),.c (.bool bx),.c (.pointer (some ⟨q,0,none⟩)),.c (.pointer (some ⟨q,0,none⟩)),.c (.pointer (some ⟨q,1,none⟩)),.c v,.c (.pointer (some ⟨r,0,none⟩)),.c (.pointer (some ⟨r,0,none⟩)),.c (.pointer (some ⟨r,1,none⟩)),.c u]
  [] IntBlk (by kernel_rfl) (by kernel_rfl) (by kernel_rfl) rfl (F:=?cFf1) ?f1c1 ?f1c2 ?f1c3 ?f1c4
 case f1c1 =>
  intro x
  simp only [fullC,Act.put,List.setIfInBounds_toArray,List.set_cons_zero,List.set_cons_succ]
  rfl
 case f1c2 =>
  exact trivial
 case f1c3 =>
  refine ⟨?_,?_,?_,?_,?_,?_,?_,?_,?_,?_,?_,?_,?_,?_,?_,?_,?_,?_,trivial⟩
  all_goals
   intro xx wq HE hd K hK
   have hc:=(bcell HE).1
   have c0':=(hc _ _ (cell_lt c0)).trans c0
   have c1':=(hc _ _ (cell_lt c1)).trans c1
   have d0':=(hc _ _ (cell_lt d0)).trans d0
   have d1':=(hc _ _ (cell_lt d1)).trans d1
   have HE:=hid HE
   have HC:=hid hc
   clear hd hc
   all_goals go_simp
   try (refine hK _ _ _ (mv_const _ rfl) ?_;dsimp only [Act.put];first|done|rfl|(simp [*];done))
 case f1c4 =>
  intro xx wz hE hG hA
  have HHE:=hid hE
  clear hG hA hE
  refine tail_one (i:=18) (by kernel_rfl) rfl ?_
  intro K hK
  go_simp
  refine (ratSet_calls p bx v u a b.natAbs wz (hp.ext HHE.out) (HV.out.ext HHE.out) (HU.out.ext HHE.out) (by omega) HS.out wx wy).mono ?_
  rintro e w' ⟨rfl,hz',hb'⟩
  refine hK _ _ ?_
  have HZ:=hid hz';have HB:=hid (((But.refl p w).ext HHE.out).trans hb')
  clear hz' hb' hK
  refine tail_one (i:=19) (by kernel_rfl) rfl ?_
  intro K hK
  go_simp
  refine hK _ _ ?_
  refine wpAny_done (by kernel_rfl) ?_ _
  go_wp2
  go_ret
  exact ⟨rfl,HZ.out,HB.out⟩
set_option maxRecDepth 100000 in
set_option maxHeartbeats 1000000 in
theorem setInt_calls (p q:Nat) (a:Int) (w:World) (hp:RatBlk w p) (hx:BigP w q a) (wx:Wide a) :
 Calls Tryz.prog 168 #[.pointer (some ⟨p,0,none⟩),.pointer (some ⟨q,0,none⟩)] w fun e w'=>e=.returned (.pointer (some ⟨p,0,none⟩))∧RatP w' p (a:Rat)∧But p w w':=by
 go_enter Tryz.func168,Tryz.ntmps168
 go_wp2_with fail
 refine (newInt_calls 1 w (by omega) (by omega)).mono ?_;rintro e w1 ⟨pn,rfl,hpn,h1,hb1⟩
 have HB1:=hid hb1
 have HC:=hid (setFrac_calls p q pn a 1 w1 (hp.ext hb1) (hx.ext hb1) h1 (by omega) wx (wide_small (by decide)))
 clear hb1 h1
 go_wp2_with fail
 refine HC.out.mono ?_;rintro e w2 ⟨rfl,hz,hb2⟩
 go_wp2
 go_ret
 refine ⟨rfl,?_,((But.refl p w).ext HB1.out).trans hb2⟩
 rw [show (1:Int).natAbs=1 from rfl,Rat.mkRat_one] at hz
 exact hz
set_option maxRecDepth 100000 in
set_option maxHeartbeats 1000000 in
theorem setInt64_calls (p:Nat) (a:Int) (w:World) (h1 : -9223372036854775808≤a) (h2:a≤9223372036854775807) (hp:RatBlk w p) :
 Calls Tryz.prog 165 #[.pointer (some ⟨p,0,none⟩),.int .i64 a] w fun e w'=>e=.returned (.pointer (some ⟨p,0,none⟩))∧RatP w' p (a:Rat)∧But p w w':=by
 have wa:Wide a:=wide_small (by omega)
 have HN:=hid (newInt_calls a w h1 h2)
 clear h1 h2
 go_enter Tryz.func165,Tryz.ntmps165
 go_wp2_with fail
 refine HN.out.mono ?_;rintro e w1 ⟨pn,rfl,hpn,h1,hb1⟩
 have HB1:=hid hb1
 have HC:=hid (setInt_calls p pn a w1 (hp.ext hb1) h1 wa)
 clear hb1 h1
 go_wp2_with fail
 refine HC.out.mono ?_;rintro e w2 ⟨rfl,hz,hb2⟩
 go_wp2
 go_ret
 exact ⟨rfl,hz,((But.refl p w).ext HB1.out).trans hb2⟩
set_option maxRecDepth 100000 in
set_option maxHeartbeats 1000000 in
theorem newRat_calls (a b:Int) (w:World) (h1 : -9223372036854775808≤a) (h2:a≤9223372036854775807) (h3:0<b) (h4:b≤9223372036854775807) :
 Calls Tryz.prog 210 #[.int .i64 a,.int .i64 b] w fun e w'=>∃ p,e=.returned (.pointer (some ⟨p,0,none⟩))∧w.heap.size≤p∧RatP w' p (mkRat a b.natAbs)∧Below w.heap.size w w':=by
 have wa:Wide a:=wide_small (by omega)
 have wb:Wide b:=wide_small (by omega)
 have hA:Below w.heap.size w (w.alloc (.cells #[.bool false,.slice none 0 0,.slice none 0 0] 203 (0,0))):=(Below.refl _ _).alloc (Nat.le_refl _) _
 have hR:=RatBlk.new w
 have HN1:=hid (newInt_calls a (w.alloc (.cells #[.bool false,.slice none 0 0,.slice none 0 0] 203 (0,0))) h1 h2)
 have HN2:=hid (fun W=>newInt_calls b W (by omega) h4)
 have HA:=hid hA;have HR:=hid hR
 clear h1 h2 h4 hA hR
 go_enter Tryz.func210,Tryz.ntmps210
 go_wp2_with fail
 refine HN1.out.mono ?_;rintro e w1 ⟨pn,rfl,hpn,h1,hb1⟩
 have HB1:=hid (HA.out.trans (hb1.mono HA.out.size));have H1:=hid h1;have HR1:=hid (HR.out.ext hb1)
 clear hb1 h1 HN1
 go_wp2_with fail
 refine (HN2.out _).mono ?_;rintro e w2 ⟨pm,rfl,hpm,h2,hb2⟩
 have HB2:=hid (HB1.out.trans (hb2.mono HB1.out.size))
 have HC:=hid (setFrac_calls w.heap.size pn pm a b w2 (HR1.out.ext hb2) (H1.out.ext hb2) h2 h3 wa wb)
 clear hb2 h2 HN2
 go_wp2_with fail
 refine HC.out.mono ?_;rintro e w3 ⟨rfl,hz,hb3⟩
 go_wp2
 go_ret
 exact ⟨_,rfl,Nat.le_refl _,hz,HB2.out.trans (hb3.below (Nat.le_refl _) HB2.out.size)⟩
theorem RatP.setNum {w w':World} {p:Nat} (hp:RatBlk w p) {z:Int} (hz:BigP w' p z) (ht:Tail p w w'):RatBlk w' p :=
 ⟨hz.blk,by obtain ⟨A3,n3,c3,h3⟩:=hp.d;exact ⟨A3,n3,c3,(ht 2 (by omega)).1.trans h3⟩,(ht 2 (by omega)).2.trans hp.f2⟩
set_option maxRecDepth 100000 in
set_option maxHeartbeats 1000000 in
theorem ratNeg_calls (p q:Nat) (x:Rat) (w:World) (hp:RatBlk w p) (hx:RatP w q x) :
 Calls Tryz.prog 197 #[.pointer (some ⟨p,0,none⟩),.pointer (some ⟨q,0,none⟩)] w fun e w'=>e=.returned (.pointer (some ⟨p,0,none⟩))∧RatP w' p (-x)∧But p w w':=by
 obtain ⟨hq,hn,v,hv,hd⟩:=id hx
 have HC:=hid (neg_t p q x.num w.drew (hp.int.ext (drewN_below w 1)) (hn.ext (drewN_below w 1)))
 have hp':RatBlk w.drew p:=hp.ext (drewN_below w 1)
 have HP:=hid hp'
 have HV:=hid hv;have HD:=hid hd
 have ql:=hq.lt
 obtain ⟨A,n,c,rfl⟩:∃ A n c,v=.slice A n c:=by
  rcases hd with ⟨A,c,h,-⟩|⟨-,A,c,h,-⟩
  ·exact ⟨_,_,_,h⟩
  ·exact ⟨_,_,_,h⟩
 clear hv hn hq hp' hx hd
 go_enter Tryz.func197,Tryz.ntmps197
 go_wp2_with fail
 go_still_tail 6,(by kernel_rfl)
 change wpList _ _ _ _ _ w.drew
 go_wp2_with fail
 refine HC.out.mono ?_;rintro e w1 ⟨rfl,hz,hb,ht⟩
 have hp1:=RatP.setNum HP.out hz ht
 have hv1:w1.cell? ⟨q,2,none⟩=some (.slice A n c):=by
  by_cases e:q=p
  ·subst e;exact (ht 2 (by omega)).1.trans HV.out
  ·exact (World.cell?_of_block (w:=w.drew) (a:=⟨q,2,none⟩) (hb.block q ql e)).trans HV.out
 have hd1:DenW w1 (.slice A n c) (-x).den:=by
  rw [Rat.neg_den]
  exact (HD.out.ext (drewN_below w 1)).but HP.out.int hb
 obtain ⟨A5,n5,c5,hd5⟩:=id hp1.d
 have f5:=hp1.f2
 have HP1:=hid hp1;have HD1:=hid hd1;have HZ:=hid hz;have HB:=hid hb
 clear hz hb ht hd1
 go_wp2
 go_ret
 exact ⟨rfl,RatP.make HP1.out HZ.out HD1.out (Rat.neg_num x) rfl,(((But.refl p w).ext (drewN_below w 1)).trans HB.out).set 2 _⟩
set_option maxRecDepth 100000 in
set_option maxHeartbeats 1000000 in
theorem ratSetTo_calls (p q:Nat) (x:Rat) (w:World) (hp:RatBlk w p) (hx:RatP w q x) :
 Calls Tryz.prog 217 #[.pointer (some ⟨p,0,none⟩),.pointer (some ⟨q,0,none⟩)] w fun e w'=>e=.returned (.pointer (some ⟨p,0,none⟩))∧RatP w' p x∧But p w w':=by
 obtain ⟨hq,hn,v,hv,hd⟩:=id hx
 have HC:=hid (setInt_t p q x.num w.drew (hp.int.ext (drewN_below w 1)) (hn.ext (drewN_below w 1)))
 have hp':RatBlk w.drew p:=hp.ext (drewN_below w 1)
 have HP:=hid hp'
 have HV:=hid hv;have HD:=hid hd
 have ql:=hq.lt
 obtain ⟨A,n,c,rfl⟩:∃ A n c,v=.slice A n c:=by
  rcases hd with ⟨A,c,h,-⟩|⟨-,A,c,h,-⟩
  ·exact ⟨_,_,_,h⟩
  ·exact ⟨_,_,_,h⟩
 clear hv hn hq hp' hx hd
 go_enter Tryz.func217,Tryz.ntmps217
 go_wp2_with fail
 go_still_tail 6,(by kernel_rfl)
 change wpList _ _ _ _ _ w.drew
 go_wp2_with fail
 refine HC.out.mono ?_;rintro e w1 ⟨rfl,hz,hb,ht⟩
 have hp1:=RatP.setNum HP.out hz ht
 have hv1:w1.cell? ⟨q,2,none⟩=some (.slice A n c):=by
  by_cases e:q=p
  ·subst e;exact (ht 2 (by omega)).1.trans HV.out
  ·exact (World.cell?_of_block (w:=w.drew) (a:=⟨q,2,none⟩) (hb.block q ql e)).trans HV.out
 have hd1:DenW w1 (.slice A n c) x.den:=(HD.out.ext (drewN_below w 1)).but HP.out.int hb
 obtain ⟨A5,n5,c5,hd5⟩:=id hp1.d
 have f5:=hp1.f2
 have HP1:=hid hp1;have HD1:=hid hd1;have HZ:=hid hz;have HB:=hid hb
 clear hz hb ht hd1
 go_wp2
 go_ret
 exact ⟨rfl,RatP.make HP1.out HZ.out HD1.out rfl rfl,(((But.refl p w).ext (drewN_below w 1)).trans HB.out).set 2 _⟩
set_option maxRecDepth 100000 in
set_option maxHeartbeats 1000000 in
theorem num_calls (q:Nat) (x:Rat) (w:World) (hx:RatP w q x) :
 Calls Tryz.prog 204 #[.pointer (some ⟨q,0,none⟩)] w fun e w'=>∃ p,e=.returned (.pointer (some ⟨p,0,none⟩))∧w.heap.size≤p∧BigP w' p x.num∧Below w.heap.size w w':=by
 have hA:Below w.heap.size w (w.alloc (.cells #[.bool false,.slice none 0 0] 196 (0,0))):=(Below.refl _ _).alloc (Nat.le_refl _) _
 have hn:IntBlk (w.alloc (.cells #[.bool false,.slice none 0 0] 196 (0,0))) w.heap.size:=IntBlk.of (Blk.new _ [.bool false,.slice none 0 0] _)
 have HC:=hid (setInt_t w.heap.size q x.num _ hn (hx.2.1.ext hA))
 have HA:=hid hA
 clear hA hn hx
 go_enter Tryz.func204,Tryz.ntmps204
 go_wp2_with fail
 refine HC.out.mono ?_;rintro e w1 ⟨rfl,hz,hb,-⟩
 go_wp2
 go_ret
 exact ⟨_,rfl,Nat.le_refl _,hz,HA.out.trans (hb.below (Nat.le_refl _) HA.out.size)⟩
set_option maxRecDepth 100000 in
set_option maxHeartbeats 1000000 in
theorem denom_calls (q:Nat) (x:Rat) (w:World) (hx:RatP w q x) :
 Calls Tryz.prog 203 #[.pointer (some ⟨q,0,none⟩)] w fun e w'=>∃ p,e=.returned (.pointer (some ⟨p,0,none⟩))∧w.heap.size≤p∧BigP w' p (x.den:Int)∧Below w.heap.size w w':=by
 have hA:Below w.heap.size w (w.alloc (.cells #[.bool false,.slice none 0 0] 196 (0,0))):=(Below.refl _ _).alloc (Nat.le_refl _) _
 have hn:IntBlk (w.alloc (.cells #[.bool false,.slice none 0 0] 196 (0,0))) w.heap.size:=IntBlk.of (Blk.new _ [.bool false,.slice none 0 0] _)
 have HC:=hid (below_calls q x _ (hx.ext hA))
 have HA:=hid hA;have HN:=hid hn
 clear hA hn hx
 go_enter Tryz.func203,Tryz.ntmps203
 go_wp2_with fail
 refine HC.out.mono ?_;rintro e w1 ⟨v,rfl,hv,hb⟩
 have HS:=hid (set_t w.heap.size false v x.den (x.den:Int) w1 (HN.out.ext hb) hv (by simp) (by rw [decide_eq_false (show ¬ (x.den:Int)<0 by omega)];rfl))
 have HB:=hid (HA.out.trans (hb.mono HA.out.size))
 clear hv hb HC HN
 go_wp2_with fail
 refine HS.out.mono ?_;rintro e w2 ⟨rfl,hz,hb2,-⟩
 go_wp2
 go_ret
 exact ⟨_,rfl,Nat.le_refl _,hz,HB.out.trans (hb2.below (Nat.le_refl _) HB.out.size)⟩
set_option maxRecDepth 100000 in
set_option maxHeartbeats 1000000 in
theorem ratSign_calls (q:Nat) (x:Rat) (w:World) (hx:RatP w q x) :
 Calls Tryz.prog 215 #[.pointer (some ⟨q,0,none⟩)] w fun e w'=>e=.returned (.int .i64 (sgnI x.num 0))∧w'=w:=by
 have HC:=hid (sign_calls q x.num w hx.2.1)
 clear hx
 go_enter Tryz.func215,Tryz.ntmps215
 go_wp2_with fail
 refine HC.out.mono ?_;rintro e w1 ⟨rfl,rfl⟩
 go_wp2
 go_ret
 exact ⟨rfl,rfl⟩
set_option maxRecDepth 100000 in
set_option maxHeartbeats 2000000 in
theorem inv_calls (p q:Nat) (x:Rat) (w:World) (hp:RatBlk w p) (hx:RatP w q x) (h0:x.num≠0) :
 Calls Tryz.prog 202 #[.pointer (some ⟨p,0,none⟩),.pointer (some ⟨q,0,none⟩)] w fun e w'=>e=.returned (.pointer (some ⟨p,0,none⟩))∧RatP w' p x⁻¹∧But p w w':=by
 obtain ⟨-,⟨-,v,hb0,hb1,hv⟩,-⟩:=id hx
 have c0:w.cell? ⟨q,0,none⟩=some (.bool (decide (x.num<0))):=hb0
 have c1:w.cell? ⟨q,1,none⟩=some v:=hb1
 obtain ⟨bx,hbx⟩:∃ bx,Hid (decide (x.num<0)=bx):=⟨_,rfl⟩
 rw [hbx.out] at c0
 have HV:=hid hv;have HX:=hid hx
 obtain ⟨A,c,rfl,-,-,-⟩:=id hv
 have hsg:Hid (((x⁻¹).num.natAbs=x.den)∧(bx && decide (0<x.den))=decide ((x⁻¹).num<0)∧(x⁻¹).den=x.num.natAbs):=hid (by
  have hd:=x.den_pos
  rw [Rat.num_inv,Rat.den_inv,if_neg h0,←hbx.out]
  rcases Int.lt_trichotomy x.num 0 with h|h|h
  ·rw [Int.sign_eq_neg_one_of_neg h,decide_eq_true h,decide_eq_true hd,decide_eq_true (show -1*(x.den:Int)<0 by omega)]
   exact ⟨by omega,rfl,rfl⟩
  ·exact absurd h h0
  ·rw [Int.sign_eq_one_of_pos h,decide_eq_false (show ¬ x.num<0 by omega),decide_eq_false (show ¬ 1*(x.den:Int)<0 by omega)]
   exact ⟨by omega,rfl,rfl⟩)
 clear hb0 hb1 hv hx
 go_enter Tryz.func202,Tryz.ntmps202
 go_wp2_with fail
 refine wp_region_kc (w0:=w) 15 [8,9,10,11,12,13,14,15,16,17,18,19,5,6,7]
  [.c (.pointer (some ⟨q,0,none⟩)),.c (.pointer (some ⟨q,0,none⟩)),.c (.pointer (some ⟨q,0,none⟩)),.c (.pointer (some ⟨q,0,none⟩)),.c (.bool bx),.c (.pointer (some ⟨q,0,none⟩)),.l none (leaf1 · (fun v w=>WSl w v x.den)),.c (.pointer (some ⟨q,0,none⟩)),.c (.pointer (some ⟨q,0,none⟩)),.c (.pointer (some ⟨q,0,none⟩)),.c (.pointer (some ⟨q,1,none⟩)),.c (.slice A (digits x.num.natAbs).length c),.c (.bool bx),.l none (leaf1 · (fun v w=>WSl w v x.den)),.c (.slice A (digits x.num.natAbs).length c)]
  [] IntBlk (by kernel_rfl) (by kernel_rfl) (by kernel_rfl) rfl (F:=?cFv1) ?v1c1 ?v1c2 ?v1c3 ?v1c4
 case v1c1 =>
  intro x
  simp only [fullC,Act.put,List.setIfInBounds_toArray,List.set_cons_zero,List.set_cons_succ]
  rfl
 case v1c2 =>
  exact ⟨keeps_calm (calm_words _) _ _ _ _ _,keeps_calm (calm_words _) _ _ _ _ _,trivial⟩
 case v1c3 =>
  refine ⟨?_,?_,?_,?_,?_,?_,?_,?_,?_,?_,?_,?_,?_,?_,?_,trivial⟩
  all_goals
   intro xx wq HE hd K hK
   have hc:=(bcell HE).1
   have c0':=(hc _ _ (cell_lt c0)).trans c0
   have c1':=(hc _ _ (cell_lt c1)).trans c1
   try have g6:=hd 6 _ (by decide) rfl
   try have g13:=hd 13 _ (by decide) rfl
   have HE:=hid HE
   have HC:=hid hc
   clear hd hc
   all_goals go_simp
   try (refine hK _ _ _ (mv_const _ rfl) ?_;dsimp only [Act.put];first|done|rfl|(simp [*];done))
  ·refine (below_calls q x _ (HX.out.ext HE.out)).mono ?_
   rintro e w2 ⟨v2,rfl,hv2,hb2⟩
   exact hK _ _ _ (mv_plain hb2 hv2 rfl) (by dsimp only [Act.put];first|rfl|(simp [*];done))
  ·exact hK _ _ _ (mv_plain (Below.refl _ _) g6 rfl) (by dsimp only [Act.put];first|rfl|(simp [*];done))
 case v1c4 =>
  intro xx wz hE hG hA
  have g6:=hG 6 _ rfl
  have g13:=hG 13 _ rfl
  refine wpAny_done (by kernel_rfl) ?_ _
  have g13':WSl wz (xx 6) x.den:=g13
  obtain ⟨A6,c6,h6,-,-,-⟩:=id g13'
  have HG:=hid g13'
  have HEZ:=hid hE
  rw [h6] at HG
  clear g13 g13' g6 hG hE hA
  have HS:=hid (set_t p bx (.slice A6 (digits x.den).length c6) x.den (x⁻¹).num wz (hp.int.ext HEZ.out) HG.out hsg.out.1 hsg.out.2.1)
  go_wp2_with fail
  refine HS.out.mono ?_;rintro e w4 ⟨rfl,hz4,hb4,ht4⟩
  have hp1:=RatP.setNum (hp.ext HEZ.out) hz4 ht4
  have hd1:DenW w4 (.slice A (digits x.num.natAbs).length c) (x⁻¹).den:=.inl (by
   rw [hsg.out.2.2];exact (HV.out.ext HEZ.out).but (hp.int.ext HEZ.out) hb4)
  obtain ⟨A5,n5,c5,hd5⟩:=id hp1.d
  have f5:=hp1.f2
  have HP1:=hid hp1;have HD1:=hid hd1;have HZ:=hid hz4;have HB:=hid hb4
  clear hz4 hb4 ht4 hd1
  go_wp2
  go_ret
  exact ⟨rfl,RatP.make HP1.out HZ.out HD1.out rfl rfl,(((But.refl p w).ext HEZ.out).trans HB.out).set 2 _⟩
end
section
open Go.RowKit
theorem pow_len {n k:Nat} (h:n<4294967296 ^ k):(digits n).length≤k:=by
 rcases Nat.eq_zero_or_pos n with e|e
 ·rw [e,digits_zero];simp
 ·have h1:=digits_ge (n:=n) (by omega)
  rcases Nat.lt_or_ge k (digits n).length with h2|h2
  ·exfalso
   have:4294967296 ^ k≤4294967296 ^ ((digits n).length-1):=Nat.pow_le_pow_right (by omega) (by omega)
   omega
  ·exact h2
theorem lt_pow (n:Nat):n<4294967296 ^ (digits n).length:=by
 have:=val_lt (digits_dig n);rwa [val_digits] at this
theorem mul_len (n m:Nat):(digits (n*m)).length≤(digits n).length+(digits m).length:=by
 refine pow_len ?_
 rw [Nat.pow_add]
 have h1:=lt_pow n
 have h2:=lt_pow m
 rcases Nat.eq_zero_or_pos m with e|e
 ·subst e;rw [Nat.mul_zero];exact Nat.mul_pos (Nat.pow_pos (by omega)) (Nat.pow_pos (by omega))
 ·exact Nat.lt_of_lt_of_le (Nat.mul_lt_mul_of_pos_right h1 e) (Nat.mul_le_mul_left _ (Nat.le_of_lt h2))
theorem add_len {n m k:Nat} (h1:(digits n).length≤k) (h2:(digits m).length≤k):(digits (n+m)).length≤k+1:=by
 refine pow_len ?_
 have e1:=lt_pow n
 have e2:=lt_pow m
 have f1:4294967296 ^ (digits n).length≤4294967296 ^ k:=Nat.pow_le_pow_right (by omega) h1
 have f2:4294967296 ^ (digits m).length≤4294967296 ^ k:=Nat.pow_le_pow_right (by omega) h2
 rw [Nat.pow_succ];omega
def RSm (q:Rat):Prop:=(digits q.num.natAbs).length≤10000000∧(digits q.den).length≤10000000
theorem RSm.neg {q:Rat} (h:RSm q):RSm (-q):=by
 unfold RSm at *;rw [Rat.neg_num,Int.natAbs_neg,Rat.neg_den];exact h
theorem RSm.inv {q:Rat} (h:RSm q) (h0:q.num≠0):RSm q⁻¹:=by
 unfold RSm at *
 rw [Rat.den_inv,if_neg h0,Rat.num_inv,Int.natAbs_mul,Int.natAbs_natCast,Int.natAbs_sign_of_ne_zero h0,Nat.one_mul]
 exact ⟨h.2,h.1⟩
theorem rat_mul_mk (x y:Rat):mkRat (x.num*y.num) (x.den*y.den)=x*y:=by rw [Rat.mul_def,Rat.normalize_eq_mkRat]
theorem rat_add_mk (x y:Rat):mkRat (x.num*(y.den:Int)+y.num*(x.den:Int)) (x.den*y.den)=x+y:=by rw [Rat.add_def,Rat.normalize_eq_mkRat]
set_option maxRecDepth 100000 in
set_option maxHeartbeats 2000000 in
theorem ratMul_calls (p q r:Nat) (x y:Rat) (w:World) (hp:RatBlk w p) (hx:RatP w q x) (hy:RatP w r y) (wx:RSm x) (wy:RSm y) :
 Calls Tryz.prog 167 #[.pointer (some ⟨p,0,none⟩),.pointer (some ⟨q,0,none⟩),.pointer (some ⟨r,0,none⟩)] w fun e w'=>e=.returned (.pointer (some ⟨p,0,none⟩))∧RatP w' p (x*y)∧But p w w':=by
 obtain ⟨-,⟨-,v,hb0,hb1,hv⟩,-⟩:=id hx
 obtain ⟨-,⟨-,u,hd0,hd1,hu⟩,-⟩:=id hy
 have c0:w.cell? ⟨q,0,none⟩=some (.bool (decide (x.num<0))):=hb0
 have c1:w.cell? ⟨q,1,none⟩=some v:=hb1
 have d0:w.cell? ⟨r,0,none⟩=some (.bool (decide (y.num<0))):=hd0
 have d1:w.cell? ⟨r,1,none⟩=some u:=hd1
 have hs:=mul_sign x.num y.num
 obtain ⟨bx,hbx⟩:∃ bx,Hid (decide (x.num<0)=bx):=⟨_,rfl⟩
 obtain ⟨bY,hby⟩:∃ bY,Hid (decide (y.num<0)=bY):=⟨_,rfl⟩
 rw [hbx.out] at c0
 rw [hby.out] at d0
 rw [hbx.out,hby.out] at hs
 obtain ⟨bs,hbs⟩:∃ bs,Hid ((!(bx == bY))=bs):=⟨_,rfl⟩
 have q5:∀ w,(binOp .neq 4 (.bool bx) (.bool bY)).run Tryz.prog w=.ok (.bool bs) w:=fun w=>by rw [neqBool,hbs.out]
 rw [hbs.out] at hs
 have HS:=hid hs
 have HV:=hid hv;have HU:=hid hu;have HX:=hid hx;have HY:=hid hy
 have l1:=hid (mul_len x.num.natAbs y.num.natAbs)
 have l2:=hid (mul_len x.den y.den)
 have WX:=hid wx;have WY:=hid wy
 clear hs hb0 hb1 hd0 hd1 hx hy hv hu wx wy
 go_enter Tryz.func167,Tryz.ntmps167
 go_wp2_with fail
 refine wp_region_kc (w0:=w) 28 [7,8,9,10,11,12,13,14,15,16,17,18,19,20,21,22,23,24,25,26,27,28,29,30,31,32,33,34]
  [.c (.pointer (some ⟨p,0,none⟩)),.c (.pointer (some ⟨q,0,none⟩)),.c (.pointer (some ⟨q,0,none⟩)),.c (.pointer (some ⟨q,0,none⟩)),.c (.pointer (some ⟨q,0,none⟩)),.c (.bool bx),.c (.pointer (some ⟨r,0,none⟩)),.c (.pointer (some ⟨r,0,none⟩)),.c (.pointer (some ⟨r,0,none⟩)),.c (.pointer (some ⟨r,0,none⟩)),.c (.bool bY),.c (.bool bs),.c (.pointer (some ⟨q,0,none⟩)),.c (.pointer (some ⟨q,0,none⟩)),.c (.pointer (some ⟨q,0,none⟩)),.c (.pointer (some ⟨q,1,none⟩)),.c v,.c (.pointer (some ⟨r,0,none⟩)),.c (.pointer (some ⟨r,0,none⟩)),.c (.pointer (some ⟨r,0,none⟩)),.c (.pointer (some ⟨r,1,none⟩)),.c u,.l none (leaf1 · (fun v w=>WSl w v (x.num.natAbs*y.num.natAbs))),.c (.pointer (some ⟨q,0,none⟩)),.l none (leaf1 · (fun v w=>WSl w v x.den)),.c (.pointer (some ⟨r,0,none⟩)),.l none (leaf1 · (fun v w=>WSl w v y.den)),.l none (leaf1 · (fun v w=>WSl w v (x.den*y.den)))]
  [] IntBlk (by kernel_rfl) (by kernel_rfl) (by kernel_rfl) rfl (F:=?cFm1) ?m1c1 ?m1c2 ?m1c3 ?m1c4
 case m1c1 =>
  intro x
  simp only [fullC,Act.put,List.setIfInBounds_toArray,List.set_cons_zero,List.set_cons_succ]
  rfl
 case m1c2 =>
  exact ⟨keeps_calm (calm_words _) _ _ _ _ _,keeps_calm (calm_words _) _ _ _ _ _,keeps_calm (calm_words _) _ _ _ _ _,keeps_calm (calm_words _) _ _ _ _ _,trivial⟩
 case m1c3 =>
  refine ⟨?_,?_,?_,?_,?_,?_,?_,?_,?_,?_,?_,?_,?_,?_,?_,?_,?_,?_,?_,?_,?_,?_,?_,?_,?_,?_,?_,?_,trivial⟩
  all_goals
   intro xx wq HE hd K hK
   have hc:=(bcell HE).1
   have c0':=(hc _ _ (cell_lt c0)).trans c0
   have c1':=(hc _ _ (cell_lt c1)).trans c1
   have d0':=(hc _ _ (cell_lt d0)).trans d0
   have d1':=(hc _ _ (cell_lt d1)).trans d1
   try have g22:=hd 22 _ (by decide) rfl
   try have g24:=hd 24 _ (by decide) rfl
   try have g26:=hd 26 _ (by decide) rfl
   try have g27:=hd 27 _ (by decide) rfl
   have HE:=hid HE
   have HC:=hid hc
   clear hd hc
   all_goals go_simp
   try (refine hK _ _ _ (mv_const _ rfl) ?_;dsimp only [Act.put];first|done|rfl|(simp [*];done))
  ·refine (times_calls _ _ _ _ _ (by have:=WX.out.1;omega) (by have:=WY.out.1;omega) (HV.out.ext HE.out) (HU.out.ext HE.out)).mono ?_
   rintro e w2 ⟨v2,rfl,hv2,hb2⟩
   exact hK _ _ _ (mv_plain hb2 hv2 rfl) (by dsimp only [Act.put];first|rfl|(simp [*];done))
  ·refine (below_calls q x _ (HX.out.ext HE.out)).mono ?_
   rintro e w2 ⟨v2,rfl,hv2,hb2⟩
   exact hK _ _ _ (mv_plain hb2 hv2 rfl) (by dsimp only [Act.put];first|rfl|(simp [*];done))
  ·refine (below_calls r y _ (HY.out.ext HE.out)).mono ?_
   rintro e w2 ⟨v2,rfl,hv2,hb2⟩
   exact hK _ _ _ (mv_plain hb2 hv2 rfl) (by dsimp only [Act.put];first|rfl|(simp [*];done))
  ·refine (times_calls _ _ _ _ _ (by have:=WX.out.2;omega) (by have:=WY.out.2;omega) g24 g26).mono ?_
   rintro e w2 ⟨v2,rfl,hv2,hb2⟩
   exact hK _ _ _ (mv_plain hb2 hv2 rfl) (by dsimp only [Act.put];first|rfl|(simp [*];done))
 case m1c4 =>
  intro xx wz hE hG hA
  have g22:=hG 22 _ rfl
  have g24:=hG 24 _ rfl
  have g26:=hG 26 _ rfl
  have g27:=hG 27 _ rfl
  have HHE:=hid hE;have HG1:=hid g22;have HG2:=hid g27
  clear hG hA hE g22 g24 g26 g27
  refine tail_one (i:=28) (by kernel_rfl) rfl ?_
  intro K hK
  go_simp
  refine (ratSet_calls p bs _ _ (x.num*y.num) (x.den*y.den) wz (hp.ext HHE.out) (by rw [Int.natAbs_mul];exact HG1.out) HG2.out (Nat.mul_pos x.den_pos y.den_pos) (by rw [HS.out.1];exact HS.out.2) (by rw [Int.natAbs_mul];have:=l1.out;have:=WX.out.1;have:=WY.out.1;omega) (by have:=l2.out;have:=WX.out.2;have:=WY.out.2;omega)).mono ?_
  rintro e w' ⟨rfl,hz',hb'⟩
  refine hK _ _ ?_
  rw [rat_mul_mk] at hz'
  have HZ:=hid hz';have HB:=hid (((But.refl p w).ext HHE.out).trans hb')
  clear hz' hb' hK
  refine tail_one (i:=29) (by kernel_rfl) rfl ?_
  intro K hK
  go_simp
  refine hK _ _ ?_
  refine wpAny_done (by kernel_rfl) ?_ _
  go_wp2
  go_ret
  exact ⟨rfl,HZ.out,HB.out⟩
end
end Go.Proofs.YtkljafmdbajfeaaGreatDoor
