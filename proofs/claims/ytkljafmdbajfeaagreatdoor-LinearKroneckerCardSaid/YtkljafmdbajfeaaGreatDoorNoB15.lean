/- Package big: Add and Mul, whatever of the receiver and the arguments is one. -/
import Derived.Test.YtkljafmdbajfeaaGreatDoorNoB12
import Derived.Test.YtkljafmdbajfeaaGreatDoorNoB14
namespace Go.Proofs.YtkljafmdbajfeaaGreatDoor
set_option linter.unusedVariables false
set_option linter.unusedSimpArgs false
open Go.Lib (hid)
section
open Go.RowKit
theorem IntBlk.ext' {w w':World} {p:Nat} (h:IntBlk w p) (hb:Below w.heap.size w w'):IntBlk w' p:=h.ext hb
set_option maxRecDepth 100000 in
set_option maxHeartbeats 2000000 in
theorem mul_t (p q r:Nat) (x y:Int) (w:World) (hp:IntBlk w p) (hx:BigP w q x) (hy:BigP w r y) (wx:Wide x) (wy:Wide y) :
 Calls Tryz.prog 176 #[.pointer (some ⟨p,0,none⟩),.pointer (some ⟨q,0,none⟩),.pointer (some ⟨r,0,none⟩)] w fun e w'=>e=.returned (.pointer (some ⟨p,0,none⟩))∧BigP w' p (x*y)∧But p w w'∧Tail p w w':=by
 obtain ⟨-,v,hb0,hb1,hv⟩:=id hx
 obtain ⟨-,u,hd0,hd1,hu⟩:=id hy
 have c0:w.cell? ⟨q,0,none⟩=some (.bool (decide (x<0))):=hb0
 have c1:w.cell? ⟨q,1,none⟩=some v:=hb1
 have d0:w.cell? ⟨r,0,none⟩=some (.bool (decide (y<0))):=hd0
 have d1:w.cell? ⟨r,1,none⟩=some u:=hd1
 have hs:=mul_sign x y
 obtain ⟨bx,hbx⟩:∃ bx,Hid (decide (x<0)=bx):=⟨_,rfl⟩
 obtain ⟨bY,hby⟩:∃ bY,Hid (decide (y<0)=bY):=⟨_,rfl⟩
 rw [hbx.out] at c0
 rw [hby.out] at d0
 rw [hbx.out,hby.out] at hs
 obtain ⟨bs,hbs⟩:∃ bs,Hid ((!(bx == bY))=bs):=⟨_,rfl⟩
 have q5:∀ w,(binOp .neq 4 (.bool bx) (.bool bY)).run Tryz.prog w=.ok (.bool bs) w:=fun w=>by rw [neqBool,hbs.out]
 rw [hbs.out] at hs
 have HS:=hid hs
 have HV:=hid hv;have HU:=hid hu
 clear hs hb0 hb1 hd0 hd1 hx hy hv hu
 go_enter Tryz.func176,Tryz.ntmps176
 go_wp2_with fail
 refine wp_region_keys (w0:=w) 19 [7,8,9,10,11,12,13,14,15,16,17,18,19,20,21,22,23,24,25]
  [leafS 7 (.pointer (some ⟨p,0,none⟩)),leafS 8 (.pointer (some ⟨q,0,none⟩)),leafS 9 (.pointer (some ⟨q,0,none⟩)),leafS 10 (.pointer (some ⟨q,0,none⟩)),leafS 11 (.bool bx),leafS 12 (.pointer (some ⟨r,0,none⟩)),leafS 13 (.pointer (some ⟨r,0,none⟩)),leafS 14 (.pointer (some ⟨r,0,none⟩)),leafS 15 (.bool bY),leafS 16 (.bool bs),leafS 17 (.pointer (some ⟨q,0,none⟩)),leafS 18 (.pointer (some ⟨q,0,none⟩)),leafS 19 (.pointer (some ⟨q,1,none⟩)),leafS 20 (v),leafS 21 (.pointer (some ⟨r,0,none⟩)),leafS 22 (.pointer (some ⟨r,0,none⟩)),leafS 23 (.pointer (some ⟨r,1,none⟩)),leafS 24 (u),leaf1 25 (fun v w=>WSl w v (x.natAbs*y.natAbs))]
  [] [none,none,none,none,none,none,none,none,none,none,none,none,none,none,none,none,none,none,none] IntBlk (by kernel_rfl) (by kernel_rfl) (by kernel_rfl) rfl (F:=?cFm1) ?m1c1 ?m1c2 ?m1c3 ?m1c4
 case m1c1 =>
  intro x
  simp only [fullF,Act.put,List.setIfInBounds_toArray,List.set_cons_zero,List.set_cons_succ]
  rfl
 case m1c2 =>
  exact ⟨keeps_const _ _ _ _ _ _ _,keeps_const _ _ _ _ _ _ _,keeps_const _ _ _ _ _ _ _,keeps_const _ _ _ _ _ _ _,keeps_const _ _ _ _ _ _ _,keeps_const _ _ _ _ _ _ _,keeps_const _ _ _ _ _ _ _,keeps_const _ _ _ _ _ _ _,keeps_const _ _ _ _ _ _ _,keeps_const _ _ _ _ _ _ _,keeps_const _ _ _ _ _ _ _,keeps_const _ _ _ _ _ _ _,keeps_const _ _ _ _ _ _ _,keeps_const _ _ _ _ _ _ _,keeps_const _ _ _ _ _ _ _,keeps_const _ _ _ _ _ _ _,keeps_const _ _ _ _ _ _ _,keeps_const _ _ _ _ _ _ _,keeps_calm (calm_words _) _ _ _ _ _,trivial⟩
 case m1c3 =>
  refine ⟨?_,?_,?_,?_,?_,?_,?_,?_,?_,?_,?_,?_,?_,?_,?_,?_,?_,?_,?_,trivial⟩
  all_goals
   intro xx wq HE hd K hK
   have hc:=(bcell HE).1
   have c0':=(hc _ _ (cell_lt c0)).trans c0
   have c1':=(hc _ _ (cell_lt c1)).trans c1
   have d0':=(hc _ _ (cell_lt d0)).trans d0
   have d1':=(hc _ _ (cell_lt d1)).trans d1
   try have e0:xx 7=_:=hd 0 _ (by decide) rfl
   try have e1:xx 8=_:=hd 1 _ (by decide) rfl
   try have e2:xx 9=_:=hd 2 _ (by decide) rfl
   try have e3:xx 10=_:=hd 3 _ (by decide) rfl
   try have e4:xx 11=_:=hd 4 _ (by decide) rfl
   try have e5:xx 12=_:=hd 5 _ (by decide) rfl
   try have e6:xx 13=_:=hd 6 _ (by decide) rfl
   try have e7:xx 14=_:=hd 7 _ (by decide) rfl
   try have e8:xx 15=_:=hd 8 _ (by decide) rfl
   try have e9:xx 16=_:=hd 9 _ (by decide) rfl
   try have e10:xx 17=_:=hd 10 _ (by decide) rfl
   try have e11:xx 18=_:=hd 11 _ (by decide) rfl
   try have e12:xx 19=_:=hd 12 _ (by decide) rfl
   try have e13:xx 20=_:=hd 13 _ (by decide) rfl
   try have e14:xx 21=_:=hd 14 _ (by decide) rfl
   try have e15:xx 22=_:=hd 15 _ (by decide) rfl
   try have e16:xx 23=_:=hd 16 _ (by decide) rfl
   try have e17:xx 24=_:=hd 17 _ (by decide) rfl
   try have g18:=hd 18 _ (by decide) rfl
   have HE:=hid HE
   have HC:=hid hc
   clear hd hc
   go_simp
   try exact hK _ _ _ (mv_const _ rfl) (by dsimp only [Act.put];first|rfl|(simp [*];done))
  ·refine (times_calls _ _ _ _ _ wx wy (HV.out.ext HE.out) (HU.out.ext HE.out)).mono ?_
   rintro e w2 ⟨v2,rfl,hv2,hb2⟩
   exact hK _ _ _ (mv_plain hb2 hv2 rfl) (by dsimp only [Act.put];first|rfl|(simp [*];done))
 case m1c4 =>
  intro xx wz hE hG hA
  have e0:xx 7=_:=hG 0 _ rfl
  have e1:xx 8=_:=hG 1 _ rfl
  have e2:xx 9=_:=hG 2 _ rfl
  have e3:xx 10=_:=hG 3 _ rfl
  have e4:xx 11=_:=hG 4 _ rfl
  have e5:xx 12=_:=hG 5 _ rfl
  have e6:xx 13=_:=hG 6 _ rfl
  have e7:xx 14=_:=hG 7 _ rfl
  have e8:xx 15=_:=hG 8 _ rfl
  have e9:xx 16=_:=hG 9 _ rfl
  have e10:xx 17=_:=hG 10 _ rfl
  have e11:xx 18=_:=hG 11 _ rfl
  have e12:xx 19=_:=hG 12 _ rfl
  have e13:xx 20=_:=hG 13 _ rfl
  have e14:xx 21=_:=hG 14 _ rfl
  have e15:xx 22=_:=hG 15 _ rfl
  have e16:xx 23=_:=hG 16 _ rfl
  have e17:xx 24=_:=hG 17 _ rfl
  have g18:=hG 18 _ rfl
  have HHE:=hid hE;have HG18:=hid g18
  clear hG hA hE g18
  refine tail_one (i:=19) (by kernel_rfl) rfl ?_
  intro K hK
  go_simp
  refine (set_t p _ _ _ (x*y) _ (hp.ext' HHE.out) HG18.out HS.out.1 HS.out.2).mono ?_
  rintro e w' ⟨rfl,hz',hb',ht'⟩
  refine hK _ _ ?_
  have HZ:=hid hz';have HB:=hid (((But.refl p w).ext HHE.out).trans hb');have HT:=hid (Tail.trans (Tail.of (HHE.out.block p hp.lt)) ht')
  clear hz' hb' ht' hK
  refine tail_one (i:=20) (by kernel_rfl) rfl ?_
  intro K hK
  go_simp
  refine hK _ _ ?_
  refine wpAny_done (by kernel_rfl) ?_ _
  go_wp2
  go_ret
  exact ⟨rfl,HZ.out,HB.out,HT.out⟩
set_option maxRecDepth 100000 in
set_option maxHeartbeats 2000000 in
theorem add_t1 (p q r:Nat) (x y:Int) (w:World) (hp:IntBlk w p) (hx:BigP w q x) (hy:BigP w r y) (wx:Wide x) (wy:Wide y) (hbe:(decide (x<0) == decide (y<0))=true) :
 Calls Tryz.prog 175 #[.pointer (some ⟨p,0,none⟩),.pointer (some ⟨q,0,none⟩),.pointer (some ⟨r,0,none⟩)] w fun e w'=>e=.returned (.pointer (some ⟨p,0,none⟩))∧BigP w' p (x+y)∧But p w w'∧Tail p w w':=by
 obtain ⟨-,v,hb0,hb1,hv⟩:=id hx
 obtain ⟨-,u,hd0,hd1,hu⟩:=id hy
 have C0:w.cell? ⟨q,0,none⟩=some (.bool (decide (x<0))):=hb0
 have C1:w.cell? ⟨q,1,none⟩=some v:=hb1
 have D0:w.cell? ⟨r,0,none⟩=some (.bool (decide (y<0))):=hd0
 have D1:w.cell? ⟨r,1,none⟩=some u:=hd1
 obtain ⟨bx,hbx⟩:∃ bx,Hid (decide (x<0)=bx):=⟨_,rfl⟩
 obtain ⟨bY,hby⟩:∃ bY,Hid (decide (y<0)=bY):=⟨_,rfl⟩
 rw [hbx.out] at C0
 rw [hby.out] at D0
 rw [hbx.out,hby.out] at hbe
 have q4:∀ w,(binOp .eql 4 (.bool bx) (.bool bY)).run Tryz.prog w=.ok (.bool true) w:=fun w=>by rw [eqlBool,hbe]
 have HV0:=hid hv;have HU0:=hid hu
 have hs:=add_same x y (by rw [hbx.out,hby.out];exact hbe)
 rw [hbx.out] at hs
 have HS:=hid hs
 clear hs
 clear hb0 hb1 hd0 hd1 hx hy hv hu hbe
 go_enter Tryz.func175,Tryz.ntmps175
 go_wp2_with fail
 go_quiet (fail)
 go_wp2_with fail
 obtain ⟨wa,hwa⟩:∃ wa,Hid (w.drewN (nq)=wa):=⟨_,rfl⟩
 rw [hwa.out]
 have HA:Hid (Below w.heap.size w wa):=hid (by rw [←hwa.out];exact drewN_below w _)
 have hc:=(bcell HA.out).1
 have c0:=(hc _ _ (cell_lt C0)).trans C0
 have c1:=(hc _ _ (cell_lt C1)).trans C1
 have d0:=(hc _ _ (cell_lt D0)).trans D0
 have d1:=(hc _ _ (cell_lt D1)).trans D1
 have HV:=hid (HV0.out.ext HA.out);have HU:=hid (HU0.out.ext HA.out)
 clear hc C0 C1 D0 D1
 refine wp_region_keys (w0:=wa) 14 [16,17,18,19,20,21,22,23,24,25,26,27,28,29]
  [leafS 16 (.pointer (some ⟨p,0,none⟩)),leafS 17 (.pointer (some ⟨q,0,none⟩)),leafS 18 (.pointer (some ⟨q,0,none⟩)),leafS 19 (.pointer (some ⟨q,0,none⟩)),leafS 20 (.bool bx),leafS 21 (.pointer (some ⟨q,0,none⟩)),leafS 22 (.pointer (some ⟨q,0,none⟩)),leafS 23 (.pointer (some ⟨q,1,none⟩)),leafS 24 (v),leafS 25 (.pointer (some ⟨r,0,none⟩)),leafS 26 (.pointer (some ⟨r,0,none⟩)),leafS 27 (.pointer (some ⟨r,1,none⟩)),leafS 28 (u),leaf1 29 (fun v w=>WSl w v (x.natAbs+y.natAbs))]
  [] [none,none,none,none,none,none,none,none,none,none,none,none,none,none] IntBlk (by kernel_rfl) (by kernel_rfl) (by kernel_rfl) rfl (F:=?cFa1) ?a1c1 ?a1c2 ?a1c3 ?a1c4
 case a1c1 =>
  intro x
  simp only [fullF,Act.put,List.setIfInBounds_toArray,List.set_cons_zero,List.set_cons_succ]
  rfl
 case a1c2 =>
  exact ⟨keeps_const _ _ _ _ _ _ _,keeps_const _ _ _ _ _ _ _,keeps_const _ _ _ _ _ _ _,keeps_const _ _ _ _ _ _ _,keeps_const _ _ _ _ _ _ _,keeps_const _ _ _ _ _ _ _,keeps_const _ _ _ _ _ _ _,keeps_const _ _ _ _ _ _ _,keeps_const _ _ _ _ _ _ _,keeps_const _ _ _ _ _ _ _,keeps_const _ _ _ _ _ _ _,keeps_const _ _ _ _ _ _ _,keeps_const _ _ _ _ _ _ _,keeps_calm (calm_words _) _ _ _ _ _,trivial⟩
 case a1c3 =>
  refine ⟨?_,?_,?_,?_,?_,?_,?_,?_,?_,?_,?_,?_,?_,?_,trivial⟩
  all_goals
   intro xx wq HE hd K hK
   have hc:=(bcell HE).1
   have c0':=(hc _ _ (cell_lt c0)).trans c0
   have c1':=(hc _ _ (cell_lt c1)).trans c1
   have d0':=(hc _ _ (cell_lt d0)).trans d0
   have d1':=(hc _ _ (cell_lt d1)).trans d1
   try have e0:xx 16=_:=hd 0 _ (by decide) rfl
   try have e1:xx 17=_:=hd 1 _ (by decide) rfl
   try have e2:xx 18=_:=hd 2 _ (by decide) rfl
   try have e3:xx 19=_:=hd 3 _ (by decide) rfl
   try have e4:xx 20=_:=hd 4 _ (by decide) rfl
   try have e5:xx 21=_:=hd 5 _ (by decide) rfl
   try have e6:xx 22=_:=hd 6 _ (by decide) rfl
   try have e7:xx 23=_:=hd 7 _ (by decide) rfl
   try have e8:xx 24=_:=hd 8 _ (by decide) rfl
   try have e9:xx 25=_:=hd 9 _ (by decide) rfl
   try have e10:xx 26=_:=hd 10 _ (by decide) rfl
   try have e11:xx 27=_:=hd 11 _ (by decide) rfl
   try have e12:xx 28=_:=hd 12 _ (by decide) rfl
   try have g13:=hd 13 _ (by decide) rfl
   have HE:=hid HE
   have HC:=hid hc
   clear hd hc
   go_simp
   try exact hK _ _ _ (mv_const _ rfl) (by dsimp only [Act.put];first|rfl|(simp [*];done))
  ·refine (plus_calls _ _ _ _ _ wx wy (HV.out.ext HE.out) (HU.out.ext HE.out)).mono ?_
   rintro e w2 ⟨v2,rfl,hv2,hb2⟩
   exact hK _ _ _ (mv_plain hb2 hv2 rfl) (by dsimp only [Act.put];first|rfl|(simp [*];done))
 case a1c4 =>
  intro xx wz hE hG hA
  have e0:xx 16=_:=hG 0 _ rfl
  have e1:xx 17=_:=hG 1 _ rfl
  have e2:xx 18=_:=hG 2 _ rfl
  have e3:xx 19=_:=hG 3 _ rfl
  have e4:xx 20=_:=hG 4 _ rfl
  have e5:xx 21=_:=hG 5 _ rfl
  have e6:xx 22=_:=hG 6 _ rfl
  have e7:xx 23=_:=hG 7 _ rfl
  have e8:xx 24=_:=hG 8 _ rfl
  have e9:xx 25=_:=hG 9 _ rfl
  have e10:xx 26=_:=hG 10 _ rfl
  have e11:xx 27=_:=hG 11 _ rfl
  have e12:xx 28=_:=hG 12 _ rfl
  have g13:=hG 13 _ rfl
  have HHE:=hid (HA.out.trans (hE.mono HA.out.size));have HG13:=hid g13
  clear hG hA hE g13
  refine tail_one (i:=14) (by kernel_rfl) rfl ?_
  intro K hK
  go_simp
  refine (set_t p _ _ _ (x+y) _ (hp.ext HHE.out) HG13.out HS.out.1 HS.out.2).mono ?_
  rintro e w' ⟨rfl,hz',hb',ht'⟩
  refine hK _ _ ?_
  have HZ:=hid hz';have HB:=hid (((But.refl p w).ext HHE.out).trans hb');have HT:=hid (Tail.trans (Tail.of (HHE.out.block p hp.lt)) ht')
  clear hz' hb' ht' hK
  refine tail_one (i:=15) (by kernel_rfl) rfl ?_
  intro K hK
  go_simp
  refine hK _ _ ?_
  refine wpAny_done (by kernel_rfl) ?_ _
  go_wp2
  go_ret
  exact ⟨rfl,HZ.out,HB.out,HT.out⟩
set_option maxRecDepth 100000 in
set_option maxHeartbeats 2000000 in
theorem add_t2 (p q r:Nat) (x y:Int) (w:World) (hp:IntBlk w p) (hx:BigP w q x) (hy:BigP w r y) (wx:Wide x) (wy:Wide y) (hbe:(decide (x<0) == decide (y<0))=false) (hle:y.natAbs≤x.natAbs) :
 Calls Tryz.prog 175 #[.pointer (some ⟨p,0,none⟩),.pointer (some ⟨q,0,none⟩),.pointer (some ⟨r,0,none⟩)] w fun e w'=>e=.returned (.pointer (some ⟨p,0,none⟩))∧BigP w' p (x+y)∧But p w w'∧Tail p w w':=by
 obtain ⟨-,v,hb0,hb1,hv⟩:=id hx
 obtain ⟨-,u,hd0,hd1,hu⟩:=id hy
 have C0:w.cell? ⟨q,0,none⟩=some (.bool (decide (x<0))):=hb0
 have C1:w.cell? ⟨q,1,none⟩=some v:=hb1
 have D0:w.cell? ⟨r,0,none⟩=some (.bool (decide (y<0))):=hd0
 have D1:w.cell? ⟨r,1,none⟩=some u:=hd1
 obtain ⟨bx,hbx⟩:∃ bx,Hid (decide (x<0)=bx):=⟨_,rfl⟩
 obtain ⟨bY,hby⟩:∃ bY,Hid (decide (y<0)=bY):=⟨_,rfl⟩
 rw [hbx.out] at C0
 rw [hby.out] at D0
 rw [hbx.out,hby.out] at hbe
 have q4:∀ w,(binOp .eql 4 (.bool bx) (.bool bY)).run Tryz.prog w=.ok (.bool false) w:=fun w=>by rw [eqlBool,hbe]
 have HV0:=hid hv;have HU0:=hid hu
 have hs:=add_diff x y (by rw [hbx.out,hby.out];exact hbe) hle
 rw [hbx.out] at hs
 have HS:=hid hs
 clear hs
 have hqu:∀ w1 k,Below w.heap.size w w1→_:=fun w1 k h=>compare_q v u x.natAbs y.natAbs w1 k (HV0.out.ext h) (HU0.out.ext h)
 obtain ⟨S,hS⟩:∃ S,Hid (sgn x.natAbs y.natAbs=S):=⟨_,rfl⟩
 rw [hS.out] at hqu
 have hsg:decide (0≤S)=true:=by rw [←hS.out];unfold sgn;split<;>(try split)<;>first|rfl|omega
 have HQ:=hid hqu
 clear hqu
 clear hb0 hb1 hd0 hd1 hx hy hv hu hbe
 go_enter Tryz.func175,Tryz.ntmps175
 go_wp2_with fail
 go_quiet (fail)
 go_wp2_with fail
 obtain ⟨w1,hw1⟩:∃ w1,Hid (w.drewN nq=w1):=⟨_,rfl⟩
 rw [hw1.out]
 have HW1:Hid (Below w.heap.size w w1):=hid (by rw [←hw1.out];exact drewN_below w _)
 have hc1:=(bcell HW1.out).1
 have b0:=(hc1 _ _ (cell_lt C0)).trans C0
 have b1:=(hc1 _ _ (cell_lt C1)).trans C1
 have b2:=(hc1 _ _ (cell_lt D0)).trans D0
 have b3:=(hc1 _ _ (cell_lt D1)).trans D1
 clear hc1
 go_quiet ((go_at_call 208;exact HQ.out _ _ HW1.out))
 clear b0 b1 b2 b3
 go_wp2_with fail
 obtain ⟨wa,hwa⟩:∃ wa,Hid (w1.drewN nq=wa):=⟨_,rfl⟩
 rw [hwa.out]
 have HA:Hid (Below w.heap.size w wa):=hid (by rw [←hwa.out];exact HW1.out.trans ((drewN_below w1 _).mono HW1.out.size))
 have hc:=(bcell HA.out).1
 have c0:=(hc _ _ (cell_lt C0)).trans C0
 have c1:=(hc _ _ (cell_lt C1)).trans C1
 have d0:=(hc _ _ (cell_lt D0)).trans D0
 have d1:=(hc _ _ (cell_lt D1)).trans D1
 have HV:=hid (HV0.out.ext HA.out);have HU:=hid (HU0.out.ext HA.out)
 clear hc C0 C1 D0 D1
 refine wp_region_keys (w0:=wa) 14 [41,42,43,44,45,46,47,48,49,50,51,52,53,54]
  [leafS 41 (.pointer (some ⟨p,0,none⟩)),leafS 42 (.pointer (some ⟨q,0,none⟩)),leafS 43 (.pointer (some ⟨q,0,none⟩)),leafS 44 (.pointer (some ⟨q,0,none⟩)),leafS 45 (.bool bx),leafS 46 (.pointer (some ⟨q,0,none⟩)),leafS 47 (.pointer (some ⟨q,0,none⟩)),leafS 48 (.pointer (some ⟨q,1,none⟩)),leafS 49 (v),leafS 50 (.pointer (some ⟨r,0,none⟩)),leafS 51 (.pointer (some ⟨r,0,none⟩)),leafS 52 (.pointer (some ⟨r,1,none⟩)),leafS 53 (u),leaf1 54 (fun v w=>WSl w v (x.natAbs-y.natAbs))]
  [] [none,none,none,none,none,none,none,none,none,none,none,none,none,none] IntBlk (by kernel_rfl) (by kernel_rfl) (by kernel_rfl) rfl (F:=?cFa2) ?a2c1 ?a2c2 ?a2c3 ?a2c4
 case a2c1 =>
  intro x
  simp only [fullF,Act.put,List.setIfInBounds_toArray,List.set_cons_zero,List.set_cons_succ]
  rfl
 case a2c2 =>
  exact ⟨keeps_const _ _ _ _ _ _ _,keeps_const _ _ _ _ _ _ _,keeps_const _ _ _ _ _ _ _,keeps_const _ _ _ _ _ _ _,keeps_const _ _ _ _ _ _ _,keeps_const _ _ _ _ _ _ _,keeps_const _ _ _ _ _ _ _,keeps_const _ _ _ _ _ _ _,keeps_const _ _ _ _ _ _ _,keeps_const _ _ _ _ _ _ _,keeps_const _ _ _ _ _ _ _,keeps_const _ _ _ _ _ _ _,keeps_const _ _ _ _ _ _ _,keeps_calm (calm_words _) _ _ _ _ _,trivial⟩
 case a2c3 =>
  refine ⟨?_,?_,?_,?_,?_,?_,?_,?_,?_,?_,?_,?_,?_,?_,trivial⟩
  all_goals
   intro xx wq HE hd K hK
   have hc:=(bcell HE).1
   have c0':=(hc _ _ (cell_lt c0)).trans c0
   have c1':=(hc _ _ (cell_lt c1)).trans c1
   have d0':=(hc _ _ (cell_lt d0)).trans d0
   have d1':=(hc _ _ (cell_lt d1)).trans d1
   try have e0:xx 41=_:=hd 0 _ (by decide) rfl
   try have e1:xx 42=_:=hd 1 _ (by decide) rfl
   try have e2:xx 43=_:=hd 2 _ (by decide) rfl
   try have e3:xx 44=_:=hd 3 _ (by decide) rfl
   try have e4:xx 45=_:=hd 4 _ (by decide) rfl
   try have e5:xx 46=_:=hd 5 _ (by decide) rfl
   try have e6:xx 47=_:=hd 6 _ (by decide) rfl
   try have e7:xx 48=_:=hd 7 _ (by decide) rfl
   try have e8:xx 49=_:=hd 8 _ (by decide) rfl
   try have e9:xx 50=_:=hd 9 _ (by decide) rfl
   try have e10:xx 51=_:=hd 10 _ (by decide) rfl
   try have e11:xx 52=_:=hd 11 _ (by decide) rfl
   try have e12:xx 53=_:=hd 12 _ (by decide) rfl
   try have g13:=hd 13 _ (by decide) rfl
   have HE:=hid HE
   have HC:=hid hc
   clear hd hc
   go_simp
   try exact hK _ _ _ (mv_const _ rfl) (by dsimp only [Act.put];first|rfl|(simp [*];done))
  ·refine (minus_z _ _ _ _ _ wx hle (HV.out.ext HE.out) (HU.out.ext HE.out)).mono ?_
   rintro e w2 ⟨v2,rfl,hv2,hb2⟩
   exact hK _ _ _ (mv_plain hb2 hv2 rfl) (by dsimp only [Act.put];first|rfl|(simp [*];done))
 case a2c4 =>
  intro xx wz hE hG hA
  have e0:xx 41=_:=hG 0 _ rfl
  have e1:xx 42=_:=hG 1 _ rfl
  have e2:xx 43=_:=hG 2 _ rfl
  have e3:xx 44=_:=hG 3 _ rfl
  have e4:xx 45=_:=hG 4 _ rfl
  have e5:xx 46=_:=hG 5 _ rfl
  have e6:xx 47=_:=hG 6 _ rfl
  have e7:xx 48=_:=hG 7 _ rfl
  have e8:xx 49=_:=hG 8 _ rfl
  have e9:xx 50=_:=hG 9 _ rfl
  have e10:xx 51=_:=hG 10 _ rfl
  have e11:xx 52=_:=hG 11 _ rfl
  have e12:xx 53=_:=hG 12 _ rfl
  have g13:=hG 13 _ rfl
  have HHE:=hid (HA.out.trans (hE.mono HA.out.size));have HG13:=hid g13
  clear hG hA hE g13
  refine tail_one (i:=14) (by kernel_rfl) rfl ?_
  intro K hK
  go_simp
  refine (set_t p _ _ _ (x+y) _ (hp.ext HHE.out) HG13.out HS.out.1 HS.out.2).mono ?_
  rintro e w' ⟨rfl,hz',hb',ht'⟩
  refine hK _ _ ?_
  have HZ:=hid hz';have HB:=hid (((But.refl p w).ext HHE.out).trans hb');have HT:=hid (Tail.trans (Tail.of (HHE.out.block p hp.lt)) ht')
  clear hz' hb' ht' hK
  refine tail_one (i:=15) (by kernel_rfl) rfl ?_
  intro K hK
  go_simp
  refine hK _ _ ?_
  refine wpAny_done (by kernel_rfl) ?_ _
  go_wp2
  go_ret
  exact ⟨rfl,HZ.out,HB.out,HT.out⟩
set_option maxRecDepth 100000 in
set_option maxHeartbeats 2000000 in
theorem add_t3 (p q r:Nat) (x y:Int) (w:World) (hp:IntBlk w p) (hx:BigP w q x) (hy:BigP w r y) (wx:Wide x) (wy:Wide y) (hbe:(decide (x<0) == decide (y<0))=false) (hle:x.natAbs<y.natAbs) :
 Calls Tryz.prog 175 #[.pointer (some ⟨p,0,none⟩),.pointer (some ⟨q,0,none⟩),.pointer (some ⟨r,0,none⟩)] w fun e w'=>e=.returned (.pointer (some ⟨p,0,none⟩))∧BigP w' p (x+y)∧But p w w'∧Tail p w w':=by
 obtain ⟨-,v,hb0,hb1,hv⟩:=id hx
 obtain ⟨-,u,hd0,hd1,hu⟩:=id hy
 have C0:w.cell? ⟨q,0,none⟩=some (.bool (decide (x<0))):=hb0
 have C1:w.cell? ⟨q,1,none⟩=some v:=hb1
 have D0:w.cell? ⟨r,0,none⟩=some (.bool (decide (y<0))):=hd0
 have D1:w.cell? ⟨r,1,none⟩=some u:=hd1
 obtain ⟨bx,hbx⟩:∃ bx,Hid (decide (x<0)=bx):=⟨_,rfl⟩
 obtain ⟨bY,hby⟩:∃ bY,Hid (decide (y<0)=bY):=⟨_,rfl⟩
 rw [hbx.out] at C0
 rw [hby.out] at D0
 rw [hbx.out,hby.out] at hbe
 have q4:∀ w,(binOp .eql 4 (.bool bx) (.bool bY)).run Tryz.prog w=.ok (.bool false) w:=fun w=>by rw [eqlBool,hbe]
 have HV0:=hid hv;have HU0:=hid hu
 have hs:=add_diff' x y (by rw [hbx.out,hby.out];exact hbe) hle
 rw [hby.out] at hs
 have HS:=hid hs
 clear hs
 have hqu:∀ w1 k,Below w.heap.size w w1→_:=fun w1 k h=>compare_q v u x.natAbs y.natAbs w1 k (HV0.out.ext h) (HU0.out.ext h)
 obtain ⟨S,hS⟩:∃ S,Hid (sgn x.natAbs y.natAbs=S):=⟨_,rfl⟩
 rw [hS.out] at hqu
 have hsg:decide (0≤S)=false:=by rw [←hS.out];unfold sgn;split<;>(try split)<;>first|rfl|omega
 have HQ:=hid hqu
 clear hqu
 clear hb0 hb1 hd0 hd1 hx hy hv hu hbe
 go_enter Tryz.func175,Tryz.ntmps175
 go_wp2_with fail
 go_quiet (fail)
 go_wp2_with fail
 obtain ⟨w1,hw1⟩:∃ w1,Hid (w.drewN nq=w1):=⟨_,rfl⟩
 rw [hw1.out]
 have HW1:Hid (Below w.heap.size w w1):=hid (by rw [←hw1.out];exact drewN_below w _)
 have hc1:=(bcell HW1.out).1
 have b0:=(hc1 _ _ (cell_lt C0)).trans C0
 have b1:=(hc1 _ _ (cell_lt C1)).trans C1
 have b2:=(hc1 _ _ (cell_lt D0)).trans D0
 have b3:=(hc1 _ _ (cell_lt D1)).trans D1
 clear hc1
 go_quiet ((go_at_call 208;exact HQ.out _ _ HW1.out))
 clear b0 b1 b2 b3
 go_wp2_with fail
 obtain ⟨wa,hwa⟩:∃ wa,Hid (w1.drewN nq=wa):=⟨_,rfl⟩
 rw [hwa.out]
 have HA:Hid (Below w.heap.size w wa):=hid (by rw [←hwa.out];exact HW1.out.trans ((drewN_below w1 _).mono HW1.out.size))
 have hc:=(bcell HA.out).1
 have c0:=(hc _ _ (cell_lt C0)).trans C0
 have c1:=(hc _ _ (cell_lt C1)).trans C1
 have d0:=(hc _ _ (cell_lt D0)).trans D0
 have d1:=(hc _ _ (cell_lt D1)).trans D1
 have HV:=hid (HV0.out.ext HA.out);have HU:=hid (HU0.out.ext HA.out)
 clear hc C0 C1 D0 D1
 refine wp_region_keys (w0:=wa) 14 [56,57,58,59,60,61,62,63,64,65,66,67,68,69]
  [leafS 56 (.pointer (some ⟨p,0,none⟩)),leafS 57 (.pointer (some ⟨r,0,none⟩)),leafS 58 (.pointer (some ⟨r,0,none⟩)),leafS 59 (.pointer (some ⟨r,0,none⟩)),leafS 60 (.bool bY),leafS 61 (.pointer (some ⟨r,0,none⟩)),leafS 62 (.pointer (some ⟨r,0,none⟩)),leafS 63 (.pointer (some ⟨r,1,none⟩)),leafS 64 (u),leafS 65 (.pointer (some ⟨q,0,none⟩)),leafS 66 (.pointer (some ⟨q,0,none⟩)),leafS 67 (.pointer (some ⟨q,1,none⟩)),leafS 68 (v),leaf1 69 (fun v w=>WSl w v (y.natAbs-x.natAbs))]
  [] [none,none,none,none,none,none,none,none,none,none,none,none,none,none] IntBlk (by kernel_rfl) (by kernel_rfl) (by kernel_rfl) rfl (F:=?cFa3) ?a3c1 ?a3c2 ?a3c3 ?a3c4
 case a3c1 =>
  intro x
  simp only [fullF,Act.put,List.setIfInBounds_toArray,List.set_cons_zero,List.set_cons_succ]
  rfl
 case a3c2 =>
  exact ⟨keeps_const _ _ _ _ _ _ _,keeps_const _ _ _ _ _ _ _,keeps_const _ _ _ _ _ _ _,keeps_const _ _ _ _ _ _ _,keeps_const _ _ _ _ _ _ _,keeps_const _ _ _ _ _ _ _,keeps_const _ _ _ _ _ _ _,keeps_const _ _ _ _ _ _ _,keeps_const _ _ _ _ _ _ _,keeps_const _ _ _ _ _ _ _,keeps_const _ _ _ _ _ _ _,keeps_const _ _ _ _ _ _ _,keeps_const _ _ _ _ _ _ _,keeps_calm (calm_words _) _ _ _ _ _,trivial⟩
 case a3c3 =>
  refine ⟨?_,?_,?_,?_,?_,?_,?_,?_,?_,?_,?_,?_,?_,?_,trivial⟩
  all_goals
   intro xx wq HE hd K hK
   have hc:=(bcell HE).1
   have c0':=(hc _ _ (cell_lt c0)).trans c0
   have c1':=(hc _ _ (cell_lt c1)).trans c1
   have d0':=(hc _ _ (cell_lt d0)).trans d0
   have d1':=(hc _ _ (cell_lt d1)).trans d1
   try have e0:xx 56=_:=hd 0 _ (by decide) rfl
   try have e1:xx 57=_:=hd 1 _ (by decide) rfl
   try have e2:xx 58=_:=hd 2 _ (by decide) rfl
   try have e3:xx 59=_:=hd 3 _ (by decide) rfl
   try have e4:xx 60=_:=hd 4 _ (by decide) rfl
   try have e5:xx 61=_:=hd 5 _ (by decide) rfl
   try have e6:xx 62=_:=hd 6 _ (by decide) rfl
   try have e7:xx 63=_:=hd 7 _ (by decide) rfl
   try have e8:xx 64=_:=hd 8 _ (by decide) rfl
   try have e9:xx 65=_:=hd 9 _ (by decide) rfl
   try have e10:xx 66=_:=hd 10 _ (by decide) rfl
   try have e11:xx 67=_:=hd 11 _ (by decide) rfl
   try have e12:xx 68=_:=hd 12 _ (by decide) rfl
   try have g13:=hd 13 _ (by decide) rfl
   have HE:=hid HE
   have HC:=hid hc
   clear hd hc
   go_simp
   try exact hK _ _ _ (mv_const _ rfl) (by dsimp only [Act.put];first|rfl|(simp [*];done))
  ·refine (minus_z _ _ _ _ _ wy (by omega) (HU.out.ext HE.out) (HV.out.ext HE.out)).mono ?_
   rintro e w2 ⟨v2,rfl,hv2,hb2⟩
   exact hK _ _ _ (mv_plain hb2 hv2 rfl) (by dsimp only [Act.put];first|rfl|(simp [*];done))
 case a3c4 =>
  intro xx wz hE hG hA
  have e0:xx 56=_:=hG 0 _ rfl
  have e1:xx 57=_:=hG 1 _ rfl
  have e2:xx 58=_:=hG 2 _ rfl
  have e3:xx 59=_:=hG 3 _ rfl
  have e4:xx 60=_:=hG 4 _ rfl
  have e5:xx 61=_:=hG 5 _ rfl
  have e6:xx 62=_:=hG 6 _ rfl
  have e7:xx 63=_:=hG 7 _ rfl
  have e8:xx 64=_:=hG 8 _ rfl
  have e9:xx 65=_:=hG 9 _ rfl
  have e10:xx 66=_:=hG 10 _ rfl
  have e11:xx 67=_:=hG 11 _ rfl
  have e12:xx 68=_:=hG 12 _ rfl
  have g13:=hG 13 _ rfl
  have HHE:=hid (HA.out.trans (hE.mono HA.out.size));have HG13:=hid g13
  clear hG hA hE g13
  refine tail_one (i:=14) (by kernel_rfl) rfl ?_
  intro K hK
  go_simp
  refine (set_t p _ _ _ (x+y) _ (hp.ext HHE.out) HG13.out HS.out.1 HS.out.2).mono ?_
  rintro e w' ⟨rfl,hz',hb',ht'⟩
  refine hK _ _ ?_
  have HZ:=hid hz';have HB:=hid (((But.refl p w).ext HHE.out).trans hb');have HT:=hid (Tail.trans (Tail.of (HHE.out.block p hp.lt)) ht')
  clear hz' hb' ht' hK
  refine tail_one (i:=15) (by kernel_rfl) rfl ?_
  intro K hK
  go_simp
  refine hK _ _ ?_
  refine wpAny_done (by kernel_rfl) ?_ _
  go_wp2
  go_ret
  exact ⟨rfl,HZ.out,HB.out,HT.out⟩
theorem add_t (p q r:Nat) (x y:Int) (w:World) (hp:IntBlk w p) (hx:BigP w q x) (hy:BigP w r y) (wx:Wide x) (wy:Wide y) :
 Calls Tryz.prog 175 #[.pointer (some ⟨p,0,none⟩),.pointer (some ⟨q,0,none⟩),.pointer (some ⟨r,0,none⟩)] w fun e w'=>e=.returned (.pointer (some ⟨p,0,none⟩))∧BigP w' p (x+y)∧But p w w'∧Tail p w w':=by
 cases hbe:(decide (x<0) == decide (y<0))
 ·by_cases hle:y.natAbs≤x.natAbs
  ·exact add_t2 p q r x y w hp hx hy wx wy hbe hle
  ·exact add_t3 p q r x y w hp hx hy wx wy hbe (by omega)
 ·exact add_t1 p q r x y w hp hx hy wx wy hbe
end
end Go.Proofs.YtkljafmdbajfeaaGreatDoor
