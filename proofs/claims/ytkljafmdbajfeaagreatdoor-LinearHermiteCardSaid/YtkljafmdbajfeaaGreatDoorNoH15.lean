/- Package big: Add and Mul, whatever of the receiver and the arguments is one. -/
import Derived.Test.YtkljafmdbajfeaaGreatDoorNoH12
import Derived.Test.YtkljafmdbajfeaaGreatDoorNoH14
namespace Go.Proofs.YtkljafmdbajfeaaGreatDoor
set_option linter.unusedVariables false
set_option linter.unusedSimpArgs false
open Go.Lib (hid)
section
open Go.RowKit
theorem IntBlk.ext' {w w':World} {p:Nat} (h:IntBlk w p) (hb:Below w.heap.size w w'):IntBlk w' p:=h.ext hb
set_option maxRecDepth 100000 in
set_option maxHeartbeats 2000000 in
theorem mul_t (p q r:Nat) (x y:Int) (w:World) (hp:IntBlk w p) (hx:BigP w q x) (hy:BigP w r y) (wx:Wide x) (wy:Wide y) :
 Calls Tryz.prog 176 #[.pointer (some ⟨p,0,none⟩),.pointer (some ⟨q,0,none⟩),.pointer (some ⟨r,0,none⟩)] w fun e w'=>e=.returned (.pointer (some ⟨p,0,none⟩))∧BigP w' p (x*y)∧But p w w'∧Tail p w w':=by
 obtain ⟨-,v,hb0,hb1,hv⟩:=id hx
 obtain ⟨-,u,hd0,hd1,hu⟩:=id hy
 have c0:w.cell? ⟨q,0,none⟩=some (.bool (decide (x<0))):=hb0
 have c1:w.cell? ⟨q,1,none⟩=some v:=hb1
 have d0:w.cell? ⟨r,0,none⟩=some (.bool (decide (y<0))):=hd0
 have d1:w.cell? ⟨r,1,none⟩=some u:=hd1
 have hs:=mul_sign x y
 obtain ⟨bx,hbx⟩:∃ bx,Hid (decide (x<0)=bx):=⟨_,rfl⟩
 obtain ⟨bY,hby⟩:∃ bY,Hid (decide (y<0)=bY):=⟨_,rfl⟩
 rw [hbx.out] at c0
 rw [hby.out] at d0
 rw [hbx.out,hby.out] at hs
 obtain ⟨bs,hbs⟩:∃ bs,Hid ((!(bx == bY))=bs):=⟨_,rfl⟩
 have q5:∀ w,(binOp .neq 4 (.bool bx) (.bool bY)).run Tryz.prog w=.ok (.bool bs) w:=fun w=>by rw [neqBool,hbs.out]
 rw [hbs.out] at hs
 have HS:=hid hs
 have HV:=hid hv;have HU:=hid hu
 clear hs hb0 hb1 hd0 hd1 hx hy hv hu
 go_enter Tryz.func176,Tryz.ntmps176
 go_wp2_with fail
 refine wp_region_kc (w0:=w) 19 [7,8,9,10,11,12,13,14,15,16,17,18,19,20,21,22,23,24,25]
  [.c (.pointer (some ⟨p,0,none⟩)),.c (.pointer (some ⟨q,0,none⟩)),.c (.pointer (some ⟨q,0,none⟩)),.c (.pointer (some ⟨q,0,none⟩)),.c (.bool bx),.c (.pointer (some ⟨r,0,none⟩)),.c (.pointer (some ⟨r,0,none⟩)),.c (.pointer (some ⟨r,0,none⟩)),.c (.bool bY),.c (.bool bs),.c (.pointer (some ⟨q,0,none⟩)),.c (.pointer (some ⟨q,0,none⟩)),.c (.pointer (some ⟨q,1,none⟩)),.c v,.c (.pointer (some ⟨r,0,none⟩)),.c (.pointer (some ⟨r,0,none⟩)),.c (.pointer (some ⟨r,1,none⟩)),.c u,.l none (leaf1 · (fun v w=>WSl w v (x.natAbs*y.natAbs)))]
  [] IntBlk (by kernel_rfl) (by kernel_rfl) (by kernel_rfl) rfl (F:=?cFm1) ?m1c1 ?m1c2 ?m1c3 ?m1c4
 case m1c1 =>
  intro x
  simp only [fullC,Act.put,List.setIfInBounds_toArray,List.set_cons_zero,List.set_cons_succ]
  rfl
 case m1c2 =>
  exact ⟨keeps_calm (calm_words _) _ _ _ _ _,trivial⟩
 case m1c3 =>
  refine ⟨?_,?_,?_,?_,?_,?_,?_,?_,?_,?_,?_,?_,?_,?_,?_,?_,?_,?_,?_,trivial⟩
  all_goals
   intro xx wq HE hd K hK
   have hc:=(bcell HE).1
   have c0':=(hc _ _ (cell_lt c0)).trans c0
   have c1':=(hc _ _ (cell_lt c1)).trans c1
   have d0':=(hc _ _ (cell_lt d0)).trans d0
   have d1':=(hc _ _ (cell_lt d1)).trans d1
   try have g18:=hd 18 _ (by decide) rfl
   have HE:=hid HE
   have HC:=hid hc
   clear hd hc
   all_goals go_simp
   try (refine hK _ _ _ (mv_const _ rfl) ?_;dsimp only [Act.put];first|done|rfl|(simp [*];done))
  ·refine (times_calls _ _ _ _ _ wx wy (HV.out.ext HE.out) (HU.out.ext HE.out)).mono ?_
   rintro e w2 ⟨v2,rfl,hv2,hb2⟩
   exact hK _ _ _ (mv_plain hb2 hv2 rfl) (by dsimp only [Act.put];first|rfl|(simp [*];done))
 case m1c4 =>
  intro xx wz hE hG hA
  have g18:=hG 18 _ rfl
  have HHE:=hid hE;have HG18:=hid g18
  clear hG hA hE g18
  refine tail_one (i:=19) (by kernel_rfl) rfl ?_
  intro K hK
  go_simp
  refine (set_t p _ _ _ (x*y) _ (hp.ext' HHE.out) HG18.out HS.out.1 HS.out.2).mono ?_
  rintro e w' ⟨rfl,hz',hb',ht'⟩
  refine hK _ _ ?_
  have HZ:=hid hz';have HB:=hid (((But.refl p w).ext HHE.out).trans hb');have HT:=hid (Tail.trans (Tail.of (HHE.out.block p hp.lt)) ht')
  clear hz' hb' ht' hK
  refine tail_one (i:=20) (by kernel_rfl) rfl ?_
  intro K hK
  go_simp
  refine hK _ _ ?_
  refine wpAny_done (by kernel_rfl) ?_ _
  go_wp2
  go_ret
  exact ⟨rfl,HZ.out,HB.out,HT.out⟩
set_option maxRecDepth 100000 in
set_option maxHeartbeats 2000000 in
theorem add_t1 (p q r:Nat) (x y:Int) (w:World) (hp:IntBlk w p) (hx:BigP w q x) (hy:BigP w r y) (wx:Wide x) (wy:Wide y) (hbe:(decide (x<0) == decide (y<0))=true) :
 Calls Tryz.prog 175 #[.pointer (some ⟨p,0,none⟩),.pointer (some ⟨q,0,none⟩),.pointer (some ⟨r,0,none⟩)] w fun e w'=>e=.returned (.pointer (some ⟨p,0,none⟩))∧BigP w' p (x+y)∧But p w w'∧Tail p w w':=by
 obtain ⟨-,v,hb0,hb1,hv⟩:=id hx
 obtain ⟨-,u,hd0,hd1,hu⟩:=id hy
 have C0:w.cell? ⟨q,0,none⟩=some (.bool (decide (x<0))):=hb0
 have C1:w.cell? ⟨q,1,none⟩=some v:=hb1
 have D0:w.cell? ⟨r,0,none⟩=some (.bool (decide (y<0))):=hd0
 have D1:w.cell? ⟨r,1,none⟩=some u:=hd1
 obtain ⟨bx,hbx⟩:∃ bx,Hid (decide (x<0)=bx):=⟨_,rfl⟩
 obtain ⟨bY,hby⟩:∃ bY,Hid (decide (y<0)=bY):=⟨_,rfl⟩
 rw [hbx.out] at C0
 rw [hby.out] at D0
 rw [hbx.out,hby.out] at hbe
 have q4:∀ w,(binOp .eql 4 (.bool bx) (.bool bY)).run Tryz.prog w=.ok (.bool true) w:=fun w=>by rw [eqlBool,hbe]
 have HV0:=hid hv;have HU0:=hid hu
 have hs:=add_same x y (by rw [hbx.out,hby.out];exact hbe)
 rw [hbx.out] at hs
 have HS:=hid hs
 clear hs
 clear hb0 hb1 hd0 hd1 hx hy hv hu hbe
 go_enter Tryz.func175,Tryz.ntmps175
 go_wp2_with fail
 go_quiet (fail)
 go_wp2_with fail
 obtain ⟨wa,hwa⟩:∃ wa,Hid (w.drewN (nq)=wa):=⟨_,rfl⟩
 rw [hwa.out]
 have HA:Hid (Below w.heap.size w wa):=hid (by rw [←hwa.out];exact drewN_below w _)
 have hc:=(bcell HA.out).1
 have c0:=(hc _ _ (cell_lt C0)).trans C0
 have c1:=(hc _ _ (cell_lt C1)).trans C1
 have d0:=(hc _ _ (cell_lt D0)).trans D0
 have d1:=(hc _ _ (cell_lt D1)).trans D1
 have HV:=hid (HV0.out.ext HA.out);have HU:=hid (HU0.out.ext HA.out)
 clear hc C0 C1 D0 D1
 refine wp_region_kc (w0:=wa) 14 [16,17,18,19,20,21,22,23,24,25,26,27,28,29]
  [.c (.pointer (some ⟨p,0,none⟩)),.c (.pointer (some ⟨q,0,none⟩)),.c (.pointer (some ⟨q,0,none⟩)),.c (.pointer (some ⟨q,0,none⟩)),.c (.bool bx),.c (.pointer (some ⟨q,0,none⟩)),.c (.pointer (some ⟨q,0,none⟩)),.c (.pointer (some ⟨q,1,none⟩)),.c v,.c (.pointer (some ⟨r,0,none⟩)),.c (.pointer (some ⟨r,0,none⟩)),.c (.pointer (some ⟨r,1,none⟩)),.c u,.l none (leaf1 · (fun v w=>WSl w v (x.natAbs+y.natAbs)))]
  [] IntBlk (by kernel_rfl) (by kernel_rfl) (by kernel_rfl) rfl (F:=?cFa1) ?a1c1 ?a1c2 ?a1c3 ?a1c4
 case a1c1 =>
  intro x
  simp only [fullC,Act.put,List.setIfInBounds_toArray,List.set_cons_zero,List.set_cons_succ]
  rfl
 case a1c2 =>
  exact ⟨keeps_calm (calm_words _) _ _ _ _ _,trivial⟩
 case a1c3 =>
  refine ⟨?_,?_,?_,?_,?_,?_,?_,?_,?_,?_,?_,?_,?_,?_,trivial⟩
  all_goals
   intro xx wq HE hd K hK
   have hc:=(bcell HE).1
   have c0':=(hc _ _ (cell_lt c0)).trans c0
   have c1':=(hc _ _ (cell_lt c1)).trans c1
   have d0':=(hc _ _ (cell_lt d0)).trans d0
   have d1':=(hc _ _ (cell_lt d1)).trans d1
   try have g13:=hd 13 _ (by decide) rfl
   have HE:=hid HE
   have HC:=hid hc
   clear hd hc
   all_goals go_simp
   try (refine hK _ _ _ (mv_const _ rfl) ?_;dsimp only [Act.put];first|done|rfl|(simp [*];done))
  ·refine (plus_calls _ _ _ _ _ wx wy (HV.out.ext HE.out) (HU.out.ext HE.out)).mono ?_
   rintro e w2 ⟨v2,rfl,hv2,hb2⟩
   exact hK _ _ _ (mv_plain hb2 hv2 rfl) (by dsimp only [Act.put];first|rfl|(simp [*];done))
 case a1c4 =>
  intro xx wz hE hG hA
  have g13:=hG 13 _ rfl
  have HHE:=hid (HA.out.trans (hE.mono HA.out.size));have HG13:=hid g13
  clear hG hA hE g13
  refine tail_one (i:=14) (by kernel_rfl) rfl ?_
  intro K hK
  go_simp
  refine (set_t p _ _ _ (x+y) _ (hp.ext HHE.out) HG13.out HS.out.1 HS.out.2).mono ?_
  rintro e w' ⟨rfl,hz',hb',ht'⟩
  refine hK _ _ ?_
  have HZ:=hid hz';have HB:=hid (((But.refl p w).ext HHE.out).trans hb');have HT:=hid (Tail.trans (Tail.of (HHE.out.block p hp.lt)) ht')
  clear hz' hb' ht' hK
  refine tail_one (i:=15) (by kernel_rfl) rfl ?_
  intro K hK
  go_simp
  refine hK _ _ ?_
  refine wpAny_done (by kernel_rfl) ?_ _
  go_wp2
  go_ret
  exact ⟨rfl,HZ.out,HB.out,HT.out⟩
set_option maxRecDepth 100000 in
set_option maxHeartbeats 2000000 in
theorem add_t2 (p q r:Nat) (x y:Int) (w:World) (hp:IntBlk w p) (hx:BigP w q x) (hy:BigP w r y) (wx:Wide x) (wy:Wide y) (hbe:(decide (x<0) == decide (y<0))=false) (hle:y.natAbs≤x.natAbs) :
 Calls Tryz.prog 175 #[.pointer (some ⟨p,0,none⟩),.pointer (some ⟨q,0,none⟩),.pointer (some ⟨r,0,none⟩)] w fun e w'=>e=.returned (.pointer (some ⟨p,0,none⟩))∧BigP w' p (x+y)∧But p w w'∧Tail p w w':=by
 obtain ⟨-,v,hb0,hb1,hv⟩:=id hx
 obtain ⟨-,u,hd0,hd1,hu⟩:=id hy
 have C0:w.cell? ⟨q,0,none⟩=some (.bool (decide (x<0))):=hb0
 have C1:w.cell? ⟨q,1,none⟩=some v:=hb1
 have D0:w.cell? ⟨r,0,none⟩=some (.bool (decide (y<0))):=hd0
 have D1:w.cell? ⟨r,1,none⟩=some u:=hd1
 obtain ⟨bx,hbx⟩:∃ bx,Hid (decide (x<0)=bx):=⟨_,rfl⟩
 obtain ⟨bY,hby⟩:∃ bY,Hid (decide (y<0)=bY):=⟨_,rfl⟩
 rw [hbx.out] at C0
 rw [hby.out] at D0
 rw [hbx.out,hby.out] at hbe
 have q4:∀ w,(binOp .eql 4 (.bool bx) (.bool bY)).run Tryz.prog w=.ok (.bool false) w:=fun w=>by rw [eqlBool,hbe]
 have HV0:=hid hv;have HU0:=hid hu
 have hs:=add_diff x y (by rw [hbx.out,hby.out];exact hbe) hle
 rw [hbx.out] at hs
 have HS:=hid hs
 clear hs
 have hqu:∀ w1 k,Below w.heap.size w w1→_:=fun w1 k h=>compare_q v u x.natAbs y.natAbs w1 k (HV0.out.ext h) (HU0.out.ext h)
 obtain ⟨S,hS⟩:∃ S,Hid (sgn x.natAbs y.natAbs=S):=⟨_,rfl⟩
 rw [hS.out] at hqu
 have hsg:decide (0≤S)=true:=by rw [←hS.out];unfold sgn;split<;>(try split)<;>first|rfl|omega
 have HQ:=hid hqu
 clear hqu
 clear hb0 hb1 hd0 hd1 hx hy hv hu hbe
 go_enter Tryz.func175,Tryz.ntmps175
 go_wp2_with fail
 go_quiet (fail)
 go_wp2_with fail
 obtain ⟨w1,hw1⟩:∃ w1,Hid (w.drewN nq=w1):=⟨_,rfl⟩
 rw [hw1.out]
 have HW1:Hid (Below w.heap.size w w1):=hid (by rw [←hw1.out];exact drewN_below w _)
 have hc1:=(bcell HW1.out).1
 have b0:=(hc1 _ _ (cell_lt C0)).trans C0
 have b1:=(hc1 _ _ (cell_lt C1)).trans C1
 have b2:=(hc1 _ _ (cell_lt D0)).trans D0
 have b3:=(hc1 _ _ (cell_lt D1)).trans D1
 clear hc1
 go_quiet ((go_at_call 208;exact HQ.out _ _ HW1.out))
 clear b0 b1 b2 b3
 go_wp2_with fail
 obtain ⟨wa,hwa⟩:∃ wa,Hid (w1.drewN nq=wa):=⟨_,rfl⟩
 rw [hwa.out]
 have HA:Hid (Below w.heap.size w wa):=hid (by rw [←hwa.out];exact HW1.out.trans ((drewN_below w1 _).mono HW1.out.size))
 have hc:=(bcell HA.out).1
 have c0:=(hc _ _ (cell_lt C0)).trans C0
 have c1:=(hc _ _ (cell_lt C1)).trans C1
 have d0:=(hc _ _ (cell_lt D0)).trans D0
 have d1:=(hc _ _ (cell_lt D1)).trans D1
 have HV:=hid (HV0.out.ext HA.out);have HU:=hid (HU0.out.ext HA.out)
 clear hc C0 C1 D0 D1
 refine wp_region_kc (w0:=wa) 14 [41,42,43,44,45,46,47,48,49,50,51,52,53,54]
  [.c (.pointer (some ⟨p,0,none⟩)),.c (.pointer (some ⟨q,0,none⟩)),.c (.pointer (some ⟨q,0,none⟩)),.c (.pointer (some ⟨q,0,none⟩)),.c (.bool bx),.c (.pointer (some ⟨q,0,none⟩)),.c (.pointer (some ⟨q,0,none⟩)),.c (.pointer (some ⟨q,1,none⟩)),.c v,.c (.pointer (some ⟨r,0,none⟩)),.c (.pointer (some ⟨r,0,none⟩)),.c (.pointer (some ⟨r,1,none⟩)),.c u,.l none (leaf1 · (fun v w=>WSl w v (x.natAbs-y.natAbs)))]
  [] IntBlk (by kernel_rfl) (by kernel_rfl) (by kernel_rfl) rfl (F:=?cFa2) ?a2c1 ?a2c2 ?a2c3 ?a2c4
 case a2c1 =>
  intro x
  simp only [fullC,Act.put,List.setIfInBounds_toArray,List.set_cons_zero,List.set_cons_succ]
  rfl
 case a2c2 =>
  exact ⟨keeps_calm (calm_words _) _ _ _ _ _,trivial⟩
 case a2c3 =>
  refine ⟨?_,?_,?_,?_,?_,?_,?_,?_,?_,?_,?_,?_,?_,?_,trivial⟩
  all_goals
   intro xx wq HE hd K hK
   have hc:=(bcell HE).1
   have c0':=(hc _ _ (cell_lt c0)).trans c0
   have c1':=(hc _ _ (cell_lt c1)).trans c1
   have d0':=(hc _ _ (cell_lt d0)).trans d0
   have d1':=(hc _ _ (cell_lt d1)).trans d1
   try have g13:=hd 13 _ (by decide) rfl
   have HE:=hid HE
   have HC:=hid hc
   clear hd hc
   all_goals go_simp
   try (refine hK _ _ _ (mv_const _ rfl) ?_;dsimp only [Act.put];first|done|rfl|(simp [*];done))
  ·refine (minus_z _ _ _ _ _ wx hle (HV.out.ext HE.out) (HU.out.ext HE.out)).mono ?_
   rintro e w2 ⟨v2,rfl,hv2,hb2⟩
   exact hK _ _ _ (mv_plain hb2 hv2 rfl) (by dsimp only [Act.put];first|rfl|(simp [*];done))
 case a2c4 =>
  intro xx wz hE hG hA
  have g13:=hG 13 _ rfl
  have HHE:=hid (HA.out.trans (hE.mono HA.out.size));have HG13:=hid g13
  clear hG hA hE g13
  refine tail_one (i:=14) (by kernel_rfl) rfl ?_
  intro K hK
  go_simp
  refine (set_t p _ _ _ (x+y) _ (hp.ext HHE.out) HG13.out HS.out.1 HS.out.2).mono ?_
  rintro e w' ⟨rfl,hz',hb',ht'⟩
  refine hK _ _ ?_
  have HZ:=hid hz';have HB:=hid (((But.refl p w).ext HHE.out).trans hb');have HT:=hid (Tail.trans (Tail.of (HHE.out.block p hp.lt)) ht')
  clear hz' hb' ht' hK
  refine tail_one (i:=15) (by kernel_rfl) rfl ?_
  intro K hK
  go_simp
  refine hK _ _ ?_
  refine wpAny_done (by kernel_rfl) ?_ _
  go_wp2
  go_ret
  exact ⟨rfl,HZ.out,HB.out,HT.out⟩
set_option maxRecDepth 100000 in
set_option maxHeartbeats 2000000 in
theorem add_t3 (p q r:Nat) (x y:Int) (w:World) (hp:IntBlk w p) (hx:BigP w q x) (hy:BigP w r y) (wx:Wide x) (wy:Wide y) (hbe:(decide (x<0) == decide (y<0))=false) (hle:x.natAbs<y.natAbs) :
 Calls Tryz.prog 175 #[.pointer (some ⟨p,0,none⟩),.pointer (some ⟨q,0,none⟩),.pointer (some ⟨r,0,none⟩)] w fun e w'=>e=.returned (.pointer (some ⟨p,0,none⟩))∧BigP w' p (x+y)∧But p w w'∧Tail p w w':=by
 obtain ⟨-,v,hb0,hb1,hv⟩:=id hx
 obtain ⟨-,u,hd0,hd1,hu⟩:=id hy
 have C0:w.cell? ⟨q,0,none⟩=some (.bool (decide (x<0))):=hb0
 have C1:w.cell? ⟨q,1,none⟩=some v:=hb1
 have D0:w.cell? ⟨r,0,none⟩=some (.bool (decide (y<0))):=hd0
 have D1:w.cell? ⟨r,1,none⟩=some u:=hd1
 obtain ⟨bx,hbx⟩:∃ bx,Hid (decide (x<0)=bx):=⟨_,rfl⟩
 obtain ⟨bY,hby⟩:∃ bY,Hid (decide (y<0)=bY):=⟨_,rfl⟩
 rw [hbx.out] at C0
 rw [hby.out] at D0
 rw [hbx.out,hby.out] at hbe
 have q4:∀ w,(binOp .eql 4 (.bool bx) (.bool bY)).run Tryz.prog w=.ok (.bool false) w:=fun w=>by rw [eqlBool,hbe]
 have HV0:=hid hv;have HU0:=hid hu
 have hs:=add_diff' x y (by rw [hbx.out,hby.out];exact hbe) hle
 rw [hby.out] at hs
 have HS:=hid hs
 clear hs
 have hqu:∀ w1 k,Below w.heap.size w w1→_:=fun w1 k h=>compare_q v u x.natAbs y.natAbs w1 k (HV0.out.ext h) (HU0.out.ext h)
 obtain ⟨S,hS⟩:∃ S,Hid (sgn x.natAbs y.natAbs=S):=⟨_,rfl⟩
 rw [hS.out] at hqu
 have hsg:decide (0≤S)=false:=by rw [←hS.out];unfold sgn;split<;>(try split)<;>first|rfl|omega
 have HQ:=hid hqu
 clear hqu
 clear hb0 hb1 hd0 hd1 hx hy hv hu hbe
 go_enter Tryz.func175,Tryz.ntmps175
 go_wp2_with fail
 go_quiet (fail)
 go_wp2_with fail
 obtain ⟨w1,hw1⟩:∃ w1,Hid (w.drewN nq=w1):=⟨_,rfl⟩
 rw [hw1.out]
 have HW1:Hid (Below w.heap.size w w1):=hid (by rw [←hw1.out];exact drewN_below w _)
 have hc1:=(bcell HW1.out).1
 have b0:=(hc1 _ _ (cell_lt C0)).trans C0
 have b1:=(hc1 _ _ (cell_lt C1)).trans C1
 have b2:=(hc1 _ _ (cell_lt D0)).trans D0
 have b3:=(hc1 _ _ (cell_lt D1)).trans D1
 clear hc1
 go_quiet ((go_at_call 208;exact HQ.out _ _ HW1.out))
 clear b0 b1 b2 b3
 go_wp2_with fail
 obtain ⟨wa,hwa⟩:∃ wa,Hid (w1.drewN nq=wa):=⟨_,rfl⟩
 rw [hwa.out]
 have HA:Hid (Below w.heap.size w wa):=hid (by rw [←hwa.out];exact HW1.out.trans ((drewN_below w1 _).mono HW1.out.size))
 have hc:=(bcell HA.out).1
 have c0:=(hc _ _ (cell_lt C0)).trans C0
 have c1:=(hc _ _ (cell_lt C1)).trans C1
 have d0:=(hc _ _ (cell_lt D0)).trans D0
 have d1:=(hc _ _ (cell_lt D1)).trans D1
 have HV:=hid (HV0.out.ext HA.out);have HU:=hid (HU0.out.ext HA.out)
 clear hc C0 C1 D0 D1
 refine wp_region_kc (w0:=wa) 14 [56,57,58,59,60,61,62,63,64,65,66,67,68,69]
  [.c (.pointer (some ⟨p,0,none⟩)),.c (.pointer (some ⟨r,0,none⟩)),.c (.pointer (some ⟨r,0,none⟩)),.c (.pointer (some ⟨r,0,none⟩)),.c (.bool bY),.c (.pointer (some ⟨r,0,none⟩)),.c (.pointer (some ⟨r,0,none⟩)),.c (.pointer (some ⟨r,1,none⟩)),.c u,.c (.pointer (some ⟨q,0,none⟩)),.c (.pointer (some ⟨q,0,none⟩)),.c (.pointer (some ⟨q,1,none⟩)),.c v,.l none (leaf1 · (fun v w=>WSl w v (y.natAbs-x.natAbs)))]
  [] IntBlk (by kernel_rfl) (by kernel_rfl) (by kernel_rfl) rfl (F:=?cFa3) ?a3c1 ?a3c2 ?a3c3 ?a3c4
 case a3c1 =>
  intro x
  simp only [fullC,Act.put,List.setIfInBounds_toArray,List.set_cons_zero,List.set_cons_succ]
  rfl
 case a3c2 =>
  exact ⟨keeps_calm (calm_words _) _ _ _ _ _,trivial⟩
 case a3c3 =>
  refine ⟨?_,?_,?_,?_,?_,?_,?_,?_,?_,?_,?_,?_,?_,?_,trivial⟩
  all_goals
   intro xx wq HE hd K hK
   have hc:=(bcell HE).1
   have c0':=(hc _ _ (cell_lt c0)).trans c0
   have c1':=(hc _ _ (cell_lt c1)).trans c1
   have d0':=(hc _ _ (cell_lt d0)).trans d0
   have d1':=(hc _ _ (cell_lt d1)).trans d1
   try have g13:=hd 13 _ (by decide) rfl
   have HE:=hid HE
   have HC:=hid hc
   clear hd hc
   all_goals go_simp
   try (refine hK _ _ _ (mv_const _ rfl) ?_;dsimp only [Act.put];first|done|rfl|(simp [*];done))
  ·refine (minus_z _ _ _ _ _ wy (by omega) (HU.out.ext HE.out) (HV.out.ext HE.out)).mono ?_
   rintro e w2 ⟨v2,rfl,hv2,hb2⟩
   exact hK _ _ _ (mv_plain hb2 hv2 rfl) (by dsimp only [Act.put];first|rfl|(simp [*];done))
 case a3c4 =>
  intro xx wz hE hG hA
  have g13:=hG 13 _ rfl
  have HHE:=hid (HA.out.trans (hE.mono HA.out.size));have HG13:=hid g13
  clear hG hA hE g13
  refine tail_one (i:=14) (by kernel_rfl) rfl ?_
  intro K hK
  go_simp
  refine (set_t p _ _ _ (x+y) _ (hp.ext HHE.out) HG13.out HS.out.1 HS.out.2).mono ?_
  rintro e w' ⟨rfl,hz',hb',ht'⟩
  refine hK _ _ ?_
  have HZ:=hid hz';have HB:=hid (((But.refl p w).ext HHE.out).trans hb');have HT:=hid (Tail.trans (Tail.of (HHE.out.block p hp.lt)) ht')
  clear hz' hb' ht' hK
  refine tail_one (i:=15) (by kernel_rfl) rfl ?_
  intro K hK
  go_simp
  refine hK _ _ ?_
  refine wpAny_done (by kernel_rfl) ?_ _
  go_wp2
  go_ret
  exact ⟨rfl,HZ.out,HB.out,HT.out⟩
theorem add_t (p q r:Nat) (x y:Int) (w:World) (hp:IntBlk w p) (hx:BigP w q x) (hy:BigP w r y) (wx:Wide x) (wy:Wide y) :
 Calls Tryz.prog 175 #[.pointer (some ⟨p,0,none⟩),.pointer (some ⟨q,0,none⟩),.pointer (some ⟨r,0,none⟩)] w fun e w'=>e=.returned (.pointer (some ⟨p,0,none⟩))∧BigP w' p (x+y)∧But p w w'∧Tail p w w':=by
 cases hbe:(decide (x<0) == decide (y<0))
 ·by_cases hle:y.natAbs≤x.natAbs
  ·exact add_t2 p q r x y w hp hx hy wx wy hbe hle
  ·exact add_t3 p q r x y w hp hx hy wx wy hbe (by omega)
 ·exact add_t1 p q r x y w hp hx hy wx wy hbe
end
end Go.Proofs.YtkljafmdbajfeaaGreatDoor
