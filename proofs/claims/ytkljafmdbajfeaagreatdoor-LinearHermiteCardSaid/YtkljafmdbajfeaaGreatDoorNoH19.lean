/- Package big: rational numbers: Add, Sub, Quo, Cmp. -/
import Derived.Test.YtkljafmdbajfeaaGreatDoorNoH18
namespace Go.Proofs.YtkljafmdbajfeaaGreatDoor
set_option linter.unusedVariables false
set_option linter.unusedSimpArgs false
open Go.Lib (hid)
section
open Go.RowKit
theorem IntBlk.new (w:World):IntBlk (w.alloc (.cells #[.bool false,.slice none 0 0] 196 (0,0))) w.heap.size:=IntBlk.of (Blk.new _ [.bool false,.slice none 0 0] _)
theorem RSm.num {q:Rat} (h:RSm q):Wide q.num:=Nat.le_trans h.1 (by omega)
theorem RSm.den {q:Rat} (h:RSm q):Wide (q.den:Int):=by unfold Wide;rw [Int.natAbs_natCast];exact Nat.le_trans h.2 (by omega)
theorem RSm.cross {x y:Rat} (hx:RSm x) (hy:RSm y):Wide (x.num*(y.den:Int))∧(digits (x.num*(y.den:Int)).natAbs).length≤20000000:=by
 have:=mul_len x.num.natAbs y.den
 unfold Wide
 rw [Int.natAbs_mul,Int.natAbs_natCast]
 have:=hx.1;have:=hy.2
 exact ⟨by omega,by omega⟩
theorem abs_add_len {x y:Int} {k:Nat} (h1:(digits x.natAbs).length≤k) (h2:(digits y.natAbs).length≤k):(digits (x+y).natAbs).length≤k+1 :=
 Nat.le_trans (digits_mono_len (Int.natAbs_add_le x y)) (add_len h1 h2)
set_option maxRecDepth 100000 in
set_option maxHeartbeats 4000000 in
theorem ratAdd_calls (p q r:Nat) (x y:Rat) (w:World) (hp:RatBlk w p) (hx:RatP w q x) (hy:RatP w r y) (wx:RSm x) (wy:RSm y) :
 Calls Tryz.prog 196 #[.pointer (some ⟨p,0,none⟩),.pointer (some ⟨q,0,none⟩),.pointer (some ⟨r,0,none⟩)] w fun e w'=>e=.returned (.pointer (some ⟨p,0,none⟩))∧RatP w' p (x+y)∧But p w w':=by
 have HX:=hid hx;have HY:=hid hy
 have wn1:=hid wx.num;have wn2:=hid wy.num;have wd1:=hid wx.den;have wd2:=hid wy.den
 have wc1:=hid (wx.cross wy);have wc2:=hid (wy.cross wx)
 have l2:=hid (mul_len x.den y.den)
 have WX:=hid wx;have WY:=hid wy
 have ql:=hx.lt
 have rl:=hy.lt
 have pl:=hp.lt
 clear hx hy wx wy
 go_enter Tryz.func196,Tryz.ntmps196
 go_wp2_with fail
 refine wp_region_kc (w0:=w) 7 [9,10,11,12,13,14,15]
  [.l none (leafA IntBlk · w.heap.size),.c (.pointer (some ⟨q,0,none⟩)),.c (.pointer (some ⟨q,0,none⟩)),.c (.pointer (some ⟨q,0,none⟩)),.c (.pointer (some ⟨r,0,none⟩)),.l none (leafV · (fun p w=>BigP w p (y.den:Int)) w.heap.size),.l (some 9) (leafR 9 · (fun p w=>BigP w p (x.num*(y.den:Int))) w.heap.size)]
  [9,14] IntBlk (by kernel_rfl) (by kernel_rfl) (by kernel_rfl) rfl (F:=?cFr1) ?r1c1 ?r1c2 ?r1c3 ?r1c4
 case r1c1 =>
  intro x
  simp only [fullC,Act.put,List.setIfInBounds_toArray,List.set_cons_zero,List.set_cons_succ]
  rfl
 case r1c2 =>
  exact ⟨keeps_alloc intBlk_ext intBlk_other _ _ _ _ _,keeps_key (calm_big _) _ _ _ _ _ rfl rfl,keeps_res (calm_big _) _ _ _ _ _ rfl (by decide),trivial⟩
 case r1c3 =>
  refine ⟨?_,?_,?_,?_,?_,?_,?_,trivial⟩
  all_goals
   intro xx wq HE hd K hK
   try have g0:=hd 0 _ (by decide) rfl
   try have g5:=hd 5 _ (by decide) rfl
   try have g6:=hd 6 _ (by decide) rfl
   have HE:=hid HE
   clear hd
   all_goals go_simp
   try (refine hK _ _ _ (mv_const _ rfl) ?_;dsimp only [Act.put];first|done|rfl|(simp [*];done))
  ·refine hK _ _ _ (mv_alloc _ HE.out.size (IntBlk.new _)) ?_
   dsimp only [Act.put]
   first|rfl|(simp [*];done)|(simp [*,ptr];done)
  ·refine (denom_calls r y _ (HY.out.ext HE.out)).mono ?_
   rintro e w2 ⟨k,rfl,hk1,hk2,hb2⟩
   exact hK _ _ _ (mv_new hb2 HE.out.size hk1 hk2.lt hk2) (by first|(dsimp only [Act.put];done)|(dsimp only [Act.put];first|rfl|(simp [*];done)|(simp [*,ptr];done)))
  ·obtain ⟨k,h9,hk1,hk2⟩:=g0
   obtain ⟨d,h14,hd1,hd2⟩:=g5
   rw [h9,h14]
   refine (mul_t k q d x.num y.den wq hk2 (HX.out.ext HE.out).2.1 hd2 wn1.out wd2.out).mono ?_
   rintro e w2 ⟨rfl,hz2,hb2,-⟩
   exact hK _ _ _ (mv_set h9 hk1 hk2 hz2.blk hb2 hz2 (by decide) rfl) (by first|(dsimp only [Act.put];done)|(dsimp only [Act.put];first|rfl|(simp [*];done)|(simp [*,ptr];done)))
 case r1c4 =>
  intro xx wz hE hG hA
  have g0:=hG 0 _ rfl
  have g5:=hG 5 _ rfl
  have g6:=hG 6 _ rfl
  obtain ⟨pa,h9,h15,hpa1,hpa2⟩:=g6
  unfold ptr at h15
  have HHE:=hid hE;have HPA:=hid hpa2
  clear hG hA hE g0 g5 hpa2 h9
  refine tail_one (i:=7) (by kernel_rfl) rfl ?_
  intro K hK
  go_simp
  refine hK _ _ ?_
  refine wpAny_done (by kernel_rfl) ?_ _
  go_wp2_with fail
  have HX1:=hid (HX.out.ext HHE.out);have HY1:=hid (HY.out.ext HHE.out)
  clear hK HX HY
  generalize xx 9=V9
  generalize xx 14=V14
  generalize xx 7=V7
  refine wp_region_kc (w0:=wz) 7 [16,17,18,19,20,21,22]
   [.l none (leafA IntBlk · wz.heap.size),.c (.pointer (some ⟨r,0,none⟩)),.c (.pointer (some ⟨r,0,none⟩)),.c (.pointer (some ⟨r,0,none⟩)),.c (.pointer (some ⟨q,0,none⟩)),.l none (leafV · (fun p w=>BigP w p (x.den:Int)) wz.heap.size),.l (some 16) (leafR 16 · (fun p w=>BigP w p (y.num*(x.den:Int))) wz.heap.size)]
   [16,21] IntBlk (by kernel_rfl) (by kernel_rfl) (by kernel_rfl) rfl (F:=?cFr2) ?r2c1 ?r2c2 ?r2c3 ?r2c4
  case r2c1 =>
   intro x
   simp only [fullC,Act.put,List.setIfInBounds_toArray,List.set_cons_zero,List.set_cons_succ]
   rfl
  case r2c2 =>
   exact ⟨keeps_alloc intBlk_ext intBlk_other _ _ _ _ _,keeps_key (calm_big _) _ _ _ _ _ rfl rfl,keeps_res (calm_big _) _ _ _ _ _ rfl (by decide),trivial⟩
  case r2c3 =>
   refine ⟨?_,?_,?_,?_,?_,?_,?_,trivial⟩
   all_goals
    intro xx wq HE hd K hK
    try have g0:=hd 0 _ (by decide) rfl
    try have g5:=hd 5 _ (by decide) rfl
    try have g6:=hd 6 _ (by decide) rfl
    have HE:=hid HE
    clear hd
    all_goals go_simp
    try (refine hK _ _ _ (mv_const _ rfl) ?_;dsimp only [Act.put];first|done|rfl|(simp [*];done))
   ·refine hK _ _ _ (mv_alloc _ HE.out.size (IntBlk.new _)) ?_
    dsimp only [Act.put]
    first|rfl|(simp [*];done)|(simp [*,ptr];done)
   ·refine (denom_calls q x _ (HX1.out.ext HE.out)).mono ?_
    rintro e w2 ⟨k,rfl,hk1,hk2,hb2⟩
    exact hK _ _ _ (mv_new hb2 HE.out.size hk1 hk2.lt hk2) (by first|(dsimp only [Act.put];done)|(dsimp only [Act.put];first|rfl|(simp [*];done)|(simp [*,ptr];done)))
   ·obtain ⟨k,h9,hk1,hk2⟩:=g0
    obtain ⟨d,h14,hd1,hd2⟩:=g5
    rw [h9,h14]
    refine (mul_t k r d y.num x.den wq hk2 (HY1.out.ext HE.out).2.1 hd2 wn2.out wd1.out).mono ?_
    rintro e w2 ⟨rfl,hz2,hb2,-⟩
    exact hK _ _ _ (mv_set h9 hk1 hk2 hz2.blk hb2 hz2 (by decide) rfl) (by first|(dsimp only [Act.put];done)|(dsimp only [Act.put];first|rfl|(simp [*];done)|(simp [*,ptr];done)))
  case r2c4 =>
   intro xx wz hE hG hA
   have g0:=hG 0 _ rfl
   have g5:=hG 5 _ rfl
   have g6:=hG 6 _ rfl
   obtain ⟨pb,h16,h22,hpb1,hpb2⟩:=g6
   unfold ptr at h22
   have HE2:=hid hE;have HPB:=hid hpb2
   clear hG hA hE g0 g5 hpb2 h16
   refine tail_one (i:=7) (by kernel_rfl) rfl ?_
   intro K hK
   go_simp
   refine hK _ _ ?_
   refine wpAny_done (by kernel_rfl) ?_ _
   have HX2:=hid (HX1.out.ext HE2.out);have HY2:=hid (HY1.out.ext HE2.out);have HPA2:=hid (HPA.out.ext HE2.out)
   have HB2:Hid (Below w.heap.size w wz):=hid (HHE.out.trans (HE2.out.mono HHE.out.size))
   have hsz:=HHE.out.size
   have HAD:=hid (add_t pa pa pb (x.num*(y.den:Int)) (y.num*(x.den:Int)) wz HPA2.out.blk HPA2.out HPB.out wc1.out.1 wc2.out.1)
   clear hK HX1 HY1 HPA
   generalize xx 16=V16
   generalize xx 21=V21
   go_wp2_with fail
   refine HAD.out.mono ?_;rintro e w4 ⟨rfl,hs4,hb4,-⟩
   have hB4:Below w.heap.size w w4:=HB2.out.trans (hb4.below hpa1 HB2.out.size)
   have HX4:=hid (HX2.out.but HPA2.out.blk hb4 (by omega));have HY4:=hid (HY2.out.but HPA2.out.blk hb4 (by omega))
   obtain ⟨-,v,c0,c1,hv⟩:=id hs4
   obtain ⟨bx,hbx⟩:∃ bx,Hid (decide (x.num*(y.den:Int)+y.num*(x.den:Int)<0)=bx):=⟨_,rfl⟩
   rw [hbx.out] at c0
   have HS:=hid (set_sign (x.num*(y.den:Int)+y.num*(x.den:Int)))
   have HV:=hid hv;have HB4:=hid hB4
   have l1:=hid (abs_add_len wc1.out.2 wc2.out.2)
   clear hs4 hb4 hB4 hv HX2 HY2 HPA2 HAD HPB
   go_wp2_with fail
   refine wp_region_kc (w0:=w4) 14 [27,28,29,30,31,32,33,34,35,36,37,38,39,40]
    [.c (.pointer (some ⟨p,0,none⟩)),.c (.pointer (some ⟨pa,0,none⟩)),.c (.pointer (some ⟨pa,0,none⟩)),.c (.pointer (some ⟨pa,0,none⟩)),.c (.bool bx),.c (.pointer (some ⟨pa,0,none⟩)),.c (.pointer (some ⟨pa,0,none⟩)),.c (.pointer (some ⟨pa,1,none⟩)),.c v,.c (.pointer (some ⟨q,0,none⟩)),.l none (leaf1 · (fun v w=>WSl w v x.den)),.c (.pointer (some ⟨r,0,none⟩)),.l none (leaf1 · (fun v w=>WSl w v y.den)),.l none (leaf1 · (fun v w=>WSl w v (x.den*y.den)))]
    [] IntBlk (by kernel_rfl) (by kernel_rfl) (by kernel_rfl) rfl (F:=?cFr4) ?r4c1 ?r4c2 ?r4c3 ?r4c4
   case r4c1 =>
    intro x
    simp only [fullC,Act.put,List.setIfInBounds_toArray,List.set_cons_zero,List.set_cons_succ]
    rfl
   case r4c2 =>
    exact ⟨keeps_calm (calm_words _) _ _ _ _ _,keeps_calm (calm_words _) _ _ _ _ _,keeps_calm (calm_words _) _ _ _ _ _,trivial⟩
   case r4c3 =>
    refine ⟨?_,?_,?_,?_,?_,?_,?_,?_,?_,?_,?_,?_,?_,?_,trivial⟩
    all_goals
     intro xx wq HE hd K hK
     have hc:=(bcell HE).1
     have c0':=(hc _ _ (cell_lt c0)).trans c0
     have c1':=(hc _ _ (cell_lt c1)).trans c1
     try have g10:=hd 10 _ (by decide) rfl
     try have g12:=hd 12 _ (by decide) rfl
     try have g13:=hd 13 _ (by decide) rfl
     have HE:=hid HE
     have HC:=hid hc
     clear hd hc
     all_goals go_simp
     try (refine hK _ _ _ (mv_const _ rfl) ?_;dsimp only [Act.put];first|done|rfl|(simp [*];done))
    ·refine (below_calls q x _ (HX4.out.ext HE.out)).mono ?_
     rintro e w2 ⟨v2,rfl,hv2,hb2⟩
     exact hK _ _ _ (mv_plain hb2 hv2 rfl) (by first|(dsimp only [Act.put];done)|(dsimp only [Act.put];first|rfl|(simp [*];done)|(simp [*,ptr];done)))
    ·refine (below_calls r y _ (HY4.out.ext HE.out)).mono ?_
     rintro e w2 ⟨v2,rfl,hv2,hb2⟩
     exact hK _ _ _ (mv_plain hb2 hv2 rfl) (by first|(dsimp only [Act.put];done)|(dsimp only [Act.put];first|rfl|(simp [*];done)|(simp [*,ptr];done)))
    ·refine (times_calls _ _ _ _ _ (by have:=WX.out.2;omega) (by have:=WY.out.2;omega) g10 g12).mono ?_
     rintro e w2 ⟨v2,rfl,hv2,hb2⟩
     exact hK _ _ _ (mv_plain hb2 hv2 rfl) (by first|(dsimp only [Act.put];done)|(dsimp only [Act.put];first|rfl|(simp [*];done)|(simp [*,ptr];done)))
   case r4c4 =>
    intro xx wz hE hG hA
    have g10:=hG 10 _ rfl
    have g12:=hG 12 _ rfl
    have g13:=hG 13 _ rfl
    have HE5:=hid (HB4.out.trans (hE.mono HB4.out.size));have HE6:=hid hE;have HG2:=hid g13
    clear hG hA hE g10 g12 g13
    refine tail_one (i:=14) (by kernel_rfl) rfl ?_
    intro K hK
    go_simp
    refine (ratSet_calls p bx _ _ (x.num*(y.den:Int)+y.num*(x.den:Int)) (x.den*y.den) wz (hp.ext HE5.out) (HV.out.ext HE6.out) HG2.out (Nat.mul_pos x.den_pos y.den_pos) (by rw [←hbx.out];exact HS.out) (by have:=l1.out;omega) (by have:=l2.out;have:=WX.out.2;have:=WY.out.2;omega)).mono ?_
    rintro e w' ⟨rfl,hz',hb'⟩
    refine hK _ _ ?_
    rw [rat_add_mk] at hz'
    have HZ:=hid hz';have HB:=hid (((But.refl p w).ext HE5.out).trans hb')
    clear hz' hb' hK
    refine tail_one (i:=15) (by kernel_rfl) rfl ?_
    intro K hK
    go_simp
    refine hK _ _ ?_
    refine wpAny_done (by kernel_rfl) ?_ _
    go_wp2
    go_ret
    exact ⟨rfl,HZ.out,HB.out⟩
set_option maxRecDepth 100000 in
set_option maxHeartbeats 1000000 in
theorem ratSub_calls (p q r:Nat) (x y:Rat) (w:World) (hp:RatBlk w p) (hx:RatP w q x) (hy:RatP w r y) (wx:RSm x) (wy:RSm y) :
 Calls Tryz.prog 166 #[.pointer (some ⟨p,0,none⟩),.pointer (some ⟨q,0,none⟩),.pointer (some ⟨r,0,none⟩)] w fun e w'=>e=.returned (.pointer (some ⟨p,0,none⟩))∧RatP w' p (x-y)∧But p w w':=by
 have pl:=hp.lt
 have hA:Below w.heap.size w (w.alloc (.cells #[.bool false,.slice none 0 0,.slice none 0 0] 203 (0,0))):=(Below.refl _ _).alloc (Nat.le_refl _) _
 have HA:=hid hA
 have HC:=hid (ratNeg_calls w.heap.size r y _ (RatBlk.new w) (hy.ext hA))
 have wn:=wy.neg
 clear hA hy
 go_enter Tryz.func166,Tryz.ntmps166
 go_wp2_with fail
 refine HC.out.mono ?_;rintro e w1 ⟨rfl,hz,hb⟩
 have hB:=HA.out.trans (hb.below (Nat.le_refl _) HA.out.size)
 have HB:=hid hB
 have HD:=hid (ratAdd_calls p q w.heap.size x (-y) w1 (hp.ext hB) (hx.ext hB) hz wx wn)
 clear hz hb hB HC HA
 go_wp2_with fail
 refine HD.out.mono ?_;rintro e w2 ⟨rfl,hz,hb⟩
 go_wp2
 go_ret
 exact ⟨rfl,by rw [Rat.sub_eq_add_neg];exact hz,((But.refl p w).ext HB.out).trans hb⟩
set_option maxRecDepth 100000 in
set_option maxHeartbeats 1000000 in
theorem ratQuo_calls (p q r:Nat) (x y:Rat) (w:World) (hp:RatBlk w p) (hx:RatP w q x) (hy:RatP w r y) (wx:RSm x) (wy:RSm y) (h0:y.num≠0) :
 Calls Tryz.prog 169 #[.pointer (some ⟨p,0,none⟩),.pointer (some ⟨q,0,none⟩),.pointer (some ⟨r,0,none⟩)] w fun e w'=>e=.returned (.pointer (some ⟨p,0,none⟩))∧RatP w' p (x / y)∧But p w w':=by
 have pl:=hp.lt
 have hA:Below w.heap.size w (w.alloc (.cells #[.bool false,.slice none 0 0,.slice none 0 0] 203 (0,0))):=(Below.refl _ _).alloc (Nat.le_refl _) _
 have HA:=hid hA
 have HC:=hid (inv_calls w.heap.size r y _ (RatBlk.new w) (hy.ext hA) h0)
 have wn:=wy.inv h0
 clear hA hy h0
 go_enter Tryz.func169,Tryz.ntmps169
 go_wp2_with fail
 refine HC.out.mono ?_;rintro e w1 ⟨rfl,hz,hb⟩
 have hB:=HA.out.trans (hb.below (Nat.le_refl _) HA.out.size)
 have HB:=hid hB
 have HD:=hid (ratMul_calls p q w.heap.size x y⁻¹ w1 (hp.ext hB) (hx.ext hB) hz wx wn)
 clear hz hb hB HC HA
 go_wp2_with fail
 refine HD.out.mono ?_;rintro e w2 ⟨rfl,hz,hb⟩
 go_wp2
 go_ret
 exact ⟨rfl,by rw [Rat.div_def];exact hz,((But.refl p w).ext HB.out).trans hb⟩
def sgnQ (x y:Rat):Int:=sgnI (x.num*(y.den:Int)) (y.num*(x.den:Int))
theorem cmpQ (p q:Nat) (x y:Rat) (w:World) (hx:BigP w p (x.num*(y.den:Int))) (hy:BigP w q (y.num*(x.den:Int))) :
 Calls Tryz.prog 227 #[.pointer (some ⟨p,0,none⟩),.pointer (some ⟨q,0,none⟩)] w fun e w'=>e=.returned (.int .i64 (sgnQ x y))∧∃ k,w'=w.drewN k:=cmp_calls p q _ _ w hx hy
set_option maxRecDepth 100000 in
set_option maxHeartbeats 2000000 in
theorem ratCmp_calls (q r:Nat) (x y:Rat) (w:World) (hx:RatP w q x) (hy:RatP w r y) (wx:RSm x) (wy:RSm y) :
 Calls Tryz.prog 232 #[.pointer (some ⟨q,0,none⟩),.pointer (some ⟨r,0,none⟩)] w fun e w'=>e=.returned (.int .i64 (sgnQ x y))∧Below w.heap.size w w':=by
 have HX:=hid hx;have HY:=hid hy
 have wn1:=hid wx.num;have wn2:=hid wy.num;have wd1:=hid wx.den;have wd2:=hid wy.den
 clear hx hy
 go_enter Tryz.func232,Tryz.ntmps232
 go_wp2_with fail
 refine wp_region_kc (w0:=w) 16 [5,6,7,8,9,10,11,12,13,14,15,16,17,18,19,4]
  [.l none (leafA IntBlk · w.heap.size),.c (.pointer (some ⟨q,0,none⟩)),.c (.pointer (some ⟨q,0,none⟩)),.c (.pointer (some ⟨q,0,none⟩)),.c (.pointer (some ⟨r,0,none⟩)),.l none (leafV · (fun p w=>BigP w p (y.den:Int)) w.heap.size),.l (some 5) (leafR 5 · (fun p w=>BigP w p (x.num*(y.den:Int))) w.heap.size),.l none (leafA IntBlk · w.heap.size),.c (.pointer (some ⟨r,0,none⟩)),.c (.pointer (some ⟨r,0,none⟩)),.c (.pointer (some ⟨r,0,none⟩)),.c (.pointer (some ⟨q,0,none⟩)),.l none (leafV · (fun p w=>BigP w p (x.den:Int)) w.heap.size),.l (some 12) (leafR 12 · (fun p w=>BigP w p (y.num*(x.den:Int))) w.heap.size),.c (.int .i64 (sgnQ x y)),.c (.int .i64 (sgnQ x y))]
  [5,10,12,17] IntBlk (by kernel_rfl) (by kernel_rfl) (by kernel_rfl) rfl (F:=?cFc1) ?c1c1 ?c1c2 ?c1c3 ?c1c4
 case c1c1 =>
  intro x
  simp only [fullC,Act.put,List.setIfInBounds_toArray,List.set_cons_zero,List.set_cons_succ]
  rfl
 case c1c2 =>
  exact ⟨keeps_alloc intBlk_ext intBlk_other _ _ _ _ _,keeps_key (calm_big _) _ _ _ _ _ rfl rfl,keeps_res (calm_big _) _ _ _ _ _ rfl (by decide),keeps_alloc intBlk_ext intBlk_other _ _ _ _ _,keeps_key (calm_big _) _ _ _ _ _ rfl rfl,keeps_res (calm_big _) _ _ _ _ _ rfl (by decide),trivial⟩
 case c1c3 =>
  refine ⟨?_,?_,?_,?_,?_,?_,?_,?_,?_,?_,?_,?_,?_,?_,?_,?_,trivial⟩
  all_goals
   intro xx wq HE hd K hK
   try have g0:=hd 0 _ (by decide) rfl
   try have g5:=hd 5 _ (by decide) rfl
   try have g6:=hd 6 _ (by decide) rfl
   try have g7:=hd 7 _ (by decide) rfl
   try have g12:=hd 12 _ (by decide) rfl
   try have g13:=hd 13 _ (by decide) rfl
   have HE:=hid HE
   clear hd
   all_goals go_simp
   try (refine hK _ _ _ (mv_const _ rfl) ?_;dsimp only [Act.put];first|done|rfl|(simp [*];done))
  ·refine hK _ _ _ (mv_alloc _ HE.out.size (IntBlk.new _)) ?_
   dsimp only [Act.put]
   first|rfl|(simp [*];done)|(simp [*,ptr];done)
  ·refine (denom_calls r y _ (HY.out.ext HE.out)).mono ?_
   rintro e w2 ⟨k,rfl,hk1,hk2,hb2⟩
   exact hK _ _ _ (mv_new hb2 HE.out.size hk1 hk2.lt hk2) (by first|(dsimp only [Act.put];done)|(dsimp only [Act.put];first|rfl|(simp [*];done)|(simp [*,ptr];done)))
  ·obtain ⟨k,h9,hk1,hk2⟩:=g0
   obtain ⟨d,h14,hd1,hd2⟩:=g5
   rw [h9,h14]
   refine (mul_t k q d x.num y.den wq hk2 (HX.out.ext HE.out).2.1 hd2 wn1.out wd2.out).mono ?_
   rintro e w2 ⟨rfl,hz2,hb2,-⟩
   exact hK _ _ _ (mv_set h9 hk1 hk2 hz2.blk hb2 hz2 (by decide) rfl) (by first|(dsimp only [Act.put];done)|(dsimp only [Act.put];first|rfl|(simp [*];done)|(simp [*,ptr];done)))
  ·refine hK _ _ _ (mv_alloc _ HE.out.size (IntBlk.new _)) ?_
   dsimp only [Act.put]
   first|rfl|(simp [*];done)|(simp [*,ptr];done)
  ·refine (denom_calls q x _ (HX.out.ext HE.out)).mono ?_
   rintro e w2 ⟨k,rfl,hk1,hk2,hb2⟩
   exact hK _ _ _ (mv_new hb2 HE.out.size hk1 hk2.lt hk2) (by first|(dsimp only [Act.put];done)|(dsimp only [Act.put];first|rfl|(simp [*];done)|(simp [*,ptr];done)))
  ·obtain ⟨k,h9,hk1,hk2⟩:=g7
   obtain ⟨d,h14,hd1,hd2⟩:=g12
   rw [h9,h14]
   refine (mul_t k r d y.num x.den wq hk2 (HY.out.ext HE.out).2.1 hd2 wn2.out wd1.out).mono ?_
   rintro e w2 ⟨rfl,hz2,hb2,-⟩
   exact hK _ _ _ (mv_set h9 hk1 hk2 hz2.blk hb2 hz2 (by decide) rfl) (by first|(dsimp only [Act.put];done)|(dsimp only [Act.put];first|rfl|(simp [*];done)|(simp [*,ptr];done)))
  ·obtain ⟨k,-,h9,hk1,hk2⟩:=g6
   obtain ⟨d,-,h14,hd1,hd2⟩:=g13
   rw [h9,h14]
   refine (cmpQ k d x y wq hk2 hd2).mono ?_
   rintro e w2 ⟨rfl,k3,rfl⟩
   exact hK _ _ _ (mv_plain (drewN_below _ _) rfl rfl) (by first|(dsimp only [Act.put];done)|(dsimp only [Act.put];first|rfl|(simp [*];done)|(simp [*,ptr];done)))
 case c1c4 =>
  intro xx wz hE hG hA
  have g0:=hG 0 _ rfl
  have g5:=hG 5 _ rfl
  have g6:=hG 6 _ rfl
  have g7:=hG 7 _ rfl
  have g12:=hG 12 _ rfl
  have g13:=hG 13 _ rfl
  have HE5:=hid hE
  clear hG hA hE g0 g5 g6 g7 g12 g13
  refine wpAny_done (by kernel_rfl) ?_ _
  go_wp2
  go_ret
  exact ⟨rfl,HE5.out⟩
end
end Go.Proofs.YtkljafmdbajfeaaGreatDoor
