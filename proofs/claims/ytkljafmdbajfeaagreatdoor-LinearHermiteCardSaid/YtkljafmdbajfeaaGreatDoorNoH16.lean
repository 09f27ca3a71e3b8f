/- Package big: Set, Neg, Abs, Sub, QuoRem, Quo, DivMod, Mod. -/
import Derived.Test.YtkljafmdbajfeaaGreatDoorNoH15
namespace Go.Proofs.YtkljafmdbajfeaaGreatDoor
set_option linter.unusedVariables false
set_option linter.unusedSimpArgs false
open Go.Lib (hid)
section
open Go.RowKit
theorem set_sign (z:Int):(decide (z<0) && decide (0<z.natAbs))=decide (z<0):=by
 by_cases h:z<0
 ·rw [decide_eq_true h,decide_eq_true (show 0<z.natAbs by omega)];rfl
 ·rw [decide_eq_false h];rfl
set_option maxRecDepth 100000 in
set_option maxHeartbeats 1000000 in
theorem setInt_t (p q:Nat) (z:Int) (w:World) (hp:IntBlk w p) (hz:BigP w q z) :
 Calls Tryz.prog 161 #[.pointer (some ⟨p,0,none⟩),.pointer (some ⟨q,0,none⟩)] w fun e w'=>e=.returned (.pointer (some ⟨p,0,none⟩))∧BigP w' p z∧But p w w'∧Tail p w w':=by
 obtain ⟨-,v,hb0,hb1,hv⟩:=id hz
 have c0:w.cell? ⟨q,0,none⟩=some (.bool (decide (z<0))):=hb0
 have c1:w.cell? ⟨q,1,none⟩=some v:=hb1
 have hs:=set_sign z
 have HS:=hid hs
 clear hs hb0 hb1 hz
 go_enter Tryz.func161,Tryz.ntmps161
 go_wp2_with fail
 go_still_tail 9,(by kernel_rfl)
 change wpList _ _ _ _ _ w.drew
 go_wp2_with fail
 refine (set_t p _ v z.natAbs z w.drew (hp.ext (drewN_below w 1)) (hv.ext (drewN_below w 1)) rfl HS.out).mono ?_;rintro e w3 ⟨rfl,hz3,hb3,ht3⟩
 go_wp2
 go_ret
 exact ⟨rfl,hz3,((But.refl p w).ext (drewN_below w 1)).trans hb3,Tail.trans (Tail.of rfl) ht3⟩
set_option maxRecDepth 100000 in
set_option maxHeartbeats 1000000 in
theorem neg_t (p q:Nat) (z:Int) (w:World) (hp:IntBlk w p) (hz:BigP w q z) :
 Calls Tryz.prog 164 #[.pointer (some ⟨p,0,none⟩),.pointer (some ⟨q,0,none⟩)] w fun e w'=>e=.returned (.pointer (some ⟨p,0,none⟩))∧BigP w' p (-z)∧But p w w'∧Tail p w w':=by
 obtain ⟨-,v,hb0,hb1,hv⟩:=id hz
 have c0:w.cell? ⟨q,0,none⟩=some (.bool (decide (z<0))):=hb0
 have c1:w.cell? ⟨q,1,none⟩=some v:=hb1
 have hs:=neg_sign z
 have HS:=hid hs
 clear hs hb0 hb1 hz
 go_enter Tryz.func164,Tryz.ntmps164
 go_wp2_with fail
 go_still_tail 10,(by kernel_rfl)
 change wpList _ _ _ _ _ w.drew
 go_wp2_with fail
 refine (set_t p _ v z.natAbs (-z) w.drew (hp.ext (drewN_below w 1)) (hv.ext (drewN_below w 1)) (by omega) HS.out).mono ?_;rintro e w3 ⟨rfl,hz3,hb3,ht3⟩
 go_wp2
 go_ret
 exact ⟨rfl,hz3,((But.refl p w).ext (drewN_below w 1)).trans hb3,Tail.trans (Tail.of rfl) ht3⟩
set_option maxRecDepth 100000 in
set_option maxHeartbeats 1000000 in
theorem abs_calls (p q:Nat) (z:Int) (w:World) (hp:IntBlk w p) (hz:BigP w q z) :
 Calls Tryz.prog 173 #[.pointer (some ⟨p,0,none⟩),.pointer (some ⟨q,0,none⟩)] w fun e w'=>e=.returned (.pointer (some ⟨p,0,none⟩))∧BigP w' p (z.natAbs:Int)∧But p w w':=by
 obtain ⟨-,v,hb0,hb1,hv⟩:=id hz
 have c1:w.cell? ⟨q,1,none⟩=some v:=hb1
 clear hb0 hb1 hz
 go_enter Tryz.func173,Tryz.ntmps173
 go_wp2_with fail
 refine (set_t p _ v z.natAbs (z.natAbs:Int) w hp hv (by omega) (by simp)).mono ?_;rintro e w3 ⟨rfl,hz3,hb3,ht3⟩
 go_wp2
 go_ret
 exact ⟨rfl,hz3,hb3⟩
set_option maxRecDepth 100000 in
set_option maxHeartbeats 1000000 in
theorem sub_t (p q r:Nat) (x y:Int) (w:World) (hp:IntBlk w p) (hx:BigP w q x) (hy:BigP w r y) (wx:Wide x) (wy:Wide y) :
 Calls Tryz.prog 206 #[.pointer (some ⟨p,0,none⟩),.pointer (some ⟨q,0,none⟩),.pointer (some ⟨r,0,none⟩)] w fun e w'=>e=.returned (.pointer (some ⟨p,0,none⟩))∧BigP w' p (x-y)∧But p w w'∧Tail p w w':=by
 have pl:=hp.lt
 have ql:=hx.lt
 have wy':Wide (-y):=by unfold Wide;rw [Int.natAbs_neg];exact wy
 have hn1:BigP (w.alloc (.cells #[.bool false,.slice none 0 0] 196 (0,0))) r y:=hy.ext ((Below.refl _ _).alloc (Nat.le_refl _) _)
 have hn2:IntBlk (w.alloc (.cells #[.bool false,.slice none 0 0] 196 (0,0))) w.heap.size:=.of (Blk.new _ [.bool false,.slice none 0 0] _)
 go_enter Tryz.func206,Tryz.ntmps206
 go_wp2_with fail
 refine (neg_calls w.heap.size r y _ hn2 hn1).mono ?_;rintro e w3 ⟨rfl,hz3,hb3⟩
 have hb:=hb3.grown (by simp) ((Below.refl _ _).alloc (Nat.le_refl _) _)
 go_wp2_with fail
 refine (add_t p q w.heap.size x (-y) w3 (hp.ext hb) (hx.ext hb) hz3 wx wy').mono ?_;rintro e w4 ⟨rfl,hz4,hb4,ht4⟩
 go_wp2
 go_ret
 exact ⟨rfl,by rw [Int.sub_eq_add_neg];exact hz4,((But.refl p w).ext hb).trans hb4,Tail.trans (Tail.of (hb.block p pl)) ht4⟩
structure But2 (p s:Nat) (w w':World):Prop where
 os:w'.os=w.os
 tape:w'.tape=w.tape
 output:w'.output=w.output
 size:w.heap.size≤w'.heap.size
 block:∀ k,k<w.heap.size→k≠p→k≠s→w'.heap[k]? = w.heap[k]?
theorem But2.of {p s:Nat} {w w1 w':World} (h:But p w w1) (k:But s w1 w'):But2 p s w w' :=
 ⟨k.os.trans h.os,k.tape.trans h.tape,k.output.trans h.output,Nat.le_trans h.size k.size,fun i hi h1 h2=>(k.block i (Nat.lt_of_lt_of_le hi h.size) h2).trans (h.block i hi h1)⟩
theorem But2.pre {p s:Nat} {w w1 w':World} (h:Below w.heap.size w w1) (k:But2 p s w1 w'):But2 p s w w' :=
 ⟨k.os.trans h.os,k.tape.trans h.tape,k.output.trans h.output,Nat.le_trans h.size k.size,fun i hi h1 h2=>(k.block i (Nat.lt_of_lt_of_le hi h.size) h1 h2).trans (h.block i hi)⟩
theorem But2.below {p s B:Nat} {w w':World} (h:But2 p s w w') (hp:B≤p) (hs:B≤s) (hB:B≤w.heap.size):Below B w w' :=
 ⟨h.os,h.tape,h.output,h.size,fun k hk=>h.block k (by omega) (by omega) (by omega)⟩
theorem But2.snd {p s:Nat} {w w':World} (h:But2 p s w w') (hs:w.heap.size≤s):But p w w' :=
 ⟨h.os,h.tape,h.output,h.size,fun k hk h1=>h.block k hk h1 (by omega)⟩
theorem tdiv_sign (x y:Int):(x.tdiv y).natAbs=x.natAbs / y.natAbs∧((!(decide (x<0) == decide (y<0))) && decide (0<x.natAbs / y.natAbs))=decide (x.tdiv y<0):=by
 have h1:(x.tdiv y).natAbs=x.natAbs / y.natAbs:=Int.natAbs_tdiv x y
 refine ⟨h1,?_⟩
 rw [←h1]
 have e1:x<0→y<0→0≤x.tdiv y:=fun h k=>Int.tdiv_nonneg_of_nonpos_of_nonpos (by omega) (by omega)
 have e2:x<0→¬ y<0→0 ≤ -(x.tdiv y):=fun h k=>by
  have:0≤(-x).tdiv y:=Int.tdiv_nonneg (by omega) (by omega)
  rwa [Int.neg_tdiv] at this
 have e3:¬ x<0→y<0→0 ≤ -(x.tdiv y):=fun h k=>by
  have:0≤x.tdiv (-y):=Int.tdiv_nonneg (by omega) (by omega)
  rwa [Int.tdiv_neg] at this
 have e4:¬ x<0→¬ y<0→0≤x.tdiv y:=fun h k=>Int.tdiv_nonneg (by omega) (by omega)
 clear h1
 generalize x.tdiv y=t at *
 by_cases hx:x<0<;>by_cases hy:y<0
 ·have:=e1 hx hy
  rw [decide_eq_true hx,decide_eq_true hy,decide_eq_false (show ¬ t<0 by omega)];rfl
 ·have:=e2 hx hy
  rw [decide_eq_true hx,decide_eq_false hy,decide_eq_decide.2 (show 0<t.natAbs↔t<0 by omega)];rfl
 ·have:=e3 hx hy
  rw [decide_eq_false hx,decide_eq_true hy,decide_eq_decide.2 (show 0<t.natAbs↔t<0 by omega)];rfl
 ·have:=e4 hx hy
  rw [decide_eq_false hx,decide_eq_false hy,decide_eq_false (show ¬ t<0 by omega)];rfl
theorem tmod_sign (x y:Int):(x.tmod y).natAbs=x.natAbs % y.natAbs∧(decide (x<0) && decide (0<x.natAbs % y.natAbs))=decide (x.tmod y<0):=by
 have h1:(x.tmod y).natAbs=x.natAbs % y.natAbs:=Int.natAbs_tmod x y
 refine ⟨h1,?_⟩
 rw [←h1]
 have e1:x<0→0 ≤ -(x.tmod y):=fun h=>by
  have:0≤(-x).tmod y:=Int.tmod_nonneg _ (by omega)
  rwa [Int.neg_tmod] at this
 have e2:¬ x<0→0≤x.tmod y:=fun h=>Int.tmod_nonneg y (by omega)
 clear h1
 generalize x.tmod y=t at *
 by_cases hx:x<0
 ·have:=e1 hx
  rw [decide_eq_true hx,decide_eq_decide.2 (show 0<t.natAbs↔t<0 by omega)];rfl
 ·have:=e2 hx
  rw [decide_eq_false hx,decide_eq_false (show ¬ t<0 by omega)];rfl
set_option maxRecDepth 100000 in
set_option maxHeartbeats 2000000 in
theorem quoRem_calls (p q r s:Nat) (x y:Int) (w:World) (hp:IntBlk w p) (hs:IntBlk w s) (hne:p≠s) (hx:BigP w q x) (hy:BigP w r y) (hy0:y≠0) (wx:Wide x) (wy:Wide y) :
 Calls Tryz.prog 162 #[.pointer (some ⟨p,0,none⟩),.pointer (some ⟨q,0,none⟩),.pointer (some ⟨r,0,none⟩),.pointer (some ⟨s,0,none⟩)] w fun e w'=>e=.returned (.tuple #[.pointer (some ⟨p,0,none⟩),.pointer (some ⟨s,0,none⟩)])∧BigP w' p (x.tdiv y)∧BigP w' s (x.tmod y)∧But2 p s w w':=by
 obtain ⟨-,v,hb0,hb1,hv⟩:=id hx
 obtain ⟨-,u,hd0,hd1,hu⟩:=id hy
 have c0:w.cell? ⟨q,0,none⟩=some (.bool (decide (x<0))):=hb0
 have c1:w.cell? ⟨q,1,none⟩=some v:=hb1
 have d0:w.cell? ⟨r,0,none⟩=some (.bool (decide (y<0))):=hd0
 have d1:w.cell? ⟨r,1,none⟩=some u:=hd1
 obtain ⟨bx,hbx⟩:∃ bx,Hid (decide (x<0)=bx):=⟨_,rfl⟩
 obtain ⟨bY,hby⟩:∃ bY,Hid (decide (y<0)=bY):=⟨_,rfl⟩
 rw [hbx.out] at c0
 rw [hby.out] at d0
 have h1:=tdiv_sign x y
 have h2:=tmod_sign x y
 rw [hbx.out,hby.out] at h1
 rw [hbx.out] at h2
 obtain ⟨bs,hbs⟩:∃ bs,Hid ((!(bx == bY))=bs):=⟨_,rfl⟩
 have q5:∀ w,(binOp .neq 4 (.bool bx) (.bool bY)).run Tryz.prog w=.ok (.bool bs) w:=fun w=>by rw [neqBool,hbs.out]
 rw [hbs.out] at h1
 have H1:=hid h1;have H2:=hid h2
 have HDV:Hid (∀ W,Below w.heap.size w W→_):=hid fun W hW=>divide_calls v u x.natAbs y.natAbs W (by omega) wx wy (hv.ext hW) (hu.ext hW)
 have ql:=hx.lt
 have rl:=hy.lt
 clear hb0 hb1 hd0 hd1 hv hu hx hy h1 h2
 go_enter Tryz.func162,Tryz.ntmps162
 go_wp2_with fail
 go_region_held3 (fun w'=>w'.cell? ⟨q,1,none⟩=some v∧w'.cell? ⟨r,1,none⟩=some u)
  (first|(go_keep;done))
  (first|(go_at_call 195;((with_reducible refine (HDV.out _ (by first|exact drewN_below w _|exact (Below.refl _ _).drew|exact Below.refl _ _)).mono ?_);rintro e w2 ⟨v1,v2,rfl,hv1,hv2,hb2⟩);have hB2:Below w.heap.size w w2:=ext_trans (by first|exact drewN_below w _|exact (Below.refl _ _).drew|exact Below.refl _ _) hb2;have hc2:=(bcell hB2).1;have z0:=(hc2 _ _ ql).trans c0;have z1:=(hc2 _ _ ql).trans c1;have y0:=(hc2 _ _ rl).trans d0;have y1:=(hc2 _ _ rl).trans d1;have HV1:=hid hv1;have HV2:=hid hv2;clear hc2 hb2 hv1 hv2))
 all_goals
  clear c0 c1 d0 d1 HDV
  go_wp2_with fail
  go_quiet (fail)
  have hB3:Below w.heap.size w (w2.drewN nq):=hB2.trans ((drewN_below w2 nq).mono hB2.size)
  obtain ⟨w3,hw3⟩:∃ w3,Hid (w2.drewN nq=w3):=⟨_,rfl⟩
  have HV1':=hid (HV1.out.drewN nq);have HV2':=hid (HV2.out.drewN nq)
  rw [hw3.out] at hB3 HV1' HV2' ⊢
  clear z0 z1 y0 y1
  go_wp2_with fail
  refine (set_z p _ _ _ (x.tdiv y) w3 (hp.ext hB3) HV1'.out H1.out.1 H1.out.2).mono ?_;rintro e w4 ⟨rfl,hz4,hb4⟩
  have HZ4:=hid hz4
  clear hz4
  go_wp2_with fail
  refine (set_z s _ _ _ (x.tmod y) w4 ((hs.ext hB3).other hb4 hne.symm) (HV2'.out.but (hp.ext hB3) hb4) H2.out.1 H2.out.2).mono ?_;rintro e w5 ⟨rfl,hz5,hb5⟩
  go_wp2
  go_ret2
  exact ⟨rfl,HZ4.out.but ((hs.ext hB3).other hb4 hne.symm) hb5 hne,hz5,But2.pre hB3 (But2.of hb4 hb5)⟩
set_option maxRecDepth 100000 in
set_option maxHeartbeats 1000000 in
theorem quo_calls (p q r:Nat) (x y:Int) (w:World) (hp:IntBlk w p) (hx:BigP w q x) (hy:BigP w r y) (hy0:y≠0) (wx:Wide x) (wy:Wide y) :
 Calls Tryz.prog 174 #[.pointer (some ⟨p,0,none⟩),.pointer (some ⟨q,0,none⟩),.pointer (some ⟨r,0,none⟩)] w fun e w'=>e=.returned (.pointer (some ⟨p,0,none⟩))∧BigP w' p (x.tdiv y)∧But p w w':=by
 have pl:=hp.lt
 have hA:Below w.heap.size w (w.alloc (.cells #[.bool false,.slice none 0 0] 196 (0,0))):=(Below.refl _ _).alloc (Nat.le_refl _) _
 have hn2:IntBlk (w.alloc (.cells #[.bool false,.slice none 0 0] 196 (0,0))) w.heap.size:=.of (Blk.new _ [.bool false,.slice none 0 0] _)
 have HC:=hid (quoRem_calls p q r w.heap.size x y _ (hp.ext hA) hn2 (by omega) (hx.ext hA) (hy.ext hA) hy0 wx wy)
 go_enter Tryz.func174,Tryz.ntmps174
 go_wp2_with fail
 refine HC.out.mono ?_;rintro e w3 ⟨rfl,hz,hr,hb⟩
 have hb2:=(But2.pre hA hb).snd (Nat.le_refl _)
 have HZ:=hid hz
 clear hz hr hb HC
 go_wp2
 go_ret
 exact ⟨rfl,HZ.out,hb2⟩
end
section
open Go.RowKit
theorem Wide.mono {x y:Int} (h:Wide y) (hn:x.natAbs≤y.natAbs):Wide x:=Nat.le_trans (digits_mono_len hn) h
theorem wide_small {x:Int} (h:x.natAbs<18446744073709551616):Wide x:=Nat.le_trans (digits_small.2 h) (by omega)
theorem mod_low (x y:Int) (hy:0<y) (h:x.tmod y<0):x / y=x.tdiv y-1∧x % y=x.tmod y+y:=by
 have h1:=Int.mul_tdiv_add_tmod x y
 have h2:=Int.natAbs_tmod x y
 have h3:x.natAbs % y.natAbs<y.natAbs:=Nat.mod_lt _ (by omega)
 have:=(Int.ediv_emod_unique hy (a:=x) (r:=x.tmod y+y) (q:=x.tdiv y-1)).2 ⟨by rw [Int.mul_sub];omega,by omega,by omega⟩
 exact this
theorem mod_high (x y:Int) (hy:0<y) (h:0≤x.tmod y):x / y=x.tdiv y∧x % y=x.tmod y:=by
 have h1:=Int.mul_tdiv_add_tmod x y
 have h2:=Int.natAbs_tmod x y
 have h3:x.natAbs % y.natAbs<y.natAbs:=Nat.mod_lt _ (by omega)
 exact (Int.ediv_emod_unique hy (a:=x) (r:=x.tmod y) (q:=x.tdiv y)).2 ⟨by omega,h,by omega⟩
set_option maxRecDepth 100000 in
set_option maxHeartbeats 2000000 in
theorem divMod_calls (p q r s:Nat) (x y:Int) (w:World) (hp:IntBlk w p) (hs:IntBlk w s) (hne:p≠s) (hx:BigP w q x) (hy:BigP w r y) (hy0:0<y) (wx:Wide x) (wy:Wide y) :
 Calls Tryz.prog 188 #[.pointer (some ⟨p,0,none⟩),.pointer (some ⟨q,0,none⟩),.pointer (some ⟨r,0,none⟩),.pointer (some ⟨s,0,none⟩)] w fun e w'=>e=.returned (.tuple #[.pointer (some ⟨p,0,none⟩),.pointer (some ⟨s,0,none⟩)])∧BigP w' p (x / y)∧BigP w' s (x % y)∧But2 p s w w':=by
 have pl:=hp.lt
 have sl:=hs.lt
 have rl:=hy.lt
 have hA1:Below w.heap.size w (w.alloc (.cells #[.bool false,.slice none 0 0] 196 (0,0))):=(Below.refl _ _).alloc (Nat.le_refl _) _
 have hA2:Below w.heap.size w ((w.alloc (.cells #[.bool false,.slice none 0 0] 196 (0,0))).alloc (.cells #[.bool false,.slice none 0 0] 196 (0,0))):=hA1.alloc hA1.size _
 have hn1:IntBlk ((w.alloc (.cells #[.bool false,.slice none 0 0] 196 (0,0))).alloc (.cells #[.bool false,.slice none 0 0] 196 (0,0))) w.heap.size:=(IntBlk.of (Blk.new _ [.bool false,.slice none 0 0] _)).ext ((Below.refl _ _).alloc (Nat.le_refl _) _)
 have hn2:IntBlk ((w.alloc (.cells #[.bool false,.slice none 0 0] 196 (0,0))).alloc (.cells #[.bool false,.slice none 0 0] 196 (0,0))) (w.heap.size+1):=by
  have:=Blk.new (w.alloc (.cells #[.bool false,.slice none 0 0] 196 (0,0))) [.bool false,.slice none 0 0] 196
  rw [show (w.alloc (.cells #[.bool false,.slice none 0 0] 196 (0,0))).heap.size=w.heap.size+1 by simp] at this
  exact .of this
 have HC:=hid (quoRem_calls w.heap.size q r (w.heap.size+1) x y _ hn1 hn2 (by omega) (hx.ext hA2) (hy.ext hA2) (by omega) wx wy)
 have HA2:=hid hA2
 have hlo:=mod_low x y hy0
 have hhi:=mod_high x y hy0
 have HLO:=hid hlo;have HHI:=hid hhi
 have wq:Wide (x.tdiv y):=wx.mono (by rw [Int.natAbs_tdiv];exact Nat.div_le_self _ _)
 have wr:Wide (x.tmod y):=wx.mono (by rw [Int.natAbs_tmod];exact Nat.mod_le _ _)
 clear hA1 hA2 hn1 hn2 hlo hhi
 generalize x.tdiv y=Q at *
 generalize x.tmod y=R at *
 go_enter Tryz.func188,Tryz.ntmps188
 go_wp2_with fail
 refine HC.out.mono ?_;rintro e w3 ⟨rfl,hq3,hr3,hb3⟩
 have hB3:Below w.heap.size w w3:=HA2.out.trans (hb3.below (Nat.le_refl _) (by omega) HA2.out.size)
 have HB3:=hid hB3
 have hsg:=sign_calls (w.heap.size+1) R w3 hr3
 have HQ3:=hid hq3;have HR3:=hid hr3
 clear hq3 hr3 hb3 HC HA2 hB3
 by_cases hR:R<0
 ·rw [sgnI_lt hR] at hsg
  have HSG:=hid hsg
  obtain ⟨f1,f2⟩:=HLO.out hR
  have F1:=hid f1;have F2:=hid f2
  clear hsg f1 f2 HHI
  go_wp2_with fail
  refine HSG.out.mono ?_;rintro e w4 ⟨rfl,e4⟩
  subst e4
  go_wp2_with fail
  refine (newInt_calls 1 w4 (by omega) (by omega)).mono ?_;rintro e w5 ⟨pn,rfl,hpn,h15,hb5⟩
  have hB5:=HB3.out.trans (hb5.mono HB3.out.size)
  have hq5:=HQ3.out.ext hb5
  have hr5:=HR3.out.ext hb5
  have HB5:=hid hB5;have HR5:=hid hr5;have HQ5:=hid hq5;have H15:=hid h15
  clear hb5 hB5 hq5 hr5 h15
  go_wp2_with fail
  refine (sub_t w.heap.size w.heap.size pn Q 1 w5 HQ5.out.blk HQ5.out H15.out wq (wide_small (by decide))).mono ?_;rintro e w6 ⟨rfl,hq6,hb6,-⟩
  have hr6:=HR5.out.but HQ5.out.blk hb6 (by omega)
  have hy6:BigP w6 r y:=(hy.ext HB5.out).but HQ5.out.blk hb6 (by omega)
  have hB6:=HB5.out.trans (hb6.below (Nat.le_refl _) HB5.out.size)
  have HR6:=hid hr6;have HY6:=hid hy6;have HB6:=hid hB6;have HQ6:=hid hq6
  clear hr6 hy6 hB6 hq6 hb6
  go_wp2_with fail
  refine (add_t (w.heap.size+1) (w.heap.size+1) r R y w6 HR6.out.blk HR6.out HY6.out wr wy).mono ?_;rintro e w7 ⟨rfl,hr7,hb7,-⟩
  have hq7:=HQ6.out.but HR6.out.blk hb7 (by omega)
  have hB7:=HB6.out.trans (hb7.below (by omega) HB6.out.size)
  rw [←F1.out] at hq7
  rw [←F2.out] at hr7
  have HR7:=hid hr7;have HB7:=hid hB7;have HQ7:=hid hq7
  clear hr7 hB7 hq7 hb7
  go_wp2_with fail
  refine (setInt_t p w.heap.size (x / y) w7 (hp.ext HB7.out) HQ7.out).mono ?_;rintro e w8 ⟨rfl,hp8,hb8,-⟩
  have hr8:=HR7.out.but (hp.ext HB7.out) hb8 (by omega)
  have HP8:=hid hp8;have HR8:=hid hr8;have HBB:=hid hb8
  clear hp8 hr8 hb8
  go_wp2_with fail
  refine (setInt_t s (w.heap.size+1) (x % y) w8 ((hs.ext HB7.out).other HBB.out hne.symm) HR8.out).mono ?_;rintro e w9 ⟨rfl,hs9,hb9,-⟩
  go_wp2
  go_ret2
  exact ⟨rfl,HP8.out.but ((hs.ext HB7.out).other HBB.out hne.symm) hb9 hne,hs9,But2.pre HB7.out (But2.of HBB.out hb9)⟩
 ·have hR0:0≤R:=by omega
  have hsg2:decide (sgnI R 0<0)=false:=by unfold sgnI;rw [if_neg hR];split<;>rfl
  obtain ⟨S,hS⟩:∃ S,Hid (sgnI R 0=S):=⟨_,rfl⟩
  rw [hS.out] at hsg2 hsg
  have HSG:=hid hsg
  obtain ⟨f1,f2⟩:=HHI.out hR0
  have F1:=hid f1;have F2:=hid f2
  clear hsg f1 f2 HLO
  go_wp2_with fail
  refine HSG.out.mono ?_;rintro e w4 ⟨rfl,e4⟩
  subst e4
  have hq7:=HQ3.out;have hr7:=HR3.out
  rw [←F1.out] at hq7
  rw [←F2.out] at hr7
  have HR7:=hid hr7;have HQ7:=hid hq7
  clear hr7 hq7
  go_wp2_with fail
  refine (setInt_t p w.heap.size (x / y) w4 (hp.ext HB3.out) HQ7.out).mono ?_;rintro e w8 ⟨rfl,hp8,hb8,-⟩
  have hr8:=HR7.out.but (hp.ext HB3.out) hb8 (by omega)
  have HP8:=hid hp8;have HR8:=hid hr8;have HBB:=hid hb8
  clear hp8 hr8 hb8
  go_wp2_with fail
  refine (setInt_t s (w.heap.size+1) (x % y) w8 ((hs.ext HB3.out).other HBB.out hne.symm) HR8.out).mono ?_;rintro e w9 ⟨rfl,hs9,hb9,-⟩
  go_wp2
  go_ret2
  exact ⟨rfl,HP8.out.but ((hs.ext HB3.out).other HBB.out hne.symm) hb9 hne,hs9,But2.pre HB3.out (But2.of HBB.out hb9)⟩
end
section
open Go.RowKit
structure Eu (a b x y p q:Int):Prop where
 x0:0<x
 y0:0≤y
 ex:∃ s,x=p*a+s*b
 ey:∃ s,y=q*a+s*b
 g:Int.gcd x y=Int.gcd a b
 alt:(0≤p∧q≤0)∨(p≤0∧0≤q)
 sum:(q.natAbs:Int)*x+(p.natAbs:Int)*y=b
 pb:(p.natAbs:Int)≤b
theorem Eu.start {a b:Int} (ha:0<a) (hb:0<b):Eu a b a b 1 0 :=
 ⟨ha,by omega,⟨0,by omega⟩,⟨1,by omega⟩,rfl,.inl ⟨by omega,by omega⟩,by simp,by simp;omega⟩
theorem Eu.step {a b x y p q:Int} (h:Eu a b x y p q) (hy:y≠0):Eu a b y (x.tmod y) q (p-x.tdiv y*q)∧((x.tdiv y*q).natAbs:Int)≤b∧((p-x.tdiv y*q).natAbs:Int)≤b:=by
 have hy0:0<y:=by have:=h.y0;omega
 have hx0:=h.x0
 have hn:0≤x.tdiv y:=Int.tdiv_nonneg (by omega) (by omega)
 have hr:0≤x.tmod y:=Int.tmod_nonneg y (by omega)
 have he:=Int.mul_tdiv_add_tmod x y
 obtain ⟨s,hs⟩:=h.ex
 obtain ⟨t,ht⟩:=h.ey
 have hg:Int.gcd y (x.tmod y)=Int.gcd a b:=by
  rw [←h.g]
  unfold Int.gcd
  rw [Int.natAbs_tmod]
  exact gcd_step _ _
 generalize x.tdiv y=n at *
 generalize x.tmod y=r at *
 have hab:((p-n*q).natAbs:Int)=p.natAbs+n*(q.natAbs:Int)∧((n*q).natAbs:Int)=n*(q.natAbs:Int):=by
  have e2:((n*q).natAbs:Int)=n*(q.natAbs:Int):=by rw [Int.natAbs_mul,Int.natCast_mul];congr 1;omega
  refine ⟨?_,e2⟩
  rcases h.alt with ⟨h1,h2⟩|⟨h1,h2⟩
  ·have h3:n*q≤0:=by have:=Int.mul_nonneg hn (show 0 ≤ -q by omega);rw [Int.mul_neg] at this;omega
   omega
  ·have h3:0≤n*q:=Int.mul_nonneg hn h2
   omega
 have hsum:=h.sum
 have key:((p-n*q).natAbs:Int)*y+(q.natAbs:Int)*r=b:=by
  rw [hab.1,←hsum,←he]
  generalize (q.natAbs:Int)=Q
  generalize (p.natAbs:Int)=P
  grind
 have hqr:0≤(q.natAbs:Int)*r:=Int.mul_nonneg (by omega) hr
 have hle:((p-n*q).natAbs:Int)*1≤((p-n*q).natAbs:Int)*y:=Int.mul_le_mul_of_nonneg_left (by omega) (by omega)
 have hqb:(q.natAbs:Int)≤b:=by
  have h1:(q.natAbs:Int)*1≤(q.natAbs:Int)*x:=Int.mul_le_mul_of_nonneg_left (by omega) (by omega)
  have h2:0≤(p.natAbs:Int)*y:=Int.mul_nonneg (by omega) (by omega)
  omega
 refine ⟨⟨hy0,hr,⟨t,ht⟩,⟨s-n*t,?_⟩,hg,?_,key,hqb⟩,?_,by omega⟩
 ·have:r=x-y*n:=by omega
  rw [this,hs,ht];grind
 ·rcases h.alt with ⟨h1,h2⟩|⟨h1,h2⟩
  ·right
   have:=Int.mul_nonneg hn (show 0 ≤ -q by omega);rw [Int.mul_neg] at this
   exact ⟨h2,by omega⟩
  ·left
   have:=Int.mul_nonneg hn h2
   exact ⟨h2,by omega⟩
 ·rw [hab.2]
  have:=hab.1
  have:(0:Int)≤p.natAbs:=by omega
  omega
theorem Eu.done {a b x p q:Int} (h:Eu a b x 0 p q) (ha:0<a) (hb:0<b):x=Int.gcd a b∧p*a+((x-p*a).tdiv b)*b=x∧(((x-p*a).tdiv b).natAbs:Int)≤a+1:=by
 have hx0:=h.x0
 have hg:x=Int.gcd a b:=by
  rw [←h.g];unfold Int.gcd;simp;omega
 obtain ⟨s,hs⟩:=h.ex
 have hd:(x-p*a).tdiv b=s:=by
  have:x-p*a=s*b:=by omega
  rw [this];exact Int.mul_tdiv_cancel _ (by omega)
 rw [hd]
 refine ⟨hg,hs.symm,?_⟩
 -- |s| b <= x + |p| a <= b + b a
 have hxb:x≤b:=by
  have h1:(Int.gcd a b:Int) ∣ b:=Int.gcd_dvd_right ..
  rw [←hg] at h1
  exact Int.le_of_dvd hb h1
 have hp:=h.pb
 have h2:((s*b).natAbs:Int)≤x+(p.natAbs:Int)*a:=by
  have e1:s*b=x-p*a:=by omega
  rw [e1]
  have e2:((p*a).natAbs:Int)=(p.natAbs:Int)*a:=by rw [Int.natAbs_mul,Int.natCast_mul];congr 1;omega
  rw [←e2];omega
 have h3:(p.natAbs:Int)*a≤b*a:=Int.mul_le_mul_of_nonneg_right hp (by omega)
 have h4:((s*b).natAbs:Int)=(s.natAbs:Int)*b:=by rw [Int.natAbs_mul,Int.natCast_mul];congr 1;omega
 have h5:(s.natAbs:Int)*b≤(a+1)*b:=by rw [←h4,Int.add_mul,Int.mul_comm a b];omega
 exact Int.le_of_mul_le_mul_right h5 hb
theorem Wide.of_le {x:Int} {b:Int} (h:Wide b) (hb:0≤b) (hx:(x.natAbs:Int)≤b):Wide x:=h.mono (by omega)
set_option maxRecDepth 100000 in
set_option maxHeartbeats 2000000 in
theorem gcd_calls (p S T q r:Nat) (a b:Int) (w:World) (hp:IntBlk w p) (hS:IntBlk w S) (hT:IntBlk w T) (h1:p≠S) (h2:p≠T) (h3:S≠T) (hqS:q≠S) (hrS:r≠S) (hx:BigP w q a) (hy:BigP w r b) (ha:0<a) (hb:0<b) (wa:Wide a) (wb:Wide b) (wab:Wide (a*b+b)) :
 Calls Tryz.prog 172 #[.pointer (some ⟨p,0,none⟩),.pointer (some ⟨S,0,none⟩),.pointer (some ⟨T,0,none⟩),.pointer (some ⟨q,0,none⟩),.pointer (some ⟨r,0,none⟩)] w fun e w'=>∃ s t:Int,e=.returned (.pointer (some ⟨p,0,none⟩))∧BigP w' p (Int.gcd a b)∧BigP w' S s∧BigP w' T t∧s*a+t*b=Int.gcd a b∧(s.natAbs:Int)≤b∧(t.natAbs:Int)≤a+1∧(∀ B,B≤p→B≤S→B≤T→B≤w.heap.size→Below B w w'):=by
 have pl:=hp.lt
 have Sl:=hS.lt
 have Tl:=hT.lt
 have ql:=hx.lt
 have rl:=hy.lt
 have hA1:Below w.heap.size w (w.alloc (.cells #[.bool false,.slice none 0 0] 196 (0,0))):=(Below.refl _ _).alloc (Nat.le_refl _) _
 have hn1:IntBlk (w.alloc (.cells #[.bool false,.slice none 0 0] 196 (0,0))) w.heap.size:=IntBlk.of (Blk.new _ [.bool false,.slice none 0 0] _)
 have HA1:=hid hA1;have HN1:=hid hn1
 have HX:=hid hx;have HY:=hid hy
 have HS:=hid hS;have HT:=hid hT;have HP:=hid hp
 clear hA1 hn1 hx hy hS hT hp
 go_enter Tryz.func172,Tryz.ntmps172
 go_wp2_with fail
 refine (setInt_t w.heap.size q a _ HN1.out (HX.out.ext HA1.out)).mono ?_;rintro e w1 ⟨rfl,hx1,hb1,-⟩
 have HX1:=hid hx1
 have HB1:Hid (Below w.heap.size w w1):=hid (HA1.out.trans (hb1.below (Nat.le_refl _) HA1.out.size))
 have hA2:Below w1.heap.size w1 (w1.alloc (.cells #[.bool false,.slice none 0 0] 196 (0,0))):=(Below.refl _ _).alloc (Nat.le_refl _) _
 have hn2:IntBlk (w1.alloc (.cells #[.bool false,.slice none 0 0] 196 (0,0))) w1.heap.size:=IntBlk.of (Blk.new _ [.bool false,.slice none 0 0] _)
 have HA2:=hid hA2;have HN2:=hid hn2
 clear hx1 hb1 hA2 hn2 HN1 HA1
 go_wp2_with fail
 refine (setInt_t w1.heap.size r b _ HN2.out ((HY.out.ext HB1.out).ext HA2.out)).mono ?_;rintro e w2 ⟨rfl,hy2,hb2,-⟩
 have HY2:=hid hy2
 have hx2:=(HX1.out.ext HA2.out).but HN2.out hb2 (by have:=HX1.out.lt;omega)
 have HX2:=hid hx2
 have HB2:Hid (Below w.heap.size w w2):=hid (HB1.out.trans ((HA2.out.trans (hb2.below (Nat.le_refl _) HA2.out.size)).mono HB1.out.size))
 have hw12:w.heap.size≤w1.heap.size:=HB1.out.size
 clear hy2 hb2 hx2 HX1 HA2 HN2
 go_wp2_with fail
 refine (newInt_calls 1 w2 (by omega) (by omega)).mono ?_;rintro e w3 ⟨p1,rfl,hp1,h13,hb3⟩
 have H13:=hid h13
 have HX3:=hid (HX2.out.ext hb3);have HY3:=hid (HY2.out.ext hb3)
 have HB3:Hid (Below w.heap.size w w3):=hid (HB2.out.trans (hb3.mono HB2.out.size))
 have hw23:w.heap.size≤w2.heap.size:=HB2.out.size
 clear h13 hb3 HX2 HY2
 go_wp2_with fail
 refine (newInt_calls 0 w3 (by omega) (by omega)).mono ?_;rintro e w4 ⟨p0,rfl,hp0,h04,hb4⟩
 have H04:=hid h04
 have HX4:=hid (HX3.out.ext hb4);have HY4:=hid (HY3.out.ext hb4);have H14:=hid (H13.out.ext hb4)
 have HB4:Hid (Below w.heap.size w w4):=hid (HB3.out.trans (hb4.mono HB3.out.size))
 have hw34:w.heap.size≤w3.heap.size:=HB3.out.size
 have hw1p:w.heap.size≤p1:=by omega
 have hw0p:w.heap.size≤p0:=by omega
 have wp1:Wide 1:=wide_small (by decide)
 have wp0:Wide 0:=wide_small (by decide)
 clear h04 hb4 HX3 HY3 H13
 go_wp2_with fail
 go_loopg [11,12,13,14,15,16] b.natAbs (fun g tx ty tp tq _ _ wr=>∃ (px py pp pq:Nat) (x y P Q:Int),tx=.pointer (some ⟨px,0,none⟩)∧ty=.pointer (some ⟨py,0,none⟩)∧tp=.pointer (some ⟨pp,0,none⟩)∧tq=.pointer (some ⟨pq,0,none⟩) ∧
  Hid (BigP wr px x∧BigP wr py y∧BigP wr pp P∧BigP wr pq Q)∧Hid (Eu a b x y P Q)∧Wide x∧Wide y∧Hid (w.heap.size≤px∧w.heap.size≤py∧w.heap.size≤pp∧w.heap.size≤pq)∧Hid (Below w.heap.size w wr)∧Hid (y.natAbs=g))
 case atStart=>exact ⟨w.heap.size,w1.heap.size,p1,p0,a,b,1,0,rfl,rfl,rfl,rfl,hid ⟨HX4.out,HY4.out,H14.out,H04.out⟩,hid (Eu.start ha hb),wa,wb,hid ⟨Nat.le_refl _,hw12,hw1p,hw0p⟩,HB4,hid rfl⟩
 case round =>
  clear HX4 HY4 H14 H04 HB4 HB3 HB2 HB1 hw12 hw23 hw34 hp1 hp0 hw1p hw0p
  obtain ⟨px,py,pp,pq,x,y,P,Q,rfl,rfl,rfl,rfl,hbig,hE,wx,wy,hpl,hB,hg⟩:=hrel
  have hsg:=sign_calls py y wr hbig.out.2.1
  by_cases hy0:y=0
  ·subst hy0
   rw [sgnI_eq rfl] at hsg
   have HSG:=hid hsg
   have hwr:=hB.out.size
   have hS5:IntBlk wr S:=HS.out.ext hB.out
   have hST:=setInt_t S pp P wr hS5 hbig.out.2.2.1
   have HST:=hid hST
   have HS5:=hid hS5
   obtain ⟨d1,d2,d3⟩:=hE.out.done ha hb
   have hpb:=hE.out.pb
   have D1:=hid d1;have D2:=hid d2;have D3:=hid d3;have HPB:=hid hpb
   have wP:Wide P:=wb.of_le (by omega) hpb
   clear hsg hS5 hST d1 d2 d3 hpb
   go_wp2_with fail
   refine HSG.out.mono ?_;rintro e w5 ⟨rfl,e5⟩
   rw [e5]
   clear e5
   go_wp2_with fail
   refine HST.out.mono ?_;rintro e w6 ⟨rfl,hs6,hb6,-⟩
   have hr6:BigP w6 r b:=(HY.out.ext hB.out).but HS5.out hb6 (by omega)
   have hq6:BigP w6 q a:=(HX.out.ext hB.out).but HS5.out hb6 (by omega)
   have hx6:=hbig.out.1.but HS5.out hb6 (by have:=hpl.out;omega)
   have hp6:=hbig.out.2.2.1.but HS5.out hb6 (by have:=hpl.out;omega)
   have hsb:=sign_calls r b w6 hr6
   rw [sgnI_gt hb] at hsb
   have HS6:=hid hs6;have HR6:=hid hr6;have HQ6:=hid hq6;have HX6:=hid hx6;have HP6:=hid hp6;have HSB:=hid hsb;have HB6:=hid hb6
   have hT6:IntBlk w6 T:=(HT.out.ext hB.out).other hb6 (by omega)
   have hP6:IntBlk w6 p:=(HP.out.ext hB.out).other hb6 (by omega)
   have HT6:=hid hT6;have HPP6:=hid hP6
   clear hs6 hr6 hq6 hx6 hp6 hsb hb6 hT6 hP6
   go_wp2_with fail
   refine HSB.out.mono ?_;rintro e w7 ⟨rfl,e7⟩
   subst e7
   have hA8:Below w7.heap.size w7 ((w7.alloc (.cells #[.bool false,.slice none 0 0] 196 (0,0))).alloc (.cells #[.bool false,.slice none 0 0] 196 (0,0))):=((Below.refl _ _).alloc (Nat.le_refl _) _).alloc (by simp) _
   have hn8:IntBlk ((w7.alloc (.cells #[.bool false,.slice none 0 0] 196 (0,0))).alloc (.cells #[.bool false,.slice none 0 0] 196 (0,0))) w7.heap.size:=(IntBlk.of (Blk.new _ [.bool false,.slice none 0 0] _)).ext ((Below.refl _ _).alloc (Nat.le_refl _) _)
   have hn9:IntBlk ((w7.alloc (.cells #[.bool false,.slice none 0 0] 196 (0,0))).alloc (.cells #[.bool false,.slice none 0 0] 196 (0,0))) (w7.heap.size+1):=by
    have:=Blk.new (w7.alloc (.cells #[.bool false,.slice none 0 0] 196 (0,0))) [.bool false,.slice none 0 0] 196
    rw [show (w7.alloc (.cells #[.bool false,.slice none 0 0] 196 (0,0))).heap.size=w7.heap.size+1 by simp] at this
    exact .of this
   have HA8:=hid hA8;have HN8:=hid hn8;have HN9:=hid hn9
   have hw7:wr.heap.size≤w7.heap.size:=HB6.out.size
   clear hA8 hn8 hn9
   go_wp2_with fail
   refine (mul_t (w7.heap.size+1) pp q P a _ HN9.out (HP6.out.ext HA8.out) (HQ6.out.ext HA8.out) wP wa).mono ?_;rintro e w8 ⟨rfl,hm8,hb8,-⟩
   have hn8':=HN8.out.other hb8 (by omega)
   have hx8:=(HX6.out.ext HA8.out).but HN9.out hb8 (by have:=HX6.out.lt;omega)
   have HM8:=hid hm8;have HN8':=hid hn8';have HX8:=hid hx8
   have HB8:Hid (Below w7.heap.size w7 w8):=hid (HA8.out.trans (hb8.below (by omega) HA8.out.size))
   have hab0:0≤a*b:=Int.mul_nonneg (by omega) (by omega)
   have wPa:Wide (P*a):=wab.of_le (by omega) (by
    have h1:((P*a).natAbs:Int)=(P.natAbs:Int)*a:=by rw [Int.natAbs_mul,Int.natCast_mul];congr 1;omega
    have h2:(P.natAbs:Int)*a≤b*a:=Int.mul_le_mul_of_nonneg_right HPB.out (by omega)
    rw [h1];rw [Int.mul_comm b a] at h2;omega)
   clear hm8 hn8' hx8 hb8 HN8 HN9 HA8
   go_wp2_with fail
   refine (sub_t w7.heap.size px (w7.heap.size+1) x (P*a) w8 HN8'.out HX8.out HM8.out wx wPa).mono ?_;rintro e w9 ⟨rfl,hd9,hb9,-⟩
   have hB9:Below w7.heap.size w7 w9:=HB8.out.trans (hb9.below (Nat.le_refl _) HB8.out.size)
   have HD9:=hid hd9;have HB9:=hid hB9
   have wd:Wide (x-P*a):=wab.of_le (by omega) (by
    have h1:x-P*a=(x-P*a).tdiv b*b:=by have:=D2.out;omega
    have h2:(((x-P*a).tdiv b*b).natAbs:Int)=(((x-P*a).tdiv b).natAbs:Int)*b:=by rw [Int.natAbs_mul,Int.natCast_mul];congr 1;omega
    have h3:(((x-P*a).tdiv b).natAbs:Int)*b≤(a+1)*b:=Int.mul_le_mul_of_nonneg_right D3.out (by omega)
    rw [h1,h2];rw [Int.add_mul] at h3;omega)
   have hq9:=quo_calls T w7.heap.size r (x-P*a) b w9 (HT6.out.ext hB9) hd9 (HR6.out.ext hB9) (by omega) wd wb
   have HQ9:=hid hq9
   clear hd9 hb9 hB9 hq9 HB8 HX8 HM8 HN8'
   go_wp2_with fail
   refine HQ9.out.mono ?_;rintro e w10 ⟨rfl,ht10,hb10⟩
   have hx10:=(HX6.out.ext HB9.out).but (HT6.out.ext HB9.out) hb10 (by have:=hpl.out;omega)
   have hs10:=(HS6.out.ext HB9.out).but (HT6.out.ext HB9.out) hb10 (by omega)
   have hp10:=(HPP6.out.ext HB9.out).other hb10 (by omega)
   have HT10:=hid ht10;have HS10:=hid hs10;have HB10:=hid hb10;have HP10:=hid hp10
   have hset:=setInt_t p px x w10 hp10 hx10
   have HSET:=hid hset
   clear ht10 hx10 hs10 hb10 hp10 hset HQ9
   go_wp2_with fail
   refine HSET.out.mono ?_;rintro e w11 ⟨rfl,hp11,hb11,-⟩
   have ht11:=HT10.out.but HP10.out hb11 (by omega)
   have hs11:=HS10.out.but HP10.out hb11 (by omega)
   rw [D1.out] at hp11
   go_wp2
   go_ret
   refine ⟨P,(x-P*a).tdiv b,rfl,hp11,hs11,ht11,?_,HPB.out,D3.out,?_⟩
   ·rw [←D1.out];exact D2.out
   ·intro B b1 b2 b3 b4
    have k1:Below B w wr:=hB.out.mono b4
    have k2:Below B wr w7:=HB6.out.below b2 (by omega)
    have k3:Below B w7 w9:=HB9.out.mono (by omega)
    have k4:Below B w9 w10:=HB10.out.below b3 (by have:=HB9.out.size;omega)
    have k5:Below B w10 w11:=hb11.below b1 (by have:=HB9.out.size;have:=HB10.out.size;omega)
    exact (((k1.trans k2).trans k3).trans k4).trans k5
  ·have hyp:0<y:=by have:=hE.out.y0;omega
   rw [sgnI_gt hyp] at hsg
   have HSG:=hid hsg
   obtain ⟨hst,hnb,hqb⟩:=hE.out.step hy0
   have HST:=hid hst
   have wnq:Wide (x.tdiv y*Q):=wb.of_le (by omega) hnb
   have wP:Wide P:=wb.of_le (by omega) hE.out.pb
   have wQ:Wide Q:=wb.of_le (by omega) hst.pb
   have wn:Wide (x.tdiv y):=wx.mono (by rw [Int.natAbs_tdiv];exact Nat.div_le_self _ _)
   have wr':Wide (x.tmod y):=wx.mono (by rw [Int.natAbs_tmod];exact Nat.mod_le _ _)
   have hdec:(x.tmod y).natAbs<gk:=by
    rw [←hg.out,Int.natAbs_tmod];exact Nat.mod_lt _ (by omega)
   have HDEC:=hid hdec
   have hwr:=hB.out.size
   clear hsg hst hnb hqb hdec hg
   go_wp2_with fail
   refine HSG.out.mono ?_;rintro e w5 ⟨rfl,e5⟩
   rw [e5]
   clear e5
   have hA8:Below wr.heap.size wr ((wr.alloc (.cells #[.bool false,.slice none 0 0] 196 (0,0))).alloc (.cells #[.bool false,.slice none 0 0] 196 (0,0))):=((Below.refl _ _).alloc (Nat.le_refl _) _).alloc (by simp) _
   have hn8:IntBlk ((wr.alloc (.cells #[.bool false,.slice none 0 0] 196 (0,0))).alloc (.cells #[.bool false,.slice none 0 0] 196 (0,0))) wr.heap.size:=(IntBlk.of (Blk.new _ [.bool false,.slice none 0 0] _)).ext ((Below.refl _ _).alloc (Nat.le_refl _) _)
   have hn9:IntBlk ((wr.alloc (.cells #[.bool false,.slice none 0 0] 196 (0,0))).alloc (.cells #[.bool false,.slice none 0 0] 196 (0,0))) (wr.heap.size+1):=by
    have:=Blk.new (wr.alloc (.cells #[.bool false,.slice none 0 0] 196 (0,0))) [.bool false,.slice none 0 0] 196
    rw [show (wr.alloc (.cells #[.bool false,.slice none 0 0] 196 (0,0))).heap.size=wr.heap.size+1 by simp] at this
    exact .of this
   have HQR:=hid (quoRem_calls wr.heap.size px py (wr.heap.size+1) x y _ hn8 hn9 (by omega) (hbig.out.1.ext hA8) (hbig.out.2.1.ext hA8) hy0 wx wy)
   have HA8:=hid hA8
   clear hA8 hn8 hn9
   go_wp2_with fail
   refine HQR.out.mono ?_;rintro e w6 ⟨rfl,hn6,hr6,hb6⟩
   have hB6:Below wr.heap.size wr w6:=HA8.out.trans (hb6.below (Nat.le_refl _) (by omega) HA8.out.size)
   have HB6:=hid hB6;have HN6:=hid hn6;have HR6:=hid hr6
   have hw6:=hB6.size
   clear hn6 hr6 hb6 hB6 HQR HA8
   have hA9:Below w6.heap.size w6 ((w6.alloc (.cells #[.bool false,.slice none 0 0] 196 (0,0))).alloc (.cells #[.bool false,.slice none 0 0] 196 (0,0))):=((Below.refl _ _).alloc (Nat.le_refl _) _).alloc (by simp) _
   have hm8:IntBlk ((w6.alloc (.cells #[.bool false,.slice none 0 0] 196 (0,0))).alloc (.cells #[.bool false,.slice none 0 0] 196 (0,0))) w6.heap.size:=(IntBlk.of (Blk.new _ [.bool false,.slice none 0 0] _)).ext ((Below.refl _ _).alloc (Nat.le_refl _) _)
   have hm9:IntBlk ((w6.alloc (.cells #[.bool false,.slice none 0 0] 196 (0,0))).alloc (.cells #[.bool false,.slice none 0 0] 196 (0,0))) (w6.heap.size+1):=by
    have:=Blk.new (w6.alloc (.cells #[.bool false,.slice none 0 0] 196 (0,0))) [.bool false,.slice none 0 0] 196
    rw [show (w6.alloc (.cells #[.bool false,.slice none 0 0] 196 (0,0))).heap.size=w6.heap.size+1 by simp] at this
    exact .of this
   have HML:=hid (mul_t (w6.heap.size+1) wr.heap.size pq (x.tdiv y) Q _ hm9 (HN6.out.ext hA9) ((hbig.out.2.2.2.ext HB6.out).ext hA9) wn wQ)
   have HM8:=hid hm8;have HM9:=hid hm9;have HA9:=hid hA9
   clear hm8 hm9 hA9
   go_wp2_with fail
   refine HML.out.mono ?_;rintro e w7 ⟨rfl,hp7,hb7,-⟩
   have hs7:=HM8.out.other hb7 (by omega)
   have hB7:Below w6.heap.size w6 w7:=HA9.out.trans (hb7.below (by omega) HA9.out.size)
   have HSB:=hid (sub_t w6.heap.size pp (w6.heap.size+1) P (x.tdiv y*Q) w7 hs7 ((hbig.out.2.2.1.ext HB6.out).ext hB7) hp7 wP wnq)
   have HB7:=hid hB7
   clear hp7 hs7 hB7 hb7 HML HM8 HM9 HA9
   go_wp2_with fail
   refine HSB.out.mono ?_;rintro e w8 ⟨rfl,hs8,hb8,-⟩
   have hB8:Below w6.heap.size w6 w8:=HB7.out.trans (hb8.below (Nat.le_refl _) HB7.out.size)
   have HB8:=hid hB8;have HS8:=hid hs8
   clear hs8 hb8 hB8 HSB
   go_wp2
   go_roundg (x.tmod y).natAbs
   case measure=>exact HDEC.out
   case rel=>exact ⟨py,wr.heap.size+1,pq,w6.heap.size,y,x.tmod y,Q,P-x.tdiv y*Q,rfl,rfl,rfl,rfl,hid ⟨(hbig.out.2.1.ext HB6.out).ext HB8.out,HR6.out.ext HB8.out,(hbig.out.2.2.2.ext HB6.out).ext HB8.out,HS8.out⟩,HST,wy,wr',hid ⟨hpl.out.2.1,by omega,hpl.out.2.2.2,by omega⟩,hid ((hB.out.trans (HB6.out.mono hwr)).trans (HB8.out.mono (by omega))),hid rfl⟩
end
end Go.Proofs.YtkljafmdbajfeaaGreatDoor
