/- The reference's whole numbers: Neg, Plus, Minus, Times, Compare. -/
import Derived.Test.YtkljafmdbajfeaaGreatDoorNoH02
namespace Go.Proofs.YtkljafmdbajfeaaGreatDoor
set_option linter.unusedVariables false
set_option linter.unusedSimpArgs false
open Go.Lib (hid)
section
open Go.RowKit
def Few (x:Int):Prop:=(T.digits x.natAbs).length≤1000000000000
theorem sgnd_of (x:Int):sgnd (decide (x<0)) x.natAbs=x:=by unfold sgnd;by_cases h:x<0<;>simp [h]<;>omega
theorem sgnd_not (x:Int):sgnd (!decide (x<0)) x.natAbs = -x:=by unfold sgnd;by_cases h:x<0<;>simp [h]<;>omega
theorem digits_mul {m n k:Nat} (h1:(T.digits m).length≤k) (h2:(T.digits n).length≤k):(T.digits (m*n)).length≤k+k:=by
 refine T.digits_len ?_
 have e1:=T.val_lt (T.digits_dig m)
 have e2:=T.val_lt (T.digits_dig n)
 rw [T.val_digits] at e1 e2
 have e3:10000 ^ (T.digits m).length≤10000 ^ k:=Nat.pow_le_pow_right (by omega) h1
 have e4:10000 ^ (T.digits n).length≤10000 ^ k:=Nat.pow_le_pow_right (by omega) h2
 rw [Nat.pow_add]
 exact Nat.mul_lt_mul_of_lt_of_le (Nat.lt_of_lt_of_le e1 e3) (Nat.le_of_lt (Nat.lt_of_lt_of_le e2 e4)) (Nat.pow_pos (by omega))
theorem rsize (w:World) (o:Obj):(w.alloc o).heap.size=w.heap.size+1:=by simp
theorem sgnd_mul (x y:Int):sgnd (decide (x<0) != decide (y<0)) (x.natAbs*y.natAbs)=x*y:=by
 by_cases h:x<0
 ·obtain ⟨m,rfl⟩:∃ m:Nat,x = -(m:Int):=⟨x.natAbs,by omega⟩
  by_cases h2:y<0
  ·obtain ⟨k,rfl⟩:∃ k:Nat,y = -(k:Int):=⟨y.natAbs,by omega⟩
   rw [decide_eq_true h,decide_eq_true h2];simp [sgnd];rw [Int.neg_mul_neg]
  ·obtain ⟨k,rfl⟩:∃ k:Nat,y=k:=⟨y.toNat,by omega⟩
   rw [decide_eq_true h,decide_eq_false h2];simp [sgnd];rw [Int.neg_mul]
 ·obtain ⟨m,rfl⟩:∃ m:Nat,x=m:=⟨x.toNat,by omega⟩
  by_cases h2:y<0
  ·obtain ⟨k,rfl⟩:∃ k:Nat,y = -(k:Int):=⟨y.natAbs,by omega⟩
   rw [decide_eq_false h,decide_eq_true h2];simp [sgnd];rw [Int.mul_neg]
  ·obtain ⟨k,rfl⟩:∃ k:Nat,y=k:=⟨y.toNat,by omega⟩
   rw [decide_eq_false h,decide_eq_false h2];simp [sgnd]
theorem sgnd_add {x y:Int} (h:decide (x<0)=decide (y<0)):sgnd (decide (x<0)) (x.natAbs+y.natAbs)=x+y:=by
 by_cases h1:x<0
 ·have h2:y<0:=by simpa [h1] using h
  rw [decide_eq_true h1];simp [sgnd];omega
 ·have h2:¬ y<0:=by simpa [h1] using h
  rw [decide_eq_false h1];simp [sgnd];omega
theorem sgnd_sub {x y:Int} (h:decide (x<0)≠decide (y<0)) (hl:y.natAbs≤x.natAbs):sgnd (decide (x<0)) (x.natAbs-y.natAbs)=x+y:=by
 by_cases h1:x<0
 ·have h2:¬ y<0:=fun h2=>h (by simp [h1,h2])
  rw [decide_eq_true h1];simp [sgnd];omega
 ·have h2:y<0:=by
   refine Classical.byContradiction fun h2=>h ?_
   simp [h1,h2]
  rw [decide_eq_false h1];simp [sgnd];omega
theorem RB.form {w:World} {v:Value} {z:Int} (h:RB w v z):∃ A c,v=.agg #[.bool (decide (z<0)),.slice A (T.digits z.natAbs).length c]∧Rds w A (T.digits z.natAbs):=by
 obtain ⟨sl,rfl,A,c,rfl,-,-,hR⟩:=h;exact ⟨A,c,rfl,hR⟩
set_option maxRecDepth 100000 in
set_option maxHeartbeats 1000000 in
theorem rNeg_calls (v:Value) (x:Int) (w:World) (h1:RB w v x) (l1:Few x) :
 Calls Tryz.prog 186 #[v] w fun e w'=>∃ v',e=.returned v'∧RBo w' w.heap.size v' (-x)∧Below w.heap.size w w':=by
 obtain ⟨A,c,rfl,hA⟩:=h1.form
 have hb0:∀ o o',Below w.heap.size w ((w.alloc o).alloc o'):=fun o o'=>((Below.refl _ _).alloc (Nat.le_refl _) _).alloc (by simp) _
 have hwh:∀ o o',_:=fun o o'=>rwhole_calls (!decide (x<0)) A c (T.digits x.natAbs) ((w.alloc o).alloc o') (Nat.le_trans l1 (by omega)) (T.digits_dig _) (hA.ext (hb0 o o'))
 rw [T.val_digits,sgnd_not] at hwh
 have HW:=hid hwh
 have HB0:=hid (Blk.new' (w.alloc (.cells #[.bool (decide (x<0)),.slice A (T.digits x.natAbs).length c] 61 (0,0))) [.bool false,.slice none 0 0] 61 (w.heap.size+1) (by simp))
 have HX0:=hid (hb0 (.cells #[.bool (decide (x<0)),.slice A (T.digits x.natAbs).length c] 61 (0,0)) (.cells #[.bool false,.slice none 0 0] 61 (0,0)))
 clear h1 l1 hA hwh hb0
 go_enter Tryz.func186,Tryz.ntmps186
 go_wp2_with fail
 refine (HW.out _ _).mono ?_;rintro e w1 ⟨v,rfl,⟨sl,rfl,ho⟩,hb1⟩
 have hs1:=hb1.size
 simp at hs1
 have B2:=HB0.out.ext hb1
 have c0:=B2.cell 0 (by simp);have c1:=B2.cell 1 (by simp)
 simp only [List.getElem_cons_zero,List.getElem_cons_succ] at c0 c1
 have f0:=B2.free 0;have f1:=B2.free 1
 have bl:=B2.lt
 have HX:=hid (ext_trans HX0.out hb1)
 obtain ⟨A2,k2,rfl,-,-,-⟩:=ho.rsl
 obtain ⟨q2,hq2⟩:∃ q,decide (-x<0)=q:=⟨_,rfl⟩
 obtain ⟨L2,hL2⟩:∃ L,(T.digits (-x).natAbs).length=L:=⟨_,rfl⟩
 have HQ:=hid hq2;have HL:=hid hL2;have HO:=hid ho
 rw [hq2,hL2]
 clear hq2 hL2 ho
 simp only [rsize] at HO
 clear hb1 B2 HW HB0 HX0
 go_wp2_with fail
 try simp only [Exit.inBlock,Exit.then]
 refine bodyPost_ret (v:=.agg #[.bool q2,.slice A2 L2 k2]) (by simp [results,Tryz.results186,go_sem,bl,c0,c1]) rfl ⟨_,rfl,⟨.slice A2 L2 k2,by rw [HQ.out],?_⟩,(HX.out.setCell (by dsimp only;omega) _).setCell (by dsimp only;omega) _⟩
 have ho:=HO.out
 rw [HL.out] at ho
 exact ((ho.set _ _ (by dsimp only;omega)).set _ _ (by dsimp only;omega)).mono (by omega)
set_option maxRecDepth 100000 in
set_option maxHeartbeats 2000000 in
theorem rTimes_calls (v1 v2:Value) (x y:Int) (w:World) (h1:RB w v1 x) (h2:RB w v2 y) (l1:Few x) (l2:Few y) :
 Calls Tryz.prog 44 #[v1,v2] w fun e w'=>∃ v',e=.returned v'∧RBo w' w.heap.size v' (x*y)∧Below w.heap.size w w':=by
 obtain ⟨A,ca,rfl,hA⟩:=h1.form
 obtain ⟨B,cb,rfl,hB⟩:=h2.form
 obtain ⟨bx,hbx⟩:∃ b,decide (x<0)=b:=⟨_,rfl⟩
 obtain ⟨bY,hby⟩:∃ b,decide (y<0)=b:=⟨_,rfl⟩
 rw [hbx,hby]
 have HBX:=hid hbx;have HBY:=hid hby
 have hb0:∀ o o',Below w.heap.size w ((w.alloc o).alloc o'):=fun o o'=>((Below.refl _ _).alloc (Nat.le_refl _) _).alloc (by simp) _
 have hbe:Below w.heap.size w (((w.alloc (.cells #[.bool bx,.slice A (T.digits x.natAbs).length ca] 61 (0,0))).alloc (.cells #[.bool bY,.slice B (T.digits y.natAbs).length cb] 61 (0,0))).alloc (.cells #[.bool false,.slice none 0 0] 61 (0,0))):=(hb0 _ _).alloc (by simp;omega) _
 have B0:Blk (((w.alloc (.cells #[.bool bx,.slice A (T.digits x.natAbs).length ca] 61 (0,0))).alloc (.cells #[.bool bY,.slice B (T.digits y.natAbs).length cb] 61 (0,0))).alloc (.cells #[.bool false,.slice none 0 0] 61 (0,0))) w.heap.size [.bool bx,.slice A (T.digits x.natAbs).length ca] 61:=((Blk.new w _ _).alloc _).alloc _
 have B1:Blk (((w.alloc (.cells #[.bool bx,.slice A (T.digits x.natAbs).length ca] 61 (0,0))).alloc (.cells #[.bool bY,.slice B (T.digits y.natAbs).length cb] 61 (0,0))).alloc (.cells #[.bool false,.slice none 0 0] 61 (0,0))) (w.heap.size+1) [.bool bY,.slice B (T.digits y.natAbs).length cb] 61:=(Blk.new' _ [.bool bY,.slice B (T.digits y.natAbs).length cb] _ _ (by simp)).alloc _
 have B2:Blk (((w.alloc (.cells #[.bool bx,.slice A (T.digits x.natAbs).length ca] 61 (0,0))).alloc (.cells #[.bool bY,.slice B (T.digits y.natAbs).length cb] 61 (0,0))).alloc (.cells #[.bool false,.slice none 0 0] 61 (0,0))) (w.heap.size+1+1) [.bool false,.slice none 0 0] 61:=Blk.new' _ [.bool false,.slice none 0 0] _ _ (by simp)
 have HM:Hid (∀ w2:World,Below w.heap.size w w2→Calls Tryz.prog 104 #[.slice A (T.digits x.natAbs).length ca,.slice B (T.digits y.natAbs).length cb] w2 fun e w'=>∃ v,e=.returned v∧OwnD w' w2.heap.size v (T.digits (x.natAbs*y.natAbs))∧Below w2.heap.size w2 w'):=hid (fun w2 hb=>by
  have:=rmulD_calls A B ca cb (T.digits x.natAbs) (T.digits y.natAbs) w2 (T.digits_dig _) (T.digits_dig _) (Nat.le_trans l1 (by omega)) (Nat.le_trans l2 (by omega)) (hA.ext hb) (hB.ext hb)
  rw [T.val_digits,T.val_digits] at this;exact this)
 have HWH:Hid (∀ (q:Bool),q=(bx != bY)→∀ (A3:Option Addr) (c3:Nat) (w2:World),Rds w2 A3 (T.digits (x.natAbs*y.natAbs))→(T.digits (x.natAbs*y.natAbs)).length≤10000000000000→Calls Tryz.prog 103 #[.bool q,.slice A3 (T.digits (x.natAbs*y.natAbs)).length c3] w2 fun e w'=>∃ v,e=.returned v∧RBo w' w2.heap.size v (x*y)∧Below w2.heap.size w2 w'):=hid (fun q hq A3 c3 w2 hR hl=>by
  have:=rwhole_calls q A3 c3 (T.digits (x.natAbs*y.natAbs)) w2 hl (T.digits_dig _) hR
  rw [T.val_digits,hq,←HBX.out,←HBY.out,sgnd_mul] at this
  rw [hq,←HBX.out,←HBY.out];exact this)
 have HLN:Hid ((T.digits (x.natAbs*y.natAbs)).length≤10000000000000):=hid (by
  have:=digits_mul l1 l2
  omega)
 clear h1 h2 hA hB l1 l2 hbx hby
 have HBE:=hid hbe
 go_enter Tryz.func44,Tryz.ntmps44
 go_wp2_with fail
 generalize (((w.alloc (.cells #[.bool bx,.slice A (T.digits x.natAbs).length ca] 61 (0,0))).alloc (.cells #[.bool bY,.slice B (T.digits y.natAbs).length cb] 61 (0,0))).alloc (.cells #[.bool false,.slice none 0 0] 61 (0,0)))=W at *
 have a0:=B0.cell 0 (by simp);have a1:=B0.cell 1 (by simp);have b0:=B1.cell 0 (by simp);have b1:=B1.cell 1 (by simp);have c0:=B2.cell 0 (by simp);have c1:=B2.cell 1 (by simp);have f0:=B2.free 0;have f1:=B2.free 1;have bl:=B2.lt
 simp only [List.getElem_cons_zero,List.getElem_cons_succ] at a0 a1 b0 b1 c0 c1
 have HB0:=hid B0;have HB1:=hid B1;have HB2:=hid B2
 clear B0 B1 B2 hbe hb0
 have ne1:w.heap.size+1+1≠w.heap.size:=by omega
 have ne2:w.heap.size+1+1≠w.heap.size+1:=by omega
 go_region_held3 (fun w'=>w'.cell? ⟨w.heap.size,0,none⟩=some (.bool bx)∧w'.cell? ⟨w.heap.size,1,none⟩=some (.slice A (T.digits x.natAbs).length ca)∧w'.cell? ⟨w.heap.size+1,0,none⟩=some (.bool bY)∧w'.cell? ⟨w.heap.size+1,1,none⟩=some (.slice B (T.digits y.natAbs).length cb))
  (first|(go_keep;done))
  (first
    | (go_at_call 104;refine (HM.out W.drew (HBE.out.trans (((Below.refl _ W).drew).mono HBE.out.size))).mono ?_;rintro e w3 ⟨v,rfl,ho,hb3⟩;obtain ⟨A3,c3,rfl,-,-,hR⟩:=ho.rsl;have B0:=Blk.ext (w:=W.drew) HB0.out hb3;have B1:=Blk.ext (w:=W.drew) HB1.out hb3;have B2:=Blk.ext (w:=W.drew) HB2.out hb3;have a0:=B0.cell 0 (by simp);have a1:=B0.cell 1 (by simp);have b0:=B1.cell 0 (by simp);have b1:=B1.cell 1 (by simp);have c0:=B2.cell 0 (by simp);have c1:=B2.cell 1 (by simp);have f0:=B2.free 0;have f1:=B2.free 1;have bl:=B2.lt;simp only [List.getElem_cons_zero,List.getElem_cons_succ] at a0 a1 b0 b1 c0 c1;have hs3:=hb3.size;have HX3:=hid (ext_trans (HBE.out.trans (((Below.refl _ W).drew).mono HBE.out.size)) hb3);clear ho)
    | (go_at_call 103;refine (HWH.out _ (by cases bx<;>cases bY<;>rfl) A3 c3 _ hR HLN.out).mono ?_;rintro e w4 ⟨v4,rfl,⟨sl,rfl,ho⟩,hb4⟩;have B0:=B0.ext hb4;have B1:=B1.ext hb4;have B2:=B2.ext hb4;have a0:=B0.cell 0 (by simp);have a1:=B0.cell 1 (by simp);have b0:=B1.cell 0 (by simp);have b1:=B1.cell 1 (by simp);have c0:=B2.cell 0 (by simp);have c1:=B2.cell 1 (by simp);have f0:=B2.free 0;have f1:=B2.free 1;have bl:=B2.lt;simp only [List.getElem_cons_zero,List.getElem_cons_succ] at a0 a1 b0 b1 c0 c1;have hs4:=hb4.size;have HX:=hid (ext_trans HX3.out hb4);obtain ⟨A2,k2,rfl,-,-,-⟩:=ho.rsl;obtain ⟨q2,hq2⟩:∃ q,decide (x*y<0)=q:=⟨_,rfl⟩;obtain ⟨L2,hL2⟩:∃ L,(T.digits (x*y).natAbs).length=L:=⟨_,rfl⟩;have HQ:=hid hq2;have HL:=hid hL2;have HO:=hid ho;rw [hq2,hL2];clear hq2 hL2 ho))
 all_goals
  go_wp2_with fail
  try simp only [Exit.inBlock,Exit.then]
  refine bodyPost_ret (v:=.agg #[.bool q2,.slice A2 L2 k2]) (by simp [results,Tryz.results44,go_sem,bl,c0,c1]) rfl ⟨_,rfl,⟨.slice A2 L2 k2,by rw [HQ.out],?_⟩,(HX.out.setCell (by dsimp only;omega) _).setCell (by dsimp only;omega) _⟩
  have ho:=HO.out
  rw [HL.out] at ho
  exact ((ho.set _ _ (by dsimp only;omega)).set _ _ (by dsimp only;omega)).mono (by omega)
set_option maxRecDepth 100000 in
set_option maxHeartbeats 2000000 in
theorem rPlus_same (A B:Option Addr) (ca cb:Nat) (bx:Bool) (x y:Int) (w:World) (hA:Rds w A (T.digits x.natAbs)) (hB:Rds w B (T.digits y.natAbs)) (l1:Few x) (l2:Few y) (hbx:decide (x<0)=bx) (hby:decide (y<0)=bx) :
 Calls Tryz.prog 79 #[.agg #[.bool bx,.slice A (T.digits x.natAbs).length ca],.agg #[.bool bx,.slice B (T.digits y.natAbs).length cb]] w fun e w'=>∃ v',e=.returned v'∧RBo w' w.heap.size v' (x+y)∧Below w.heap.size w w':=by
 have hb0:∀ o o',Below w.heap.size w ((w.alloc o).alloc o'):=fun o o'=>((Below.refl _ _).alloc (Nat.le_refl _) _).alloc (by simp) _
 have hbe:Below w.heap.size w (((w.alloc (.cells #[.bool bx,.slice A (T.digits x.natAbs).length ca] 61 (0,0))).alloc (.cells #[.bool bx,.slice B (T.digits y.natAbs).length cb] 61 (0,0))).alloc (.cells #[.bool false,.slice none 0 0] 61 (0,0))):=(hb0 _ _).alloc (by simp;omega) _
 have B0:Blk (((w.alloc (.cells #[.bool bx,.slice A (T.digits x.natAbs).length ca] 61 (0,0))).alloc (.cells #[.bool bx,.slice B (T.digits y.natAbs).length cb] 61 (0,0))).alloc (.cells #[.bool false,.slice none 0 0] 61 (0,0))) w.heap.size [.bool bx,.slice A (T.digits x.natAbs).length ca] 61:=((Blk.new w _ _).alloc _).alloc _
 have B1:Blk (((w.alloc (.cells #[.bool bx,.slice A (T.digits x.natAbs).length ca] 61 (0,0))).alloc (.cells #[.bool bx,.slice B (T.digits y.natAbs).length cb] 61 (0,0))).alloc (.cells #[.bool false,.slice none 0 0] 61 (0,0))) (w.heap.size+1) [.bool bx,.slice B (T.digits y.natAbs).length cb] 61:=(Blk.new' _ [.bool bx,.slice B (T.digits y.natAbs).length cb] _ _ (by simp)).alloc _
 have B2:Blk (((w.alloc (.cells #[.bool bx,.slice A (T.digits x.natAbs).length ca] 61 (0,0))).alloc (.cells #[.bool bx,.slice B (T.digits y.natAbs).length cb] 61 (0,0))).alloc (.cells #[.bool false,.slice none 0 0] 61 (0,0))) (w.heap.size+1+1) [.bool false,.slice none 0 0] 61:=Blk.new' _ [.bool false,.slice none 0 0] _ _ (by simp)
 have HM:Hid (∀ w2:World,Below w.heap.size w w2→Calls Tryz.prog 135 #[.slice A (T.digits x.natAbs).length ca,.slice B (T.digits y.natAbs).length cb] w2 fun e w'=>∃ v ds,e=.returned v∧OwnD w' w2.heap.size v ds∧(T.Dig ds∧T.val ds=x.natAbs+y.natAbs∧ds.length≤10000000000000)∧Below w2.heap.size w2 w'):=hid (fun w2 hb=>by
  refine (raddD_calls A B ca cb (T.digits x.natAbs) (T.digits y.natAbs) w2 (T.digits_dig _) (T.digits_dig _) (Nat.le_trans l1 (by omega)) (Nat.le_trans l2 (by omega)) (hA.ext hb) (hB.ext hb)).mono ?_
  rintro e w' ⟨v,ds,h1,h2,h3,h4,h5,h6⟩
  rw [T.val_digits,T.val_digits] at h4
  have:=l1;have:=l2;unfold Few at *
  exact ⟨v,ds,h1,h2,⟨h3,h4,by omega⟩,h6⟩)
 have HWH:Hid (∀ (ds:List Nat),(T.Dig ds∧T.val ds=x.natAbs+y.natAbs∧ds.length≤10000000000000)→∀ (A3:Option Addr) (c3:Nat) (w2:World),Rds w2 A3 ds→Calls Tryz.prog 103 #[.bool bx,.slice A3 ds.length c3] w2 fun e w'=>∃ v,e=.returned v∧RBo w' w2.heap.size v (x+y)∧Below w2.heap.size w2 w'):=hid (fun ds hd A3 c3 w2 hR=>by
  have:=rwhole_calls bx A3 c3 ds w2 hd.2.2 hd.1 hR
  rw [hd.2.1,←hbx,sgnd_add (by rw [hbx,hby])] at this
  rw [←hbx];exact this)
 clear hA hB l1 l2 hbx hby
 have HBE:=hid hbe
 go_enter Tryz.func79,Tryz.ntmps79
 go_wp2_with fail
 generalize (((w.alloc (.cells #[.bool bx,.slice A (T.digits x.natAbs).length ca] 61 (0,0))).alloc (.cells #[.bool bx,.slice B (T.digits y.natAbs).length cb] 61 (0,0))).alloc (.cells #[.bool false,.slice none 0 0] 61 (0,0)))=W at *
 have a0:=B0.cell 0 (by simp);have a1:=B0.cell 1 (by simp);have b0:=B1.cell 0 (by simp);have b1:=B1.cell 1 (by simp);have c0:=B2.cell 0 (by simp);have c1:=B2.cell 1 (by simp);have f0:=B2.free 0;have f1:=B2.free 1;have bl:=B2.lt
 simp only [List.getElem_cons_zero,List.getElem_cons_succ] at a0 a1 b0 b1 c0 c1
 have HB0:=hid B0;have HB1:=hid B1;have HB2:=hid B2
 clear B0 B1 B2 hbe hb0
 have ne1:w.heap.size+1+1≠w.heap.size:=by omega
 have ne2:w.heap.size+1+1≠w.heap.size+1:=by omega
 go_wp2_with fail
 go_region_held3 (fun w'=>w'.cell? ⟨w.heap.size,0,none⟩=some (.bool bx)∧w'.cell? ⟨w.heap.size,1,none⟩=some (.slice A (T.digits x.natAbs).length ca)∧w'.cell? ⟨w.heap.size+1,0,none⟩=some (.bool bx)∧w'.cell? ⟨w.heap.size+1,1,none⟩=some (.slice B (T.digits y.natAbs).length cb))
  (first|(go_keep;done))
  (first
    | (go_at_call 135;refine (HM.out W.drew (HBE.out.trans (((Below.refl _ W).drew).mono HBE.out.size))).mono ?_;rintro e w3 ⟨v,ds,rfl,ho,hds,hb3⟩;have HDS:=hid hds;clear hds;obtain ⟨A3,c3,rfl,-,-,hR⟩:=ho.rsl;have B0:=Blk.ext (w:=W.drew) HB0.out hb3;have B1:=Blk.ext (w:=W.drew) HB1.out hb3;have B2:=Blk.ext (w:=W.drew) HB2.out hb3;have a0:=B0.cell 0 (by simp);have a1:=B0.cell 1 (by simp);have b0:=B1.cell 0 (by simp);have b1:=B1.cell 1 (by simp);have c0:=B2.cell 0 (by simp);have c1:=B2.cell 1 (by simp);have f0:=B2.free 0;have f1:=B2.free 1;have bl:=B2.lt;simp only [List.getElem_cons_zero,List.getElem_cons_succ] at a0 a1 b0 b1 c0 c1;have hs3:=hb3.size;have HX3:=hid (ext_trans (HBE.out.trans (((Below.refl _ W).drew).mono HBE.out.size)) hb3);clear ho)
    | (go_at_call 103;refine (HWH.out _ HDS.out A3 c3 _ hR).mono ?_;rintro e w4 ⟨v4,rfl,⟨sl,rfl,ho⟩,hb4⟩;have B0:=B0.ext hb4;have B1:=B1.ext hb4;have B2:=B2.ext hb4;have a0:=B0.cell 0 (by simp);have a1:=B0.cell 1 (by simp);have b0:=B1.cell 0 (by simp);have b1:=B1.cell 1 (by simp);have c0:=B2.cell 0 (by simp);have c1:=B2.cell 1 (by simp);have f0:=B2.free 0;have f1:=B2.free 1;have bl:=B2.lt;simp only [List.getElem_cons_zero,List.getElem_cons_succ] at a0 a1 b0 b1 c0 c1;have hs4:=hb4.size;have HX:=hid (ext_trans HX3.out hb4);obtain ⟨A2,k2,rfl,-,-,-⟩:=ho.rsl;obtain ⟨q2,hq2⟩:∃ q,decide (x+y<0)=q:=⟨_,rfl⟩;obtain ⟨L2,hL2⟩:∃ L,(T.digits (x+y).natAbs).length=L:=⟨_,rfl⟩;have HQ:=hid hq2;have HL:=hid hL2;have HO:=hid ho;rw [hq2,hL2];clear hq2 hL2 ho))
 all_goals
  go_wp2_with fail
  try simp only [Exit.inBlock,Exit.then]
  refine bodyPost_ret (v:=.agg #[.bool q2,.slice A2 L2 k2]) (by simp [results,Tryz.results79,go_sem,bl,c0,c1]) rfl ⟨_,rfl,⟨.slice A2 L2 k2,by rw [HQ.out],?_⟩,(HX.out.setCell (by dsimp only;omega) _).setCell (by dsimp only;omega) _⟩
  have ho:=HO.out
  rw [HL.out] at ho
  exact ((ho.set _ _ (by dsimp only;omega)).set _ _ (by dsimp only;omega)).mono (by omega)
set_option maxRecDepth 100000 in
set_option maxHeartbeats 2000000 in
theorem rPlus_ge (A B:Option Addr) (ca cb:Nat) (bx bY:Bool) (x y:Int) (w:World) (hA:Rds w A (T.digits x.natAbs)) (hB:Rds w B (T.digits y.natAbs)) (l1:Few x) (l2:Few y) (hbx:decide (x<0)=bx) (hby:decide (y<0)=bY) (hne:bx≠bY) (hle:y.natAbs≤x.natAbs) :
 Calls Tryz.prog 79 #[.agg #[.bool bx,.slice A (T.digits x.natAbs).length ca],.agg #[.bool bY,.slice B (T.digits y.natAbs).length cb]] w fun e w'=>∃ v',e=.returned v'∧RBo w' w.heap.size v' (x+y)∧Below w.heap.size w w':=by
 have hb0:∀ o o',Below w.heap.size w ((w.alloc o).alloc o'):=fun o o'=>((Below.refl _ _).alloc (Nat.le_refl _) _).alloc (by simp) _
 have hbe:Below w.heap.size w (((w.alloc (.cells #[.bool bx,.slice A (T.digits x.natAbs).length ca] 61 (0,0))).alloc (.cells #[.bool bY,.slice B (T.digits y.natAbs).length cb] 61 (0,0))).alloc (.cells #[.bool false,.slice none 0 0] 61 (0,0))):=(hb0 _ _).alloc (by simp;omega) _
 have B0:Blk (((w.alloc (.cells #[.bool bx,.slice A (T.digits x.natAbs).length ca] 61 (0,0))).alloc (.cells #[.bool bY,.slice B (T.digits y.natAbs).length cb] 61 (0,0))).alloc (.cells #[.bool false,.slice none 0 0] 61 (0,0))) w.heap.size [.bool bx,.slice A (T.digits x.natAbs).length ca] 61:=((Blk.new w _ _).alloc _).alloc _
 have B1:Blk (((w.alloc (.cells #[.bool bx,.slice A (T.digits x.natAbs).length ca] 61 (0,0))).alloc (.cells #[.bool bY,.slice B (T.digits y.natAbs).length cb] 61 (0,0))).alloc (.cells #[.bool false,.slice none 0 0] 61 (0,0))) (w.heap.size+1) [.bool bY,.slice B (T.digits y.natAbs).length cb] 61:=(Blk.new' _ [.bool bY,.slice B (T.digits y.natAbs).length cb] _ _ (by simp)).alloc _
 have B2:Blk (((w.alloc (.cells #[.bool bx,.slice A (T.digits x.natAbs).length ca] 61 (0,0))).alloc (.cells #[.bool bY,.slice B (T.digits y.natAbs).length cb] 61 (0,0))).alloc (.cells #[.bool false,.slice none 0 0] 61 (0,0))) (w.heap.size+1+1) [.bool false,.slice none 0 0] 61:=Blk.new' _ [.bool false,.slice none 0 0] _ _ (by simp)
 have hm:∀ n,n≤1000000000000→n≤maxLen:=fun n h=>by unfold maxLen;omega
 have HCM:Hid (∀ w2:World,Below w.heap.size w w2→_):=hid fun w2 hb=>rcmpD_calls A B ca cb x.natAbs y.natAbs w2 (hm _ l1) (hm _ l2) (hA.ext hb) (hB.ext hb)
 have hsg:decide ((0:Int)≤sgn x.natAbs y.natAbs)=true:=by unfold sgn;split<;>(try split)<;>simp<;>omega
 have HM:Hid (∀ w2:World,Below w.heap.size w w2→Calls Tryz.prog 136 #[.slice A (T.digits x.natAbs).length ca,.slice B (T.digits y.natAbs).length cb] w2 fun e w'=>∃ v,e=.returned v∧OwnD w' w2.heap.size v (T.digits (x.natAbs-y.natAbs))∧Below w2.heap.size w2 w'):=hid (fun w2 hb=>by
  have hlen:(T.digits y.natAbs).length≤(T.digits x.natAbs).length:=Classical.byContradiction fun hn=>by
   have:=T.digits_len_lt (n:=x.natAbs) (m:=y.natAbs) (by omega)
   omega
  have:=rsubD_calls A B ca cb (T.digits x.natAbs) (T.digits y.natAbs) w2 (T.digits_dig _) (T.digits_dig _) (Nat.le_trans l1 (by omega)) hlen (by rw [T.val_digits,T.val_digits];omega) (hA.ext hb) (hB.ext hb)
  rw [T.val_digits,T.val_digits] at this;exact this)
 have HWH:Hid (∀ (A3:Option Addr) (c3:Nat) (w2:World),Rds w2 A3 (T.digits (x.natAbs-y.natAbs))→Calls Tryz.prog 103 #[.bool bx,.slice A3 (T.digits (x.natAbs-y.natAbs)).length c3] w2 fun e w'=>∃ v,e=.returned v∧RBo w' w2.heap.size v (x+y)∧Below w2.heap.size w2 w'):=hid (fun A3 c3 w2 hR=>by
  have hlen:(T.digits (x.natAbs-y.natAbs)).length≤1000000000000:=Classical.byContradiction fun hn=>by
   have h5:(T.digits x.natAbs).length≤1000000000000:=l1
   have:=T.digits_len_lt (n:=x.natAbs) (m:=x.natAbs-y.natAbs) (by omega)
   omega
  have:=rwhole_calls bx A3 c3 (T.digits (x.natAbs-y.natAbs)) w2 (by omega) (T.digits_dig _) hR
  rw [T.val_digits,←hbx,sgnd_sub (by rw [hbx,hby];exact hne) (by omega)] at this
  rw [←hbx];exact this)
 have hq:(bx == bY)=false:=by simpa using hne
 clear hA hB l1 l2 hbx hby hle hm hne
 have HBE:=hid hbe
 go_enter Tryz.func79,Tryz.ntmps79
 go_wp2_with fail
 generalize (((w.alloc (.cells #[.bool bx,.slice A (T.digits x.natAbs).length ca] 61 (0,0))).alloc (.cells #[.bool bY,.slice B (T.digits y.natAbs).length cb] 61 (0,0))).alloc (.cells #[.bool false,.slice none 0 0] 61 (0,0)))=W at *
 have a0:=B0.cell 0 (by simp);have a1:=B0.cell 1 (by simp);have b0:=B1.cell 0 (by simp);have b1:=B1.cell 1 (by simp);have c0:=B2.cell 0 (by simp);have c1:=B2.cell 1 (by simp);have f0:=B2.free 0;have f1:=B2.free 1;have bl:=B2.lt
 simp only [List.getElem_cons_zero,List.getElem_cons_succ] at a0 a1 b0 b1 c0 c1
 have HB0:=hid B0;have HB1:=hid B1;have HB2:=hid B2
 clear B0 B1 B2 hbe hb0
 have ne1:w.heap.size+1+1≠w.heap.size:=by omega
 have ne2:w.heap.size+1+1≠w.heap.size+1:=by omega
 go_wp2_with fail
 refine (HCM.out W HBE.out).mono ?_;rintro e w2 ⟨rfl,k,rfl⟩
 have HBE2:=hid (HBE.out.trans ((drewN_below W k).mono HBE.out.size))
 have B0:=Blk.drewN HB0.out k;have B1:=Blk.drewN HB1.out k;have B2:=Blk.drewN HB2.out k
 clear a0 a1 b0 b1 c0 c1 f0 f1 bl HB0 HB1 HB2 HBE HCM
 generalize W.drewN k=W2 at *
 have a0:=B0.cell 0 (by simp);have a1:=B0.cell 1 (by simp);have b0:=B1.cell 0 (by simp);have b1:=B1.cell 1 (by simp);have c0:=B2.cell 0 (by simp);have c1:=B2.cell 1 (by simp);have f0:=B2.free 0;have f1:=B2.free 1;have bl:=B2.lt
 simp only [List.getElem_cons_zero,List.getElem_cons_succ] at a0 a1 b0 b1 c0 c1
 have HB0:=hid B0;have HB1:=hid B1;have HB2:=hid B2
 clear B0 B1 B2
 generalize sgn x.natAbs y.natAbs=S at *
 go_wp2_with fail
 go_region_held3 (fun w'=>w'.cell? ⟨w.heap.size,0,none⟩=some (.bool bx)∧w'.cell? ⟨w.heap.size,1,none⟩=some (.slice A (T.digits x.natAbs).length ca)∧w'.cell? ⟨w.heap.size+1,0,none⟩=some (.bool bY)∧w'.cell? ⟨w.heap.size+1,1,none⟩=some (.slice B (T.digits y.natAbs).length cb))
  (first|(go_keep;done))
  (first
    | (go_at_call 136;refine (HM.out W2.drew (HBE2.out.trans (((Below.refl _ W2).drew).mono HBE2.out.size))).mono ?_;rintro e w3 ⟨v,rfl,ho,hb3⟩;obtain ⟨A3,c3,rfl,-,-,hR⟩:=ho.rsl;have B0:=Blk.ext (w:=W2.drew) HB0.out hb3;have B1:=Blk.ext (w:=W2.drew) HB1.out hb3;have B2:=Blk.ext (w:=W2.drew) HB2.out hb3;have a0:=B0.cell 0 (by simp);have a1:=B0.cell 1 (by simp);have b0:=B1.cell 0 (by simp);have b1:=B1.cell 1 (by simp);have c0:=B2.cell 0 (by simp);have c1:=B2.cell 1 (by simp);have f0:=B2.free 0;have f1:=B2.free 1;have bl:=B2.lt;simp only [List.getElem_cons_zero,List.getElem_cons_succ] at a0 a1 b0 b1 c0 c1;have hs3:=hb3.size;have HX3:=hid (ext_trans (HBE2.out.trans (((Below.refl _ W2).drew).mono HBE2.out.size)) hb3);clear ho)
    | (go_at_call 103;refine (HWH.out A3 c3 _ hR).mono ?_;rintro e w4 ⟨v4,rfl,⟨sl,rfl,ho⟩,hb4⟩;have B0:=B0.ext hb4;have B1:=B1.ext hb4;have B2:=B2.ext hb4;have a0:=B0.cell 0 (by simp);have a1:=B0.cell 1 (by simp);have b0:=B1.cell 0 (by simp);have b1:=B1.cell 1 (by simp);have c0:=B2.cell 0 (by simp);have c1:=B2.cell 1 (by simp);have f0:=B2.free 0;have f1:=B2.free 1;have bl:=B2.lt;simp only [List.getElem_cons_zero,List.getElem_cons_succ] at a0 a1 b0 b1 c0 c1;have hs4:=hb4.size;have HX:=hid (ext_trans HX3.out hb4);obtain ⟨A2,k2,rfl,-,-,-⟩:=ho.rsl;obtain ⟨q2,hq2⟩:∃ q,decide (x+y<0)=q:=⟨_,rfl⟩;obtain ⟨L2,hL2⟩:∃ L,(T.digits (x+y).natAbs).length=L:=⟨_,rfl⟩;have HQ:=hid hq2;have HL:=hid hL2;have HO:=hid ho;rw [hq2,hL2];clear hq2 hL2 ho))
 all_goals
  go_wp2_with fail
  try simp only [Exit.inBlock,Exit.then]
  refine bodyPost_ret (v:=.agg #[.bool q2,.slice A2 L2 k2]) (by simp [results,Tryz.results79,go_sem,bl,c0,c1]) rfl ⟨_,rfl,⟨.slice A2 L2 k2,by rw [HQ.out],?_⟩,(HX.out.setCell (by dsimp only;omega) _).setCell (by dsimp only;omega) _⟩
  have ho:=HO.out
  rw [HL.out] at ho
  exact ((ho.set _ _ (by dsimp only;omega)).set _ _ (by dsimp only;omega)).mono (by omega)
set_option maxRecDepth 100000 in
set_option maxHeartbeats 2000000 in
theorem rPlus_lt (A B:Option Addr) (ca cb:Nat) (bx bY:Bool) (x y:Int) (w:World) (hA:Rds w A (T.digits x.natAbs)) (hB:Rds w B (T.digits y.natAbs)) (l1:Few x) (l2:Few y) (hbx:decide (x<0)=bx) (hby:decide (y<0)=bY) (hne:bx≠bY) (hle:x.natAbs<y.natAbs) :
 Calls Tryz.prog 79 #[.agg #[.bool bx,.slice A (T.digits x.natAbs).length ca],.agg #[.bool bY,.slice B (T.digits y.natAbs).length cb]] w fun e w'=>∃ v',e=.returned v'∧RBo w' w.heap.size v' (x+y)∧Below w.heap.size w w':=by
 have hb0:∀ o o',Below w.heap.size w ((w.alloc o).alloc o'):=fun o o'=>((Below.refl _ _).alloc (Nat.le_refl _) _).alloc (by simp) _
 have hbe:Below w.heap.size w (((w.alloc (.cells #[.bool bx,.slice A (T.digits x.natAbs).length ca] 61 (0,0))).alloc (.cells #[.bool bY,.slice B (T.digits y.natAbs).length cb] 61 (0,0))).alloc (.cells #[.bool false,.slice none 0 0] 61 (0,0))):=(hb0 _ _).alloc (by simp;omega) _
 have B0:Blk (((w.alloc (.cells #[.bool bx,.slice A (T.digits x.natAbs).length ca] 61 (0,0))).alloc (.cells #[.bool bY,.slice B (T.digits y.natAbs).length cb] 61 (0,0))).alloc (.cells #[.bool false,.slice none 0 0] 61 (0,0))) w.heap.size [.bool bx,.slice A (T.digits x.natAbs).length ca] 61:=((Blk.new w _ _).alloc _).alloc _
 have B1:Blk (((w.alloc (.cells #[.bool bx,.slice A (T.digits x.natAbs).length ca] 61 (0,0))).alloc (.cells #[.bool bY,.slice B (T.digits y.natAbs).length cb] 61 (0,0))).alloc (.cells #[.bool false,.slice none 0 0] 61 (0,0))) (w.heap.size+1) [.bool bY,.slice B (T.digits y.natAbs).length cb] 61:=(Blk.new' _ [.bool bY,.slice B (T.digits y.natAbs).length cb] _ _ (by simp)).alloc _
 have B2:Blk (((w.alloc (.cells #[.bool bx,.slice A (T.digits x.natAbs).length ca] 61 (0,0))).alloc (.cells #[.bool bY,.slice B (T.digits y.natAbs).length cb] 61 (0,0))).alloc (.cells #[.bool false,.slice none 0 0] 61 (0,0))) (w.heap.size+1+1) [.bool false,.slice none 0 0] 61:=Blk.new' _ [.bool false,.slice none 0 0] _ _ (by simp)
 have hm:∀ n,n≤1000000000000→n≤maxLen:=fun n h=>by unfold maxLen;omega
 have HCM:Hid (∀ w2:World,Below w.heap.size w w2→_):=hid fun w2 hb=>rcmpD_calls A B ca cb x.natAbs y.natAbs w2 (hm _ l1) (hm _ l2) (hA.ext hb) (hB.ext hb)
 have hsg:decide ((0:Int)≤sgn x.natAbs y.natAbs)=false:=by unfold sgn;split<;>(try split)<;>simp<;>omega
 have HM:Hid (∀ w2:World,Below w.heap.size w w2→Calls Tryz.prog 136 #[.slice B (T.digits y.natAbs).length cb,.slice A (T.digits x.natAbs).length ca] w2 fun e w'=>∃ v,e=.returned v∧OwnD w' w2.heap.size v (T.digits (y.natAbs-x.natAbs))∧Below w2.heap.size w2 w'):=hid (fun w2 hb=>by
  have hlen:(T.digits x.natAbs).length≤(T.digits y.natAbs).length:=Classical.byContradiction fun hn=>by
   have:=T.digits_len_lt (n:=y.natAbs) (m:=x.natAbs) (by omega)
   omega
  have:=rsubD_calls B A cb ca (T.digits y.natAbs) (T.digits x.natAbs) w2 (T.digits_dig _) (T.digits_dig _) (Nat.le_trans l2 (by omega)) hlen (by rw [T.val_digits,T.val_digits];omega) (hB.ext hb) (hA.ext hb)
  rw [T.val_digits,T.val_digits] at this;exact this)
 have HWH:Hid (∀ (A3:Option Addr) (c3:Nat) (w2:World),Rds w2 A3 (T.digits (y.natAbs-x.natAbs))→Calls Tryz.prog 103 #[.bool bY,.slice A3 (T.digits (y.natAbs-x.natAbs)).length c3] w2 fun e w'=>∃ v,e=.returned v∧RBo w' w2.heap.size v (x+y)∧Below w2.heap.size w2 w'):=hid (fun A3 c3 w2 hR=>by
  have hlen:(T.digits (y.natAbs-x.natAbs)).length≤1000000000000:=Classical.byContradiction fun hn=>by
   have h5:(T.digits y.natAbs).length≤1000000000000:=l2
   have:=T.digits_len_lt (n:=y.natAbs) (m:=y.natAbs-x.natAbs) (by omega)
   omega
  have:=rwhole_calls bY A3 c3 (T.digits (y.natAbs-x.natAbs)) w2 (by omega) (T.digits_dig _) hR
  rw [T.val_digits,←hby,sgnd_sub (by rw [hbx,hby];exact Ne.symm hne) (by omega),Int.add_comm y x] at this
  rw [←hby];exact this)
 have hq:(bx == bY)=false:=by simpa using hne
 clear hA hB l1 l2 hbx hby hle hm hne
 have HBE:=hid hbe
 go_enter Tryz.func79,Tryz.ntmps79
 go_wp2_with fail
 generalize (((w.alloc (.cells #[.bool bx,.slice A (T.digits x.natAbs).length ca] 61 (0,0))).alloc (.cells #[.bool bY,.slice B (T.digits y.natAbs).length cb] 61 (0,0))).alloc (.cells #[.bool false,.slice none 0 0] 61 (0,0)))=W at *
 have a0:=B0.cell 0 (by simp);have a1:=B0.cell 1 (by simp);have b0:=B1.cell 0 (by simp);have b1:=B1.cell 1 (by simp);have c0:=B2.cell 0 (by simp);have c1:=B2.cell 1 (by simp);have f0:=B2.free 0;have f1:=B2.free 1;have bl:=B2.lt
 simp only [List.getElem_cons_zero,List.getElem_cons_succ] at a0 a1 b0 b1 c0 c1
 have HB0:=hid B0;have HB1:=hid B1;have HB2:=hid B2
 clear B0 B1 B2 hbe hb0
 have ne1:w.heap.size+1+1≠w.heap.size:=by omega
 have ne2:w.heap.size+1+1≠w.heap.size+1:=by omega
 go_wp2_with fail
 refine (HCM.out W HBE.out).mono ?_;rintro e w2 ⟨rfl,k,rfl⟩
 have HBE2:=hid (HBE.out.trans ((drewN_below W k).mono HBE.out.size))
 have B0:=Blk.drewN HB0.out k;have B1:=Blk.drewN HB1.out k;have B2:=Blk.drewN HB2.out k
 clear a0 a1 b0 b1 c0 c1 f0 f1 bl HB0 HB1 HB2 HBE HCM
 generalize W.drewN k=W2 at *
 have a0:=B0.cell 0 (by simp);have a1:=B0.cell 1 (by simp);have b0:=B1.cell 0 (by simp);have b1:=B1.cell 1 (by simp);have c0:=B2.cell 0 (by simp);have c1:=B2.cell 1 (by simp);have f0:=B2.free 0;have f1:=B2.free 1;have bl:=B2.lt
 simp only [List.getElem_cons_zero,List.getElem_cons_succ] at a0 a1 b0 b1 c0 c1
 have HB0:=hid B0;have HB1:=hid B1;have HB2:=hid B2
 clear B0 B1 B2
 generalize sgn x.natAbs y.natAbs=S at *
 go_wp2_with fail
 go_region_held3 (fun w'=>w'.cell? ⟨w.heap.size,0,none⟩=some (.bool bx)∧w'.cell? ⟨w.heap.size,1,none⟩=some (.slice A (T.digits x.natAbs).length ca)∧w'.cell? ⟨w.heap.size+1,0,none⟩=some (.bool bY)∧w'.cell? ⟨w.heap.size+1,1,none⟩=some (.slice B (T.digits y.natAbs).length cb))
  (first|(go_keep;done))
  (first
    | (go_at_call 136;refine (HM.out W2.drew (HBE2.out.trans (((Below.refl _ W2).drew).mono HBE2.out.size))).mono ?_;rintro e w3 ⟨v,rfl,ho,hb3⟩;obtain ⟨A3,c3,rfl,-,-,hR⟩:=ho.rsl;have B0:=Blk.ext (w:=W2.drew) HB0.out hb3;have B1:=Blk.ext (w:=W2.drew) HB1.out hb3;have B2:=Blk.ext (w:=W2.drew) HB2.out hb3;have a0:=B0.cell 0 (by simp);have a1:=B0.cell 1 (by simp);have b0:=B1.cell 0 (by simp);have b1:=B1.cell 1 (by simp);have c0:=B2.cell 0 (by simp);have c1:=B2.cell 1 (by simp);have f0:=B2.free 0;have f1:=B2.free 1;have bl:=B2.lt;simp only [List.getElem_cons_zero,List.getElem_cons_succ] at a0 a1 b0 b1 c0 c1;have hs3:=hb3.size;have HX3:=hid (ext_trans (HBE2.out.trans (((Below.refl _ W2).drew).mono HBE2.out.size)) hb3);clear ho)
    | (go_at_call 103;refine (HWH.out A3 c3 _ hR).mono ?_;rintro e w4 ⟨v4,rfl,⟨sl,rfl,ho⟩,hb4⟩;have B0:=B0.ext hb4;have B1:=B1.ext hb4;have B2:=B2.ext hb4;have a0:=B0.cell 0 (by simp);have a1:=B0.cell 1 (by simp);have b0:=B1.cell 0 (by simp);have b1:=B1.cell 1 (by simp);have c0:=B2.cell 0 (by simp);have c1:=B2.cell 1 (by simp);have f0:=B2.free 0;have f1:=B2.free 1;have bl:=B2.lt;simp only [List.getElem_cons_zero,List.getElem_cons_succ] at a0 a1 b0 b1 c0 c1;have hs4:=hb4.size;have HX:=hid (ext_trans HX3.out hb4);obtain ⟨A2,k2,rfl,-,-,-⟩:=ho.rsl;obtain ⟨q2,hq2⟩:∃ q,decide (x+y<0)=q:=⟨_,rfl⟩;obtain ⟨L2,hL2⟩:∃ L,(T.digits (x+y).natAbs).length=L:=⟨_,rfl⟩;have HQ:=hid hq2;have HL:=hid hL2;have HO:=hid ho;rw [hq2,hL2];clear hq2 hL2 ho))
 all_goals
  go_wp2_with fail
  try simp only [Exit.inBlock,Exit.then]
  refine bodyPost_ret (v:=.agg #[.bool q2,.slice A2 L2 k2]) (by simp [results,Tryz.results79,go_sem,bl,c0,c1]) rfl ⟨_,rfl,⟨.slice A2 L2 k2,by rw [HQ.out],?_⟩,(HX.out.setCell (by dsimp only;omega) _).setCell (by dsimp only;omega) _⟩
  have ho:=HO.out
  rw [HL.out] at ho
  exact ((ho.set _ _ (by dsimp only;omega)).set _ _ (by dsimp only;omega)).mono (by omega)
theorem rPlus_calls (v1 v2:Value) (x y:Int) (w:World) (h1:RB w v1 x) (h2:RB w v2 y) (l1:Few x) (l2:Few y) :
 Calls Tryz.prog 79 #[v1,v2] w fun e w'=>∃ v',e=.returned v'∧RBo w' w.heap.size v' (x+y)∧Below w.heap.size w w':=by
 obtain ⟨A,ca,rfl,hA⟩:=h1.form
 obtain ⟨B,cb,rfl,hB⟩:=h2.form
 by_cases hs:decide (x<0)=decide (y<0)
 ·rw [←hs];exact rPlus_same A B ca cb _ x y w hA hB l1 l2 rfl hs.symm
 ·by_cases hl:y.natAbs≤x.natAbs
  ·exact rPlus_ge A B ca cb _ _ x y w hA hB l1 l2 rfl rfl hs hl
  ·exact rPlus_lt A B ca cb _ _ x y w hA hB l1 l2 rfl rfl hs (by omega)
theorem few_neg {x:Int} (h:Few x):Few (-x):=by unfold Few at *;rw [Int.natAbs_neg];exact h
set_option maxRecDepth 100000 in
set_option maxHeartbeats 2000000 in
theorem rMinus_calls (v1 v2:Value) (x y:Int) (w:World) (h1:RB w v1 x) (h2:RB w v2 y) (l1:Few x) (l2:Few y) :
 Calls Tryz.prog 185 #[v1,v2] w fun e w'=>∃ v',e=.returned v'∧RBo w' w.heap.size v' (x-y)∧Below w.heap.size w w':=by
 have HR1:=hid h1;have HR2:=hid h2
 obtain ⟨A,ca,rfl,hA⟩:=h1.form
 obtain ⟨B,cb,rfl,hB⟩:=h2.form
 obtain ⟨bx,hbx⟩:∃ b,decide (x<0)=b:=⟨_,rfl⟩
 obtain ⟨bY,hby⟩:∃ b,decide (y<0)=b:=⟨_,rfl⟩
 rw [hbx,hby]
 have HBX:=hid hbx;have HBY:=hid hby
 have hb0:∀ o o',Below w.heap.size w ((w.alloc o).alloc o'):=fun o o'=>((Below.refl _ _).alloc (Nat.le_refl _) _).alloc (by simp) _
 have hbe:Below w.heap.size w (((w.alloc (.cells #[.bool bx,.slice A (T.digits x.natAbs).length ca] 61 (0,0))).alloc (.cells #[.bool bY,.slice B (T.digits y.natAbs).length cb] 61 (0,0))).alloc (.cells #[.bool false,.slice none 0 0] 61 (0,0))):=(hb0 _ _).alloc (by simp;omega) _
 have B0:Blk (((w.alloc (.cells #[.bool bx,.slice A (T.digits x.natAbs).length ca] 61 (0,0))).alloc (.cells #[.bool bY,.slice B (T.digits y.natAbs).length cb] 61 (0,0))).alloc (.cells #[.bool false,.slice none 0 0] 61 (0,0))) w.heap.size [.bool bx,.slice A (T.digits x.natAbs).length ca] 61:=((Blk.new w _ _).alloc _).alloc _
 have B1:Blk (((w.alloc (.cells #[.bool bx,.slice A (T.digits x.natAbs).length ca] 61 (0,0))).alloc (.cells #[.bool bY,.slice B (T.digits y.natAbs).length cb] 61 (0,0))).alloc (.cells #[.bool false,.slice none 0 0] 61 (0,0))) (w.heap.size+1) [.bool bY,.slice B (T.digits y.natAbs).length cb] 61:=(Blk.new' _ [.bool bY,.slice B (T.digits y.natAbs).length cb] _ _ (by simp)).alloc _
 have B2:Blk (((w.alloc (.cells #[.bool bx,.slice A (T.digits x.natAbs).length ca] 61 (0,0))).alloc (.cells #[.bool bY,.slice B (T.digits y.natAbs).length cb] 61 (0,0))).alloc (.cells #[.bool false,.slice none 0 0] 61 (0,0))) (w.heap.size+1+1) [.bool false,.slice none 0 0] 61:=Blk.new' _ [.bool false,.slice none 0 0] _ _ (by simp)
 have HNG:Hid (∀ w2:World,Below w.heap.size w w2→Calls Tryz.prog 186 #[.agg #[.bool bY,.slice B (T.digits y.natAbs).length cb]] w2 fun e w'=>∃ v',e=.returned v'∧RBo w' w2.heap.size v' (-y)∧Below w2.heap.size w2 w'):=hid (fun w2 hb=>by
  have:=rNeg_calls _ y w2 (HR2.out.ext hb) l2
  rw [hby] at this;exact this)
 have HPL:Hid (∀ (w2:World) (v:Value),Below w.heap.size w w2→RB w2 v (-y)→Calls Tryz.prog 79 #[.agg #[.bool bx,.slice A (T.digits x.natAbs).length ca],v] w2 fun e w'=>∃ v',e=.returned v'∧RBo w' w2.heap.size v' (x-y)∧Below w2.heap.size w2 w'):=hid (fun w2 v hb hv=>by
  have:=rPlus_calls _ v x (-y) w2 (HR1.out.ext hb) hv l1 (few_neg l2)
  rw [hbx,←Int.sub_eq_add_neg] at this;exact this)
 clear h1 h2 hA hB l1 l2 hbx hby HR1 HR2
 have HBE:=hid hbe
 go_enter Tryz.func185,Tryz.ntmps185
 go_wp2_with fail
 generalize (((w.alloc (.cells #[.bool bx,.slice A (T.digits x.natAbs).length ca] 61 (0,0))).alloc (.cells #[.bool bY,.slice B (T.digits y.natAbs).length cb] 61 (0,0))).alloc (.cells #[.bool false,.slice none 0 0] 61 (0,0)))=W at *
 have a0:=B0.cell 0 (by simp);have a1:=B0.cell 1 (by simp);have b0:=B1.cell 0 (by simp);have b1:=B1.cell 1 (by simp);have c0:=B2.cell 0 (by simp);have c1:=B2.cell 1 (by simp);have f0:=B2.free 0;have f1:=B2.free 1;have bl:=B2.lt
 simp only [List.getElem_cons_zero,List.getElem_cons_succ] at a0 a1 b0 b1 c0 c1
 have HB0:=hid B0;have HB1:=hid B1;have HB2:=hid B2
 clear B0 B1 B2 hbe hb0
 have ne1:w.heap.size+1+1≠w.heap.size:=by omega
 have ne2:w.heap.size+1+1≠w.heap.size+1:=by omega
 go_wp2_with fail
 go_region_held3 (fun w'=>w'.cell? ⟨w.heap.size,0,none⟩=some (.bool bx)∧w'.cell? ⟨w.heap.size,1,none⟩=some (.slice A (T.digits x.natAbs).length ca)∧w'.cell? ⟨w.heap.size+1,0,none⟩=some (.bool bY)∧w'.cell? ⟨w.heap.size+1,1,none⟩=some (.slice B (T.digits y.natAbs).length cb))
  (first|(go_keep;done))
  (first
    | (go_at_call 186;refine (HNG.out W.drew (HBE.out.trans (((Below.refl _ W).drew).mono HBE.out.size))).mono ?_;rintro e w3 ⟨v,rfl,ho,hb3⟩;have B0:=Blk.ext (w:=W.drew) HB0.out hb3;have B1:=Blk.ext (w:=W.drew) HB1.out hb3;have B2:=Blk.ext (w:=W.drew) HB2.out hb3;have a0:=B0.cell 0 (by simp);have a1:=B0.cell 1 (by simp);have b0:=B1.cell 0 (by simp);have b1:=B1.cell 1 (by simp);have c0:=B2.cell 0 (by simp);have c1:=B2.cell 1 (by simp);have f0:=B2.free 0;have f1:=B2.free 1;have bl:=B2.lt;simp only [List.getElem_cons_zero,List.getElem_cons_succ] at a0 a1 b0 b1 c0 c1;have hs3:=hb3.size;have HX3:=hid (ext_trans (HBE.out.trans (((Below.refl _ W).drew).mono HBE.out.size)) hb3);have hR:=ho.rb;clear ho)
    | (go_at_call 79;refine (HPL.out _ _ HX3.out hR).mono ?_;rintro e w4 ⟨v4,rfl,⟨sl,rfl,ho⟩,hb4⟩;have B0:=B0.ext hb4;have B1:=B1.ext hb4;have B2:=B2.ext hb4;have a0:=B0.cell 0 (by simp);have a1:=B0.cell 1 (by simp);have b0:=B1.cell 0 (by simp);have b1:=B1.cell 1 (by simp);have c0:=B2.cell 0 (by simp);have c1:=B2.cell 1 (by simp);have f0:=B2.free 0;have f1:=B2.free 1;have bl:=B2.lt;simp only [List.getElem_cons_zero,List.getElem_cons_succ] at a0 a1 b0 b1 c0 c1;have hs4:=hb4.size;have HX:=hid (ext_trans HX3.out hb4);obtain ⟨A2,k2,rfl,-,-,-⟩:=ho.rsl;obtain ⟨q2,hq2⟩:∃ q,decide (x-y<0)=q:=⟨_,rfl⟩;obtain ⟨L2,hL2⟩:∃ L,(T.digits (x-y).natAbs).length=L:=⟨_,rfl⟩;have HQ:=hid hq2;have HL:=hid hL2;have HO:=hid ho;rw [hq2,hL2];clear hq2 hL2 ho))
 all_goals
  go_wp2_with fail
  try simp only [Exit.inBlock,Exit.then]
  refine bodyPost_ret (v:=.agg #[.bool q2,.slice A2 L2 k2]) (by simp [results,Tryz.results185,go_sem,bl,c0,c1]) rfl ⟨_,rfl,⟨.slice A2 L2 k2,by rw [HQ.out],?_⟩,(HX.out.setCell (by dsimp only;omega) _).setCell (by dsimp only;omega) _⟩
  have ho:=HO.out
  rw [HL.out] at ho
  exact ((ho.set _ _ (by dsimp only;omega)).set _ _ (by dsimp only;omega)).mono (by omega)
end
end Go.Proofs.YtkljafmdbajfeaaGreatDoor
