/- The reference's whole numbers: floor, smaller, Zero. -/
import Derived.Test.YtkljafmdbajfeaaGreatDoorNoH24
import Derived.Test.YtkljafmdbajfeaaGreatDoorNoH39
namespace Go.Proofs.YtkljafmdbajfeaaGreatDoor
set_option linter.unusedVariables false
set_option linter.unusedSimpArgs false
open Go.Lib (hid)
section
open Go.RowKit
def flr (a b:Int):Int:=if b<0 then (-a) / (-b) else a / b
theorem RB.open2 {w:World} {v:Value} {z:Int} (h:RB w v z):∃ q A L c,v=.agg #[.bool q,.slice A L c]∧Hid (q=decide (z<0))∧Hid (RB w (.agg #[.bool q,.slice A L c]) z):=by
 obtain ⟨A,c,rfl,hA⟩:=h.form
 exact ⟨_,_,_,_,rfl,hid rfl,hid h⟩
theorem RBo.open2 {w:World} {base:Nat} {v:Value} {z:Int} (h:RBo w base v z):∃ q A L c,v=.agg #[.bool q,.slice A L c]∧Hid (q=decide (z<0))∧Hid (RBo w base (.agg #[.bool q,.slice A L c]) z):=by
 obtain ⟨q,A,L,c,rfl,h1,h2⟩:=h.form
 exact ⟨_,_,_,_,rfl,h1,hid (RBo.of h1 h2)⟩
theorem Blk.two {w:World} {b:Nat} {x y:Value} {T:TypeId} (h:Blk w b [x,y] T):w.cell? ⟨b,0,none⟩=some x∧w.cell? ⟨b,1,none⟩=some y∧w.frozen? ⟨b,0,none⟩=false∧w.frozen? ⟨b,1,none⟩=false∧b<w.heap.size:=by
 have c0:=h.cell 0 (by simp);have c1:=h.cell 1 (by simp)
 simp only [List.getElem_cons_zero,List.getElem_cons_succ] at c0 c1
 exact ⟨c0,c1,h.free 0,h.free 1,h.lt⟩
theorem Blk.put2 {w:World} {b:Nat} {x y x' y':Value} {T:TypeId} (h:Blk w b [x,y] T):Blk ((w.setCell ⟨b,0,none⟩ x').setCell ⟨b,1,none⟩ y') b [x',y'] T:=(h.set 0 x').set 1 y'
theorem below_put2 {w w':World} {B b:Nat} {x y:Value} (h:Below B w w') (hb:B≤b):Below B w ((w'.setCell ⟨b,0,none⟩ x).setCell ⟨b,1,none⟩ y):=(h.setCell (by simpa using hb) _).setCell (by simpa using hb) _
theorem Blk.apart {w:World} {b c:Nat} {vs:List Value} {x y:Value} {T:TypeId} (h:Blk w b vs T) (hne:c≠b):Blk ((w.setCell ⟨c,0,none⟩ x).setCell ⟨c,1,none⟩ y) b vs T:=(h.other _ _ (by simpa using Ne.symm hne)).other _ _ (by simpa using Ne.symm hne)
theorem RBo.put2 {w:World} {base b:Nat} {v x y:Value} {z:Int} (h:RBo w base v z) (hb:b<base):RBo ((w.setCell ⟨b,0,none⟩ x).setCell ⟨b,1,none⟩ y) base v z:=(h.set _ _ (by simpa using hb)).set _ _ (by simpa using hb)
set_option maxRecDepth 100000 in
set_option maxHeartbeats 1000000 in
theorem rZero_calls (v:Value) (x:Int) (w:World) (h1:RB w v x) (l1:Few x) :
 Calls Tryz.prog 124 #[v] w fun e w'=>e=.returned (.bool (decide (x=0)))∧Below w.heap.size w w':=by
 obtain ⟨A,c,rfl,hA⟩:=h1.form
 have hlz:(((T.digits x.natAbs).length:Int) == 0)=decide (x=0):=by
  by_cases hx:x=0
  ·subst hx;rw [show (0:Int).natAbs=0 from rfl,T.digits_zero];rfl
  ·rw [T.digits_pos (by omega),decide_eq_false hx];simp;omega
 have HB0:=hid (Blk.new w [.bool (decide (x<0)),.slice A (T.digits x.natAbs).length c] 61)
 have HLZ:=hid hlz
 have hl:((T.digits x.natAbs).length:Int)≤9223372036854775807:=by unfold Few at l1;omega
 generalize hL:(T.digits x.natAbs).length=L at *
 clear hlz h1 l1 hA hL
 obtain ⟨c0,c1,f0,f1,bl⟩:=Blk.two HB0.out
 clear HB0
 go_enter Tryz.func124,Tryz.ntmps124
 go_wp2_with fail
 go_ret
 exact ⟨by rw [←HLZ.out];rfl,(Below.refl _ _).alloc (Nat.le_refl _) _⟩
set_option maxRecDepth 100000 in
set_option maxHeartbeats 1000000 in
theorem rSmaller_calls (v1 v2:Value) (x y:Int) (w:World) (h1:RB w v1 x) (h2:RB w v2 y) (l1:Few x) (l2:Few y) :
 Calls Tryz.prog 141 #[v1,v2] w fun e w'=>e=.returned (.bool (decide (x.natAbs<y.natAbs)))∧Below w.heap.size w w':=by
 obtain ⟨A,ca,rfl,hA⟩:=h1.form
 obtain ⟨B,cb,rfl,hB⟩:=h2.form
 have hm:∀ n,n≤1000000000000→n≤maxLen:=fun n h=>by unfold maxLen;omega
 have HC:Hid (∀ w2:World,Below w.heap.size w w2→_):=hid fun w2 hb=>rcmpD_calls A B ca cb x.natAbs y.natAbs w2 (hm _ l1) (hm _ l2) (hA.ext hb) (hB.ext hb)
 have hd:decide (sgn x.natAbs y.natAbs<0)=decide (x.natAbs<y.natAbs):=by
  unfold sgn
  by_cases h:x.natAbs<y.natAbs
  ·rw [if_pos h,decide_eq_true h];rfl
  ·rw [if_neg h,decide_eq_false h];split<;>rfl
 have HD:=hid hd
 obtain ⟨W,hW⟩:∃ W,((w.alloc (.cells #[.bool (decide (x<0)),.slice A (T.digits x.natAbs).length ca] 61 (0,0))).alloc (.cells #[.bool (decide (y<0)),.slice B (T.digits y.natAbs).length cb] 61 (0,0)))=W:=⟨_,rfl⟩
 have B0:Blk W w.heap.size [.bool (decide (x<0)),.slice A (T.digits x.natAbs).length ca] 61:=by rw [←hW];exact Blk.alloc (Blk.new w _ _) _
 have B1:Blk W (w.heap.size+1) [.bool (decide (y<0)),.slice B (T.digits y.natAbs).length cb] 61:=by rw [←hW];exact Blk.new' _ _ _ _ (by simp)
 have HBE:Hid (Below w.heap.size w W):=hid (by rw [←hW];exact ((Below.refl _ _).alloc (Nat.le_refl _) _).alloc (by simp) _)
 have HW:=hid hW
 clear h1 h2 hA hB l1 l2 hm hd hW
 obtain ⟨a0,a1,-,-,-⟩:=Blk.two B0
 obtain ⟨b0,b1,-,-,-⟩:=Blk.two B1
 clear B0 B1
 go_enter Tryz.func141,Tryz.ntmps141
 go_wp2_with fail
 rw [HW.out]
 go_wp2_with fail
 refine (HC.out W HBE.out).mono ?_;rintro e w2 ⟨rfl,k,rfl⟩
 have HX:=hid (HBE.out.trans ((drewN_below W k).mono HBE.out.size))
 rw [show sgn x.natAbs y.natAbs=sgn x.natAbs y.natAbs from rfl]
 generalize hS:sgn x.natAbs y.natAbs=S at *
 clear hS HC
 go_wp2
 go_ret
 exact ⟨by rw [←HD.out];rfl,HX.out⟩
set_option maxRecDepth 100000 in
set_option maxHeartbeats 1000000 in
theorem rFloor_calls (v1 v2:Value) (x y:Int) (w:World) (h1:RB w v1 x) (h2:RB w v2 y) (l1:Few x) (l2:Few y) (hy:y≠0) :
 Calls Tryz.prog 143 #[v1,v2] w fun e w'=>∃ u,e=.returned u∧RBo w' w.heap.size u (flr x y)∧Below w.heap.size w w':=by
 obtain ⟨qx,AX,LX,cx,rfl,hqx,hRX⟩:=h1.open2
 obtain ⟨qy,AY,LY,cy,rfl,hqy,hRY⟩:=h2.open2
 obtain ⟨W,hW⟩:∃ W,(((w.alloc (.cells #[.bool qx,.slice AX LX cx] 61 (0,0))).alloc (.cells #[.bool qy,.slice AY LY cy] 61 (0,0))).alloc (.cells #[.bool false,.slice none 0 0] 61 (0,0)))=W:=⟨_,rfl⟩
 have HBE:Hid (Below w.heap.size w W):=hid (by
  rw [←hW]
  exact (((Below.refl _ _).alloc (Nat.le_refl _) _).alloc (by simp) _).alloc (by simp;omega) _)
 have B0:Blk W w.heap.size [.bool qx,.slice AX LX cx] 61:=by rw [←hW];exact (Blk.alloc (Blk.alloc (Blk.new w _ _) _) _)
 have B1:Blk W (w.heap.size+1) [.bool qy,.slice AY LY cy] 61:=by rw [←hW];exact Blk.alloc (Blk.new' _ _ _ _ (by simp)) _
 have B2:Blk W (w.heap.size+1+1) [.bool false,.slice none 0 0] 61:=by rw [←hW];exact Blk.new' _ _ _ _ (by simp)
 have HW:=hid hW
 have HL1:=hid l1;have HL2:=hid l2;have HY:=hid hy
 clear h1 h2 l1 l2 hy hW
 obtain ⟨a0,a1,af0,af1,abl⟩:=Blk.two B0
 obtain ⟨b0,b1,bf0,bf1,bbl⟩:=Blk.two B1
 have HB0:=hid B0;have HB1:=hid B1;have HB2:=hid B2
 clear B0 B1 B2
 have ne1:w.heap.size+1+1≠w.heap.size:=by omega
 have ne2:w.heap.size+1+1≠w.heap.size+1:=by omega
 cases qy with
 | false =>
   have hy0:¬ y<0:=by have:=hqy.out;simpa using this.symm
   have HOV:Hid (∀ w2:World,Below w.heap.size w w2→Calls Tryz.prog 187 #[.agg #[.bool qx,.slice AX LX cx],.agg #[.bool false,.slice AY LY cy]] w2 fun e w'=>∃ u1 u2,e=.returned (.tuple #[u1,u2])∧RBo w' w2.heap.size u1 (flr x y)∧RBo w' w2.heap.size u2 (x % y)∧Below w2.heap.size w2 w'):=hid fun w2 hb=>by
    have:=rOver_calls _ _ x y w2 (hRX.out.ext hb) (hRY.out.ext hb) HL1.out HL2.out (by have:=HY.out;omega)
    rw [show flr x y=x / y from if_neg hy0];exact this
   clear hy0
   go_enter Tryz.func143,Tryz.ntmps143
   go_wp2_with fail
   rw [HW.out]
   clear HW
   go_wp2_with fail
   refine (HOV.out W HBE.out).mono ?_;rintro e w3 ⟨u1,u2,rfl,hu1,hu2,hb3⟩
   obtain ⟨q1,A1,L1,c1,rfl,hq1,ho1⟩:=hu1.form
   obtain ⟨q2,A2,L2,c2,rfl,hq2,ho2⟩:=hu2.form
   have HE3:=hid (ext_trans HBE.out hb3)
   have HS:Hid (w.heap.size+1+1<W.heap.size∧W.heap.size≤w3.heap.size):=hid ⟨Blk.lt HB2.out,hb3.size⟩
   have B2:=Blk.ext HB2.out hb3
   clear hu1 hu2 hq2 ho2 hb3 HOV HB0 HB1 HB2 a0 a1 af0 af1 abl b0 b1 bf0 bf1 bbl HBE
   have HB2:=hid B2
   obtain ⟨k0,k1,g0,g1,kl⟩:=Blk.two ((Blk.alloc B2 (.cells #[.bool q1,.slice A1 L1 c1] 61 (0,0))).alloc (.cells #[.bool q2,.slice A2 L2 c2] 61 (0,0)))
   obtain ⟨c0,c1',f0,f1,bl⟩:=Blk.two B2
   clear B2
   go_wp2_with fail
   try simp only [Exit.inBlock,Exit.then]
   refine bodyPost_ret (v:=.agg #[.bool q1,.slice A1 L1 c1]) (by simp [results,Tryz.results143,go_sem,bl,k0,k1,kl]) rfl ⟨_,rfl,RBo.of hq1 (hid ?_),below_put2 ((HE3.out.alloc HE3.out.size _).alloc (by have:=HE3.out.size;simp;omega) _) (by omega)⟩
   have hs:=HS.out
   have ho:=OwnD.ext ho1.out (((Below.refl _ w3).alloc (Nat.le_refl _) (.cells #[.bool q1,.slice A1 L1 c1] 61 (0,0))).alloc (by simp) (.cells #[.bool q2,.slice A2 L2 c2] 61 (0,0)))
   exact ((ho.set _ _ (by dsimp only;omega)).set _ _ (by dsimp only;omega)).mono (by omega)
 | true =>
   have hy0:y<0:=by have:=hqy.out;simpa using this.symm
   have HNX:Hid (∀ w2:World,Below w.heap.size w w2→Calls Tryz.prog 186 #[.agg #[.bool qx,.slice AX LX cx]] w2 fun e w'=>∃ v',e=.returned v'∧RBo w' w2.heap.size v' (-x)∧Below w2.heap.size w2 w'):=hid fun w2 hb=>rNeg_calls _ x w2 (hRX.out.ext hb) HL1.out
   have HNY:Hid (∀ w2:World,Below w.heap.size w w2→Calls Tryz.prog 186 #[.agg #[.bool true,.slice AY LY cy]] w2 fun e w'=>∃ v',e=.returned v'∧RBo w' w2.heap.size v' (-y)∧Below w2.heap.size w2 w'):=hid fun w2 hb=>rNeg_calls _ y w2 (hRY.out.ext hb) HL2.out
   have HOV:Hid (∀ (w2:World) (v1 v2:Value),RB w2 v1 (-x)→RB w2 v2 (-y)→Calls Tryz.prog 187 #[v1,v2] w2 fun e w'=>∃ u1 u2,e=.returned (.tuple #[u1,u2])∧RBo w' w2.heap.size u1 (flr x y)∧RBo w' w2.heap.size u2 ((-x) % (-y))∧Below w2.heap.size w2 w'):=hid fun w2 v1 v2 h1 h2=>by
    have:=rOver_calls v1 v2 (-x) (-y) w2 h1 h2 (few_neg HL1.out) (few_neg HL2.out) (by omega)
    rw [show flr x y=(-x) / (-y) from if_pos hy0];exact this
   clear hy0
   go_enter Tryz.func143,Tryz.ntmps143
   go_wp2_with fail
   rw [HW.out]
   clear HW
   go_wp2_with fail
   refine (HNX.out W HBE.out).mono ?_;rintro e w3 ⟨u1,rfl,hu1,hb3⟩
   obtain ⟨q1,A1,L1,c1,rfl,hq1,ho1⟩:=hu1.open2
   have HE3:=hid (ext_trans HBE.out hb3)
   have HS:Hid (w.heap.size+1+1<W.heap.size∧W.heap.size≤w3.heap.size):=hid ⟨Blk.lt HB2.out,hb3.size⟩
   have B0:=Blk.ext HB0.out hb3;have B1:=Blk.ext HB1.out hb3;have B2:=Blk.ext HB2.out hb3
   clear hu1 hb3 HNX HB0 HB1 HB2 a0 a1 af0 af1 abl b0 b1 bf0 bf1 bbl HBE
   have HB0':Hid (Blk ((w3.setCell ⟨w.heap.size,0,none⟩ (.bool q1)).setCell ⟨w.heap.size,1,none⟩ (.slice A1 L1 c1)) w.heap.size [.bool q1,.slice A1 L1 c1] 61):=hid (Blk.put2 B0)
   have HB1':Hid (Blk ((w3.setCell ⟨w.heap.size,0,none⟩ (.bool q1)).setCell ⟨w.heap.size,1,none⟩ (.slice A1 L1 c1)) (w.heap.size+1) [.bool true,.slice AY LY cy] 61):=hid (Blk.apart B1 (by omega))
   have HB2':Hid (Blk ((w3.setCell ⟨w.heap.size,0,none⟩ (.bool q1)).setCell ⟨w.heap.size,1,none⟩ (.slice A1 L1 c1)) (w.heap.size+1+1) [.bool false,.slice none 0 0] 61):=hid (Blk.apart B2 (by omega))
   obtain ⟨a0,a1,af0,af1,abl⟩:=Blk.two B0
   obtain ⟨b0,b1,bf0,bf1,bbl⟩:=Blk.two B1
   clear B0 B1 B2
   have HE4:=hid (below_put2 (x:=.bool q1) (y:=.slice A1 L1 c1) HE3.out (Nat.le_refl _))
   have HO4:=hid (RBo.put2 (x:=.bool q1) (y:=.slice A1 L1 c1) ho1.out (b:=w.heap.size) (by have:=HS.out;omega))
   obtain ⟨w4,hw4⟩:∃ w4,((w3.setCell ⟨w.heap.size,0,none⟩ (.bool q1)).setCell ⟨w.heap.size,1,none⟩ (.slice A1 L1 c1))=w4:=⟨_,rfl⟩
   have HS4:Hid (w4.heap.size=w3.heap.size):=hid (by rw [←hw4];simp)
   rw [hw4] at HB0' HB1' HB2' HE4 HO4
   have HW4:=hid hw4
   clear hw4
   go_wp2_with fail
   rw [HW4.out]
   refine (HNY.out w4 HE4.out).mono ?_;rintro e w5 ⟨u2,rfl,hu2,hb5⟩
   obtain ⟨q2,A2,L2,c2,rfl,hq2,ho2⟩:=hu2.open2
   have HE5:=hid (ext_trans HE4.out hb5)
   have HS5:Hid (w4.heap.size≤w5.heap.size):=hid hb5.size
   have HO5:=hid (RBo.ext HO4.out hb5)
   have B0:=Blk.ext HB0'.out hb5;have B1:=Blk.ext HB1'.out hb5;have B2:=Blk.ext HB2'.out hb5
   clear hu2 hb5 HNY HB0' HB1' HB2' a0 a1 af0 af1 abl b0 b1 bf0 bf1 bbl HE4 HO4 HW4
   have HB0':Hid (Blk ((w5.setCell ⟨w.heap.size+1,0,none⟩ (.bool q2)).setCell ⟨w.heap.size+1,1,none⟩ (.slice A2 L2 c2)) w.heap.size [.bool q1,.slice A1 L1 c1] 61):=hid (Blk.apart B0 (by omega))
   have HB1':Hid (Blk ((w5.setCell ⟨w.heap.size+1,0,none⟩ (.bool q2)).setCell ⟨w.heap.size+1,1,none⟩ (.slice A2 L2 c2)) (w.heap.size+1) [.bool q2,.slice A2 L2 c2] 61):=hid (Blk.put2 B1)
   have HB2':Hid (Blk ((w5.setCell ⟨w.heap.size+1,0,none⟩ (.bool q2)).setCell ⟨w.heap.size+1,1,none⟩ (.slice A2 L2 c2)) (w.heap.size+1+1) [.bool false,.slice none 0 0] 61):=hid (Blk.apart B2 (by omega))
   obtain ⟨b0,b1,bf0,bf1,bbl⟩:=Blk.two B1
   obtain ⟨a0,a1,af0,af1,abl⟩:=Blk.two B0
   clear B0 B1 B2
   have HE6:=hid (below_put2 (b:=w.heap.size+1) (x:=.bool q2) (y:=.slice A2 L2 c2) HE5.out (by omega))
   have HO6:=hid (RBo.put2 (x:=.bool q2) (y:=.slice A2 L2 c2) HO5.out (b:=w.heap.size+1) (by have:=HS.out;omega))
   have HP6:=hid (RBo.put2 (x:=.bool q2) (y:=.slice A2 L2 c2) ho2.out (b:=w.heap.size+1) (by have:=HS.out;have:=HS4.out;omega))
   obtain ⟨w6,hw6⟩:∃ w6,((w5.setCell ⟨w.heap.size+1,0,none⟩ (.bool q2)).setCell ⟨w.heap.size+1,1,none⟩ (.slice A2 L2 c2))=w6:=⟨_,rfl⟩
   have HS6:Hid (w6.heap.size=w5.heap.size):=hid (by rw [←hw6];simp)
   rw [hw6] at HB0' HB1' HB2' HE6 HO6 HP6
   have HW6:=hid hw6
   clear hw6 HO5 HE5
   go_wp2_with fail
   rw [HW6.out]
   refine (HOV.out w6 _ _ HO6.out.rb HP6.out.rb).mono ?_;rintro e w7 ⟨u3,u4,rfl,hu3,hu4,hb7⟩
   obtain ⟨q3,A3,L3,c3,rfl,hq3,ho3⟩:=hu3.form
   obtain ⟨q4,A4,L4,c4,rfl,hq4,ho4⟩:=hu4.form
   have HE7:=hid (ext_trans HE6.out hb7)
   have HS7:Hid (w6.heap.size≤w7.heap.size):=hid hb7.size
   have B2:=Blk.ext HB2'.out hb7
   clear hu3 hu4 hq4 ho4 hb7 HOV HB0' HB1' HB2' a0 a1 af0 af1 abl b0 b1 bf0 bf1 bbl HE6 HW6 HO6 HP6
   obtain ⟨k0,k1,g0,g1,kl⟩:=Blk.two ((Blk.alloc B2 (.cells #[.bool q3,.slice A3 L3 c3] 61 (0,0))).alloc (.cells #[.bool q4,.slice A4 L4 c4] 61 (0,0)))
   obtain ⟨c0,c1',f0,f1,bl⟩:=Blk.two B2
   clear B2
   go_wp2_with fail
   try simp only [Exit.inBlock,Exit.then]
   refine bodyPost_ret (v:=.agg #[.bool q3,.slice A3 L3 c3]) (by simp [results,Tryz.results143,go_sem,bl,k0,k1,kl]) rfl ⟨_,rfl,RBo.of hq3 (hid ?_),below_put2 ((HE7.out.alloc HE7.out.size _).alloc (by have:=HE7.out.size;simp;omega) _) (by omega)⟩
   have hs:=HS.out;have hs4:=HS4.out;have hs5:=HS5.out;have hs6:=HS6.out;have hs7:=HS7.out
   have ho:=OwnD.ext ho3.out (((Below.refl _ w7).alloc (Nat.le_refl _) (.cells #[.bool q3,.slice A3 L3 c3] 61 (0,0))).alloc (by simp) (.cells #[.bool q4,.slice A4 L4 c4] 61 (0,0)))
   exact ((ho.set _ _ (by dsimp only;omega)).set _ _ (by dsimp only;omega)).mono (by omega)
end
section
open Go.RowKit Go.ChangeMaps
theorem run_append_two {Q:Value→Prop} {w:World} (base:Nat) (t ty e:TypeId) (i:TypeInfo) (z:Value) (bytes:Nat) (ht:Tryz.prog.underlying t=some (.slice e)) (hi:Tryz.prog.info? e=some i) (hz:i.zero=some z)
 (hsize:i.size=2) (hby:i.bytes=bytes) {z0 z1:Value} (hzs:z.cells=#[z0,z1]) (hQz:Q z0∧Q z1)
 (v:Value) (n:Nat) (xs:List Value) (hown:w.ownsRow base e 2 v n xs) (hall:OwnC Q w v)
 (a:Addr) (m c:Nat) (news:List Value) (hl:news.length=m*2) (hnews:∀ j u,news[j]? = some u→w.cell? (a.add j)=some u) (h1:∀ u∈news,u.oneCell'=true) (hQn:∀ u∈news,Q u)
 (h0:0<m) (h63:n+m≤maxLen) (hbytes:(n+m)*bytes≤140737488355328) (hbase:base≤w.heap.size) :
 ∃ v' w',(Builtin.append_ #[t,t] ty #[v,.slice (some a) m c]).run Tryz.prog w=.ok v' w'∧w'.ownsRow base e 2 v' (n+m) (xs ++ news)∧w.grownBy w' v.ownBlock∧OwnC Q w' v':=by
 obtain ⟨v',w',hr,ho,hg,-⟩:=run_append_own (P:=Tryz.prog) w base t ty e i z 2 bytes ht hi hz hsize hby (by rw [hzs];rfl) (by omega) v n xs hown a m c news hl hnews h1 h63 hbytes hbase
 refine ⟨v',w',hr,ho,hg,?_⟩
 have hzc:∀ k,∀ x∈Builtin.zeroCells z.cells k,Q x:=fun k x hx=>by
  rw [Builtin.zeroCells,Array.mem_map] at hx
  obtain ⟨q,-,rfl⟩:=hx
  rw [hzs]
  rcases Nat.mod_two_eq_zero_or_one q with e|e
  ·simp [e];exact hQz.1
  ·simp [e];exact hQz.2
 rcases hown.2 with ⟨rfl,rfl⟩|⟨g,cap,cur,rfl,hbg,hgh,hnc,hcm,hcs,htake⟩
 ·have hn:=run_append_nil (P:=Tryz.prog) w t ty e i z ht hi hz a m c news (by rw [hsize];exact hl) hnews h0 (by simp only [maxLen] at h63;omega) (by rw [hby];have hb:=hbytes;simp only [Nat.zero_add] at hb;omega)
  rw [hn] at hr
  injection hr with e1 e2
  subst e1;subst e2
  intro g hg
  simp [Value.ownBlock] at hg
  subst hg
  refine AllC.made (heap_alloc_new w.drew _) fun x hx=>?_
  rcases Array.mem_append.1 hx with h|h
  ·exact hQn x (by simpa using h)
  ·exact hzc _ x h
 ·have hall':∀ x∈cur,Q x:=fun x hx=>by
   obtain ⟨o,ho,rfl⟩:=Array.getElem_of_mem hx
   refine hall g rfl o _ ?_
   simp [World.cell?,hgh,ho]
  by_cases hroom:n+m≤cap
  ·have hrm:=run_append_room (P:=Tryz.prog) w t ty e i ht hi g n cap cur hgh a m c news (by rw [hsize];exact hl) hnews h1 hroom (by rw [hsize];omega)
   rw [hrm] at hr
   injection hr with e1 e2
   subst e1;subst e2
   intro g' hg'
   simp [Value.ownBlock] at hg'
   subst hg'
   refine AllC.made (setRow_heap w g cur _ e _ hgh) fun x hx=>?_
   rw [List.mem_toArray,List.mem_append,List.mem_append] at hx
   rcases hx with (h|h)|h
   ·exact hall' x (by simpa using List.mem_of_mem_take h)
   ·exact hQn x h
   ·exact hall' x (by simpa using List.mem_of_mem_drop h)
  ·have holds:∀ j u,xs[j]? = some u→w.cell? ((⟨g,0,none⟩:Addr).add j)=some u:=hown.cells (g:=g) rfl
   have hgr:=run_append_grow (P:=Tryz.prog) w t ty e i z ht hi hz ⟨g,0,none⟩ n cap xs (by rw [hsize];exact hown.1) holds a m c news (by rw [hsize];exact hl) hnews (by omega) (by simp only [maxLen] at h63;omega) (by rw [hby];exact growslice_fits (by omega) hbytes)
   rw [hgr] at hr
   injection hr with e1 e2
   subst e1;subst e2
   intro g' hg'
   simp [Value.ownBlock] at hg'
   subst hg'
   refine AllC.made (heap_alloc_new w.drew _) fun x hx=>?_
   rcases Array.mem_append.1 hx with h|h
   ·rcases Array.mem_append.1 h with h2|h2
    ·have:x∈xs:=by simpa using h2
     rw [←htake] at this
     exact hall' x (by simpa using List.mem_of_mem_take this)
    ·exact hQn x (by simpa using h2)
   ·exact hzc _ x h
def isBS (x:Value):Prop:=(∃ b,x=.bool b)∨∃ A n c,x=.slice A n c
theorem isBS_no {x:Value} (h:isBS x):∀ k n,x≠.int k n:=by
 rcases h with ⟨b,rfl⟩|⟨A,n,c,rfl⟩<;>exact fun _ _=>by simp
theorem Rds.grown {w w':World} {v:Value} {A:Option Addr} {ds:List Nat} (h:Rds w A ds) (hq:OwnC isBS w v) (hg:w.grownBy w' v.ownBlock):Rds w' A ds:=fun i hi=>by
 obtain ⟨b,off,e,hc⟩:=h i hi
 refine ⟨b,off,e,(World.cell?_of_block (a:=⟨b,off+i,none⟩) (hg.block b (cell_lt hc) fun e=>?_)).trans hc⟩
 exact isBS_no (hq b e.symm _ _ hc) _ _ rfl
theorem RB.grown {w w':World} {v u:Value} {z:Int} (h:RB w u z) (hq:OwnC isBS w v) (hg:w.grownBy w' v.ownBlock):RB w' u z:=by
 obtain ⟨sl,h1,A,c,h2,h3,h4,h5⟩:=h
 exact ⟨sl,h1,A,c,h2,h3,h4,h5.grown hq hg⟩
def BigsAt (w:World) (A:Option Addr) (l:List Int):Prop :=
 ∀ i,i<l.length→∃ b off q L B c,A=some ⟨b,off,none⟩∧w.cell? ⟨b,off+i*2,none⟩=some (.bool q)∧w.cell? ⟨b,off+i*2+1,none⟩=some (.slice B L c)∧RB w (.agg #[.bool q,.slice B L c]) (nth l i)
theorem BigsAt.ext {w w':World} {A:Option Addr} {l:List Int} (h:BigsAt w A l) (hb:Below w.heap.size w w'):BigsAt w' A l:=fun i hi=>by
 obtain ⟨b,off,q,L,B,c,h1,h2,h3,h4⟩:=h i hi
 exact ⟨b,off,q,L,B,c,h1,by rw [hb.cell (cell_lt h2)];exact h2,by rw [hb.cell (cell_lt h3)];exact h3,h4.ext hb⟩
structure OwnB (w:World) (base:Nat) (v:Value) (l:List Int):Prop where
 ex:∃ xs,w.ownsRow base 61 2 v l.length xs∧OwnC isBS w v∧∀ i,i<l.length→∃ q L B c,xs[i*2]? = some (.bool q)∧xs[i*2+1]? = some (.slice B L c)∧RB w (.agg #[.bool q,.slice B L c]) (nth l i)
theorem OwnB.nil (w:World) (base:Nat):OwnB w base (.slice none 0 0) []:=⟨[],World.ownsRow_nil _ _ _ _,OwnC.nil _ _ _ _,fun i hi=>by simp at hi⟩
theorem OwnB.mono {w:World} {base b2:Nat} {v:Value} {l:List Int} (h:OwnB w base v l) (hb:b2≤base):OwnB w b2 v l:=by
 obtain ⟨xs,h1,h2,h3⟩:=h.ex;exact ⟨xs,own_low h1 hb,h2,h3⟩
theorem OwnB.ext {w w':World} {base:Nat} {v:Value} {l:List Int} (h:OwnB w base v l) (hb:Below w.heap.size w w'):OwnB w' base v l:=by
 obtain ⟨xs,h1,h2,h3⟩:=h.ex
 exact ⟨xs,own_ext h1 hb,h2.ext h1 hb,fun i hi=>by obtain ⟨q,L,B,c,k1,k2,k3⟩:=h3 i hi;exact ⟨q,L,B,c,k1,k2,k3.ext hb⟩⟩
theorem OwnB.at {w:World} {base:Nat} {v:Value} {l:List Int} (h:OwnB w base v l):∃ A c,v=.slice A l.length c∧l.length≤c∧c≤maxLen∧BigsAt w A l:=by
 obtain ⟨xs,h1,h2,h3⟩:=h.ex
 obtain ⟨A,c,rfl,k1,k2⟩:=own_size h1
 refine ⟨A,c,rfl,k1,k2,fun i hi=>?_⟩
 obtain ⟨q,L,B,c',e1,e2,e3⟩:=h3 i hi
 rcases h1.2 with ⟨e,e0⟩|⟨g,cap,cur,e,-⟩
 ·omega
 ·injection e with e _ _
  subst e
  exact ⟨g,0,q,L,B,c',rfl,by rw [Nat.zero_add,h1.cellAt _ (by omega)];exact e1,by rw [Nat.zero_add,h1.cellAt _ (by omega)];exact e2,e3⟩
theorem infoBig:(Tryz.prog.info? 61).map (fun i=>(i.zero,i.size,i.bytes))=some (some (.agg #[.bool false,.slice none 0 0]),2,32):=by kernel_rfl
theorem OwnB.more {w w':World} {base:Nat} {v v':Value} {l:List Int} {xs:List Value} {q:Bool} {A:Option Addr} {L c:Nat} {z:Int} (h2:OwnC isBS w v) (h3:∀ i,i<l.length→∃ q L B c,xs[i*2]? = some (.bool q)∧xs[i*2+1]? = some (.slice B L c)∧RB w (.agg #[.bool q,.slice B L c]) (nth l i))
 (hx:xs.length=l.length*2) (hz:RB w (.agg #[.bool q,.slice A L c]) z) (hg:w.grownBy w' v.ownBlock) (ho:w'.ownsRow base 61 2 v' (l.length+1) (xs ++ [.bool q,.slice A L c])) (hq:OwnC isBS w' v'):OwnB w' base v' (l ++ [z]):=by
 refine ⟨xs ++ [.bool q,.slice A L c],by rw [List.length_append];exact ho,hq,fun i hi=>?_⟩
 rw [List.length_append,List.length_cons,List.length_nil] at hi
 by_cases e:i<l.length
 ·obtain ⟨q',L',B',c',k1,k2,k3⟩:=h3 i e
  refine ⟨q',L',B',c',by rw [List.getElem?_append_left (by omega)];exact k1,by rw [List.getElem?_append_left (by omega)];exact k2,?_⟩
  have:nth (l ++ [z]) i=nth l i:=by simp [nth,List.getElem?_append_left e]
  rw [this];exact k3.grown h2 hg
 ·obtain rfl:i=l.length:=by omega
  refine ⟨q,L,A,c,by rw [List.getElem?_append_right (by omega),hx];simp,by rw [List.getElem?_append_right (by omega),hx];simp,?_⟩
  have:nth (l ++ [z]) l.length=z:=by simp [nth]
  rw [this];exact hz.grown h2 hg
set_option maxRecDepth 100000 in
theorem run_snocB {W:World} {base g:Nat} {v:Value} {l:List Int} {q:Bool} {A:Option Addr} {L c:Nat} {z:Int} (ty:TypeId) (hown:OwnB W base v l) (hz:RB W (.agg #[.bool q,.slice A L c]) z) (hblk:Blk W g [.bool q,.slice A L c] 61) (hl:l.length≤1000) (hb:base≤W.heap.size) :
 ∃ v' w',(Builtin.append_ #[118,118] ty #[v,.slice (some ⟨g,0,none⟩) 1 1]).run Tryz.prog W=.ok v' w'∧OwnB w' base v' (l ++ [z])∧W.grownBy w' v.ownBlock∧∀ k,v.ownBlock=some k→base≤k:=by
 obtain ⟨i0,hi,hz0,hz1,hz2⟩:=info_parts infoBig
 obtain ⟨xs,h1,h2,h3⟩:=hown.ex
 obtain ⟨c0,c1,-,-,-⟩:=Blk.two hblk
 obtain ⟨v',w',hr,k1,k2,k3⟩:=run_append_two (Q:=isBS) (w:=W) base 118 ty 61 i0 _ 32 Tryz.underlying118 hi hz0 hz1 hz2 (z0:=.bool false) (z1:=.slice none 0 0) rfl ⟨.inl ⟨_,rfl⟩,.inr ⟨_,_,_,rfl⟩⟩ v l.length xs h1 h2 ⟨g,0,none⟩ 1 1 [.bool q,.slice A L c] rfl (by
  intro j u hj
  rcases j with _|_|j
  ·simp at hj;subst hj;exact c0
  ·simp at hj;subst hj;exact c1
  ·simp at hj) (by intro u hu;simp at hu;rcases hu with rfl|rfl<;>rfl) (by
  intro u hu;simp at hu;rcases hu with rfl|rfl
  ·exact .inl ⟨_,rfl⟩
  ·exact .inr ⟨_,_,_,rfl⟩) (by omega) (by unfold maxLen;omega) (by omega) hb
 exact ⟨v',w',hr,OwnB.more h2 h3 (by rw [h1.1]) hz k2 k1 k3,k2,fun k hk=>(World.ownsRow.lt h1 k hk).1⟩
theorem wp_snocG {ops:Array Oper} {rest:List Oper} {o:Oper} {a:Act} {R:Exit→Act→World→Prop} (hgd:o.guard=none) (s x:Operand)
 (ho:o.op=.call { callee:=.builtin .append,args:=#[s,x],argTypes:=#[118,118] }) {W:World} {base g:Nat} {v:Value} {l:List Int} {q:Bool} {A:Option Addr} {L c:Nat} {z:Int} (hs:a.eval s=v)
 (hx:a.eval x=.slice (some ⟨g,0,none⟩) 1 1) (hown:OwnB W base v l) (hz:RB W (.agg #[.bool q,.slice A L c]) z) (hblk:Blk W g [.bool q,.slice A L c] 61) (hl:l.length≤1000) (hb:base≤W.heap.size)
 (h:∀ v' w',Hid (OwnB w' base v' (l ++ [z]))→Hid (∀ (B:Nat) (w0:World),Below B w0 W→B≤base→Below B w0 w')→wpList Tryz.prog ops R rest (a.put o.dst v') w') :
 wpList Tryz.prog ops R (o :: rest) a W :=
 wpList_plain hgd fun K hK=>by
  obtain ⟨v',w',hr,h1,h2,h3⟩:=run_snocB o.type hown hz hblk hl hb
  unfold Oper.wp execOp
  simp only [ho,resolve,invoke,builtin,Sem.run_bind,Sem.run_pure,Result.andThen_ok,List.map_toArray,List.map_cons,List.map_nil,hs,hx,hr]
  exact hK _ _ (h v' w' (hid h1) (hid fun B w0 hB hBb=>hB.grown h2 (Nat.le_trans hBb hb) fun k hk=>Nat.le_trans hBb (h3 k hk)))
theorem wp_snocB {ops:Array Oper} {rest:List Oper} {o:Oper} {a:Act} {R:Exit→Act→World→Prop} (hgd:o.guard=none) (s x:Operand)
 (ho:o.op=.call { callee:=.builtin .append,args:=#[s,x],argTypes:=#[118,118] }) {wr:World} {base:Nat} {v:Value} {l:List Int} {q:Bool} {A:Option Addr} {L c:Nat} {z:Int} (hs:a.eval s=v)
 (hx:a.eval x=.slice (some ⟨wr.heap.size,0,none⟩) 1 1) (hown:OwnB wr base v l) (hz:RB wr (.agg #[.bool q,.slice A L c]) z) (hl:l.length≤1000) (hb:base≤wr.heap.size)
 (h:∀ v' w',Hid (OwnB w' base v' (l ++ [z]))→Hid (∀ (B:Nat) (w0:World),Below B w0 wr→B≤base→Below B w0 w')→wpList Tryz.prog ops R rest (a.put o.dst v') w') :
 wpList Tryz.prog ops R (o :: rest) a (wr.alloc (.cells #[.bool q,.slice A L c] 61 (0,0))):=by
 have hb0:Below wr.heap.size wr (wr.alloc (.cells #[.bool q,.slice A L c] 61 (0,0))):=(Below.refl _ _).alloc (Nat.le_refl _) _
 exact wp_snocG hgd s x ho hs hx (hown.ext hb0) (hz.ext hb0) (Blk.new wr [.bool q,.slice A L c] 61) hl (by simp;omega) fun v' w' k1 k2=>h v' w' k1 (hid fun B w0 hB hBb=>k2.out B w0 (hB.alloc (by omega) _) hBb)
end
section
open Go.RowKit
set_option maxRecDepth 100000 in
set_option maxHeartbeats 1000000 in
theorem row1_calls (X:Option Addr) (cx:Nat) (xs:List Int) (w:World) (hX:Ints w X xs) (hl:xs.length≤1000) (hx:∀ x∈xs,-9000000000000000000≤x∧x≤9000000000000000000) :
 Calls Tryz.prog 94 #[.slice X xs.length cx] w fun e w'=>∃ v,e=.returned v∧OwnB w' w.heap.size v xs∧Below w.heap.size w w':=by
 have HX:=hid hx
 clear hx
 go_enter Tryz.func94,Tryz.ntmps94
 go_wp2_with fail
 go_loopw [3,4] (fun v i wr=>∃ k:Nat,k≤xs.length∧i=.int .i64 k∧OwnB wr w.heap.size v (xs.take k)∧Below w.heap.size w wr) (fun _ i _=>xs.length-(intOf i).toNat)
 case atStart=>exact ⟨0,Nat.zero_le _,rfl,OwnB.nil _ _,Below.refl _ _⟩
 case round =>
  obtain ⟨k,hk,rfl,hown,hbe⟩:=hrel
  have HB:=hid hbe;have HO:=hid hown
  by_cases hlt:k<xs.length
  ·obtain ⟨b1,o1,rfl,g1⟩:=(hX.ext hbe) k hlt
   have h1:(k:Int)<xs.length:=by omega
   have HOF:Hid (Calls Tryz.prog 45 #[.int .i64 (nth xs k)] wr fun e w'=>∃ v,e=.returned v∧RBo w' wr.heap.size v (nth xs k)∧Below wr.heap.size wr w'):=hid (by
    have:=HX.out (nth xs k) (nth_mem hlt)
    exact rOf_calls _ _ ⟨by omega,by omega⟩)
   have HTK:Hid (xs.take (k+1)=xs.take k ++ [nth xs k]):=hid (take_nth hlt)
   have HLT:Hid ((xs.take k).length≤1000):=hid (by rw [List.length_take];omega)
   clear hown hbe hX
   go_wp2_with fail
   refine HOF.out.mono ?_;rintro e w1 ⟨u,rfl,hu,hb1⟩
   obtain ⟨q,A,L,c,rfl,-,hz⟩:=hu.open2
   have HB1:=hid (HB.out.trans (hb1.mono HB.out.size))
   have HO1:=hid (HO.out.ext hb1)
   have hs1:=HB1.out.size
   clear hu hb1 HOF HB HO
   go_wp2_with (at_builtin;refine wp_snocB rfl _ _ rfl rfl rfl HO1.out hz.out.rb HLT.out (by omega) ?_)
   intro v' w2 ho hb2
   have HB2:=hid (hb2.out _ _ HB1.out (Nat.le_refl _))
   clear hs1 hb2 HB1 HO1
   go_wp2
   go_roundw
   case rel=>exact ⟨k+1,by omega,by go_num,by rw [HTK.out];exact ho.out,HB2.out⟩
   case measure=>simp [intOf];omega
  ·obtain rfl:k=xs.length:=by omega
   clear hown hbe hX
   go_wp2
   go_ret
   exact ⟨_,rfl,by have:=HO.out;rw [List.take_length] at this;exact this,HB.out⟩
end
end Go.Proofs.YtkljafmdbajfeaaGreatDoor
