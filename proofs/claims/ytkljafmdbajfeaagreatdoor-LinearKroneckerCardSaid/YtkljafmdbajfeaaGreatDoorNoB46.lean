/- linear.Refute. -/
import Derived.Test.YtkljafmdbajfeaaGreatDoorNoB37
import Derived.Test.YtkljafmdbajfeaaGreatDoorNoB38
import Derived.Test.YtkljafmdbajfeaaGreatDoorNoB42
import Derived.Test.YtkljafmdbajfeaaGreatDoorNoB45
namespace Go.Proofs.YtkljafmdbajfeaaGreatDoor
set_option linter.unusedVariables false
set_option linter.unusedSimpArgs false
open Go.Lib (hid)
section
open Go.RowKit Go.ChangeMaps
open Lp (Lt V Ech BdV Bd pivots lv cnt Gen From Least sumZ)
structure RefPt (l:List (List Int)) (b:List Int) (n:Nat) (xs:List Int) (d:Int):Prop where
 len:xs.length=l.length
 one:1≤d
 most:d≤524880000000
 low:∀ i,i<l.length→0≤nth xs i∧nth xs i≤d
 col:∀ j,j<n→d ∣ sumZ l.length fun i=>nth xs i*gridF l i j
 right:¬ d ∣ sumZ l.length fun i=>nth xs i*nth b i
 gcd:gcdN d xs l.length=1
theorem refPt_low {l:List (List Int)} {b:List Int} {n:Nat} {z:V} {d:Int} (h:RefOk (gridF l) l.length n (nth b) z d) {ys:List Int} (hl:ys.length=l.length) (hy:∀ i,i<l.length→nth ys i=z i) :
 RefPt l b n (ys.map fun x=>x.tdiv (gcdN d ys ys.length:Nat)) (d.tdiv (gcdN d ys ys.length:Nat)):=by
 rw [hl]
 obtain ⟨G,hG⟩:∃ G,gcdN d ys l.length=G:=⟨_,rfl⟩
 have h1:=h.one
 have hGd:=gcdN_dvd_d d ys l.length
 have hGx:=fun i (h:i<l.length)=>gcdN_dvd_x d ys h
 have hGp:=gcdN_pos h1 ys l.length
 have hdiv:=gcdN_div (d:=d) (xs:=ys) (g:=G) (by omega) (by rw [←hG];exact hGd) (k:=l.length) (by omega) (fun i h=>by rw [←hG];exact hGx i h)
 rw [hG] at hGd hGx hGp hdiv ⊢
 obtain ⟨t,ht⟩:(G:Int) ∣ d:=Int.ofNat_dvd_left.2 hGd
 have hG0:(G:Int)≠0:=by omega
 have hGpos:(0:Int)<G:=by omega
 have htd:d.tdiv (G:Int)=t:=by rw [ht,Int.mul_tdiv_cancel_left _ hG0]
 have htp:0<t:=Int.pos_of_mul_pos_right (a:=(G:Int)) (by rw [←ht];omega) hGpos |> fun h=>h
 have htl:t≤d:=by
  rw [ht]
  have:=Int.mul_le_mul_of_nonneg_right (show (1:Int)≤G by omega) (Int.le_of_lt htp)
  omega
 have hs:∀ i,i<l.length→z i=(G:Int)*(z i).tdiv (G:Int):=fun i hi=>by
  rw [Int.mul_comm,Int.tdiv_mul_cancel]
  rw [←hy i hi];exact Int.ofNat_dvd_left.2 (hGx i hi)
 have hn:∀ i,i<l.length→nth (ys.map fun x=>x.tdiv (G:Int)) i=(z i).tdiv (G:Int):=fun i hi=>by
  rw [nth_mapD _ (by omega),hy i hi]
 have hsum:∀ f:Nat→Int,(sumZ l.length fun i=>z i*f i)=(G:Int)*sumZ l.length fun i=>nth (ys.map fun x=>x.tdiv (G:Int)) i*f i:=fun f=>by
  rw [←sumZ_mul]
  exact sumZ_congr fun i hi=>by rw [hn i hi];conv=>lhs;rw [hs i hi]
                                grind
 rw [htd]
 refine ⟨by simp [hl],by omega,by have:=h.most;omega,fun i hi=>?_,fun j hj=>?_,fun hd=>?_,?_⟩
 ·rw [hn i hi]
  obtain ⟨h2,h3⟩:=h.low i hi
  have e:=hs i hi
  refine ⟨Int.tdiv_nonneg h2 (by omega),?_⟩
  generalize (z i).tdiv (G:Int)=s at *
  rw [e,ht] at h3
  exact Int.le_of_lt (Int.lt_of_mul_lt_mul_left h3 (by omega))
 ·have h2:=h.col j hj
  rw [hsum,ht] at h2
  exact Int.dvd_of_mul_dvd_mul_left hG0 h2
 ·refine h.right ?_
  rw [hsum]
  conv=>lhs;rw [ht]
  exact Int.mul_dvd_mul_left _ hd
 ·rw [←htd,hdiv];exact Nat.div_self (by omega)
def RefuP (l:List (List Int)) (b:List Int) (k:Int) (w:World) (e:Ending) (w':World):Prop :=
 Below w.heap.size w w'∧((okS l b k=false∧e=.returned (.tuple #[nilPt,.int .i64 2])) ∨
  (okS l b k=true∧(((∃ x,Sol (gridF l) l.length k.toNat (nth b) x)∧e=.returned (.tuple #[nilPt,.int .i64 10])) ∨
    ((∀ x,¬ Sol (gridF l) l.length k.toNat (nth b) x)∧∃ g xs d,e=.returned (.tuple #[.agg #[.slice (some ⟨g,0,none⟩) l.length l.length,.int .i64 d],.int .i64 0])∧w.heap.size≤g∧IBlk w' g xs∧RefPt l b k.toNat xs d))))
set_option maxRecDepth 100000 in
set_option maxHeartbeats 4000000 in
theorem refu_any (A B:Option Addr) (c cb:Nat) (l:List (List Int)) (b:List Int) (k:Int) (w:World) (h:Grid w A l) (hB:Ints w B b) (hl:l.length≤maxLen) (hr:∀ r∈l,r.length≤maxLen) (hm:b.length≤maxLen) :
 Calls Tryz.prog 62 #[.slice A l.length c,.slice B b.length cb,.int .i64 k] w (RefuP l b k w):=by
 have hA:Below w.heap.size w (w.alloc (.cells #[.slice none 0 0,.int .i64 0] 29 (0,0))):=(Below.refl _ _).alloc (Nat.le_refl _) _
 have HSY:=hid (sys_any A B c cb l b k _ (h.ext hA) (hB.ext hA) hl hr hm)
 have HBK:=hid (Blk.new w [.slice none 0 0,.int .i64 0] 29)
 have HA:=hid hA
 clear h hB hr hA
 go_enter Tryz.func62,Tryz.ntmps62
 go_wp2_with fail
 obtain ⟨rp,hrp⟩:∃ rp,w.heap.size=rp:=⟨_,rfl⟩
 obtain ⟨w0,hw0⟩:∃ w0,w.alloc (.cells #[.slice none 0 0,.int .i64 0] 29 (0,0))=w0:=⟨_,rfl⟩
 have HRP:=hid hrp
 rw [hw0] at HSY HA HBK ⊢
 rw [hrp] at HBK ⊢
 clear hrp hw0
 refine HSY.out.mono ?_;rintro e w1 ⟨hb1,h1⟩
 have hbl:=HBK.out.ext hb1
 have HB1:=hid hb1;have HBL:=hid hbl
 clear HSY hb1 hbl HBK
 rcases h1 with ⟨hok,rfl⟩|⟨hok,S,vb,rc,rn,rfl,hsp,hsv,hvb⟩
 ·have HOK:=hid hok
  have c0:=HBL.out.cell 0 (by simp)
  have c1:=HBL.out.cell 1 (by simp)
  have f0:=HBL.out.free 0
  have f1:=HBL.out.free 1
  simp only [List.getElem_cons_zero,List.getElem_cons_succ] at c0 c1
  have hbt:But rp w1 ((w1.setCell ⟨rp,0,none⟩ (.slice none 0 0)).setCell ⟨rp,1,none⟩ (.int .i64 0)):=((But.refl rp w1).set 0 _).set 1 _
  have hB5:Below w.heap.size w w1:=HA.out.trans (HB1.out.mono HA.out.size)
  have HBF:=hid (hB5.trans (hbt.below (by have:=HRP.out;omega) hB5.size))
  have bl3:=(HBL.out.set 0 (.slice none 0 0)).set 1 (.int .i64 0)
  have q0:=bl3.cell 0 (by simp)
  have q1:=bl3.cell 1 (by simp)
  simp only [List.getElem_cons_zero,List.getElem_cons_succ,List.set_cons_zero,List.set_cons_succ] at q0 q1
  clear hok hbt hB5 bl3
  go_wp2
  (try simp only [Exit.inBlock,Exit.then])
  refine bodyPost_ret (v:=.tuple #[nilPt,.int .i64 2]) (by simp [results,Tryz.results62,go_sem,q0,q1,nilPt]) rfl ⟨HBF.out,.inl ⟨HOK.out,rfl⟩⟩
 ·obtain ⟨hok1,hlen,hls⟩:=okS_in hok
  obtain ⟨n,rfl,hn1,hn6,hro⟩:=okN_nat hok1
  have hl6:=(rowsOk_in hro).2.2.1
  rw [Int.toNat_natCast] at hsp hsv
  have HRF:=hid (refuteSys_calls S l.length n rc rn (gridF l) (nth b) vb w1 hsp hsv hvb (fun i _=>nth_b1000 hls i) (by omega) hl6)
  have HOK:=hid hok
  have hsz1:=HB1.out.size
  clear hsp hsv hvb hok hok1 hls hro hlen
  go_wp2_with fail
  refine HRF.out.mono ?_;rintro e w2 ⟨h2,hb2⟩
  have HB2:=hid (HB1.out.trans (hb2.mono hsz1));have HBL2:=hid (HBL.out.ext hb2)
  clear hb2 HRF HB1 HBL
  rcases h2 with ⟨rfl,x,hx⟩|⟨hno,g,p,z,d,rfl,hO,hD,hro⟩
  ·have HX:=hid hx
   have c0:=HBL2.out.cell 0 (by simp)
   have c1:=HBL2.out.cell 1 (by simp)
   have f0:=HBL2.out.free 0
   have f1:=HBL2.out.free 1
   simp only [List.getElem_cons_zero,List.getElem_cons_succ] at c0 c1
   have hbt:But rp w2 ((w2.setCell ⟨rp,0,none⟩ (.slice none 0 0)).setCell ⟨rp,1,none⟩ (.int .i64 0)):=((But.refl rp w2).set 0 _).set 1 _
   have hB5:Below w.heap.size w w2:=HA.out.trans (HB2.out.mono HA.out.size)
   have HBF:=hid (hB5.trans (hbt.below (by have:=HRP.out;omega) hB5.size))
   have bl3:=(HBL2.out.set 0 (.slice none 0 0)).set 1 (.int .i64 0)
   have q0:=bl3.cell 0 (by simp)
   have q1:=bl3.cell 1 (by simp)
   simp only [List.getElem_cons_zero,List.getElem_cons_succ,List.set_cons_zero,List.set_cons_succ] at q0 q1
   clear hx hbt hB5 bl3
   go_wp2
   (try simp only [Exit.inBlock,Exit.then])
   refine bodyPost_ret (v:=.tuple #[nilPt,.int .i64 10]) (by simp [results,Tryz.results62,go_sem,q0,q1,nilPt]) rfl ⟨HBF.out,.inr ⟨HOK.out,.inl ⟨⟨x,by rw [Int.toNat_natCast];exact HX.out⟩,rfl⟩⟩⟩
  ·have HNO:Hid (∀ x,¬ Sol (gridF l) l.length n (nth b) x):=hid hno
   have HRO:=hid hro;have HD:=hid hD
   have HIN:=hid (vecInts_calls l.length z _ w2 (hO.vec (Nat.le_refl _) (by unfold maxLen;omega)).vec (by omega))
   clear hno hro hO hD
   go_wp2_with fail
   refine HIN.out.mono ?_;rintro e w3 ⟨g3,rfl,hg3,hI3,hb3⟩
   have HI64:=hid (int64_calls p _ w3 (HD.out.ext hb3))
   have HI3:=hid hI3;have HB3:=hid (HB2.out.trans (hb3.mono HB2.out.size));have HBL3:=hid (HBL2.out.ext hb3)
   have hgw:=HB2.out.size
   have hg1:w0.heap.size≤g3:=by omega
   have hrl:=HBL2.out.lt
   clear hI3 hb3 HIN HD HB2 HBL2
   go_wp2_with fail
   refine HI64.out.mono ?_;rintro e w4 ⟨rfl,hb4⟩
   have d1:=HRO.out.one
   have d2:=HRO.out.most
   rw [i64_small2 (z:=d) (by omega)]
   obtain ⟨ys,hys⟩:∃ ys,intsTo z l.length l.length=ys:=⟨_,rfl⟩
   have hlen:ys.length=l.length:=by rw [←hys];exact intsTo_len _ _ _
   have hnt:∀ i,i<l.length→nth ys i=z i:=fun i hi=>by
    rw [←hys]
    exact intsTo_nth hi (by have:=HRO.out.low i hi;omega)
   have HPO:=hid (refPt_low HRO.out hlen hnt)
   rw [hys] at HI3
   have hlo:=lowest_calls g3 l.length ys d w4 (fun i hi=>by
    rw [hlen] at hi
    rw [hnt i hi]
    have:=HRO.out.low i hi
    omega) (by omega) (by omega) (by omega) (HI3.out.ext hb4)
   rw [hlen] at hlo HPO
   have HLO:=hid hlo
   have HB4:=hid (HB3.out.trans (hb4.mono HB3.out.size));have HBL4:=hid (HBL3.out.ext hb4)
   clear hlo hb4 hlen hnt HI64 HI3 HB3 HBL3 hys
   go_wp2_with fail
   refine HLO.out.mono ?_;rintro e w5 ⟨rfl,hI5,hb5⟩
   have hbl5:=HBL4.out.but hb5 (by omega)
   have c0:=hbl5.cell 0 (by simp)
   have c1:=hbl5.cell 1 (by simp)
   have f0:=hbl5.free 0
   have f1:=hbl5.free 1
   simp only [List.getElem_cons_zero,List.getElem_cons_succ] at c0 c1
   obtain ⟨G,hG⟩:∃ G:Int,((gcdN d ys l.length:Nat):Int)=G:=⟨_,rfl⟩
   rw [hG] at hI5 HPO ⊢
   obtain ⟨dq,hdq⟩:∃ dq:Int,d.tdiv G=dq:=⟨_,rfl⟩
   rw [hdq] at HPO ⊢
   clear hG hdq
   have hbt:But rp w5 ((w5.setCell ⟨rp,0,none⟩ (.slice (some ⟨g3,0,none⟩) l.length l.length)).setCell ⟨rp,1,none⟩ (.int .i64 dq)):=((But.refl rp w5).set 0 _).set 1 _
   have HIF:=hid (hI5.but hbt (by omega))
   have hB5:Below w.heap.size w w5:=(HA.out.trans (HB4.out.mono HA.out.size)).trans (hb5.below (by have:=HA.out.size;omega) (by have:=HA.out.size;have:=HB4.out.size;omega))
   have HBF:=hid (hB5.trans (hbt.below (by have:=HRP.out;omega) hB5.size))
   have bl3:=(hbl5.set 0 (.slice (some ⟨g3,0,none⟩) l.length l.length)).set 1 (.int .i64 dq)
   have q0:=bl3.cell 0 (by simp)
   have q1:=bl3.cell 1 (by simp)
   simp only [List.getElem_cons_zero,List.getElem_cons_succ,List.set_cons_zero,List.set_cons_succ] at q0 q1
   have hgf:w.heap.size≤g3:=by have:=HA.out.size;omega
   have HGF:=hid hgf
   clear hbt hB5 bl3 hbl5 hI5 hb5 hgf HLO
   go_wp2
   (try simp only [Exit.inBlock,Exit.then])
   refine bodyPost_ret (v:=.tuple #[.agg #[.slice (some ⟨g3,0,none⟩) l.length l.length,.int .i64 dq],.int .i64 0]) (by simp [results,Tryz.results62,go_sem,q0,q1]) rfl ⟨HBF.out,.inr ⟨HOK.out,.inr ⟨by rw [Int.toNat_natCast];exact HNO.out,g3,_,_,rfl,HGF.out,HIF.out,by rw [Int.toNat_natCast];exact HPO.out⟩⟩⟩
end
section
open Go.RowKit
end
section
open Go.RowKit Go.ChangeMaps
open Lp (Lt V Ech BdV Bd pivots lv cnt Gen From Least sumZ)
def refutesS (l:List (List Int)) (b:List Int) (k:Int) (ys:List Int) (d:Int):Bool :=
 okS l b k && pointOk l.length ys d && ((timZ l ys k.toNat).all fun x=>decide (x.tmod d=0)) && decide ((dotZ ys b).tmod d≠0)
set_option maxHeartbeats 400000 in
theorem refutes1_calls (x d:Int) (p:Nat) (w:World) (hc:w.cell? ⟨p,1,none⟩=some (.int .i64 d)) (hd:1≤d) (hd2:d≤1125899906842624) :
 Calls Tryz.prog 121 #[.int .i64 x,.pointer (some ⟨p,0,none⟩)] w fun e w'=>e=.returned (.bool (!decide (x.tmod d=0)))∧Below w.heap.size w w':=by
 have h0:¬ d=0:=by omega
 by_cases hx:x.tmod d=0
 ·have hx1:(x.tmod d != 0)=false:=by rw [hx];rfl
  have HX:=hid hx
  clear hx
  go_enter Tryz.func121,Tryz.ntmps121
  go_wp2
  go_ret
  exact ⟨by rw [HX.out];rfl,Below.refl _ _⟩
 ·have hx1:(x.tmod d != 0)=true:=by simp [hx]
  have HX:=hid hx
  clear hx
  go_enter Tryz.func121,Tryz.ntmps121
  go_wp2
  go_ret
  exact ⟨by rw [decide_eq_false HX.out];rfl,Below.refl _ _⟩
theorem any_not (xs:List Int) (p:Int→Bool):(!(xs.any fun x=>!p x))=xs.all p:=by rw [List.not_any_eq_all_not];simp
theorem pointOk_in {n:Nat} {xs:List Int} {d:Int} (h:pointOk n xs d=true):xs.length=n∧1≤d∧d≤1125899906842624∧∀ x∈xs,-1125899906842624≤x∧x≤1125899906842624:=by
 unfold pointOk listOk inB at h
 simp only [Bool.and_eq_true,decide_eq_true_eq,List.all_eq_true] at h
 exact ⟨h.1.1.1,h.1.1.2,h.1.2,h.2⟩
theorem mul_box {x y X Y:Int} (hX:0≤X) (hx : -X≤x∧x≤X) (hy : -Y≤y∧y≤Y) : -(X*Y)≤x*y∧x*y≤X*Y:=by
 have h1:(x*y).natAbs≤X.natAbs*Y.natAbs:=by rw [Int.natAbs_mul];exact Nat.mul_le_mul (by omega) (by omega)
 have h2:((X*Y).natAbs:Int)=X*Y:=by
  rw [Int.natAbs_of_nonneg];exact Int.mul_nonneg hX (by omega)
 rw [←Int.natAbs_mul] at h1
 omega
theorem small_cols {l:List (List Int)} {n:Nat} {ys:List Int} {d:Int} (hro:rowsOk l n=true) (hp:pointOk l.length ys d=true) {j:Nat} (hj:j<n):Small (clmOf l j) ys:=by
 obtain ⟨h1,h2,h3,h4,h5⟩:=rowsOk_in hro
 obtain ⟨p1,p2,p3,p4⟩:=pointOk_in hp
 have hl:(clmOf l j).length=l.length:=clmTo_len _ _ _
 refine ⟨30*1125899906842624,by rw [hl];omega,fun i hi=>?_⟩
 rw [hl] at hi
 rw [clmOf_nth _ _ _ hi]
 refine mul_box (by omega) ?_ ?_
 ·have hm:=nrow_mem hi
  exact h5 _ hm _ (nth_mem (by rw [h4 _ hm];exact hj))
 ·exact p4 _ (nth_mem (by omega))
theorem small_right {m:Nat} {ys b:List Int} {d:Int} (hm:m≤6) (hp:pointOk m ys d=true) (hb:listOk 1000 b=true):Small ys b:=by
 obtain ⟨p1,p2,p3,p4⟩:=pointOk_in hp
 refine ⟨1125899906842624*1000,by rw [p1];omega,fun i hi=>?_⟩
 refine mul_box (by omega) (p4 _ (nth_mem hi)) ?_
 have:=nth_b1000 hb i
 omega
set_option maxRecDepth 100000 in
set_option maxHeartbeats 4000000 in
theorem refutesL_calls (A B Y:Option Addr) (c cb cy:Nat) (l:List (List Int)) (b ys:List Int) (d k:Int) (w:World) (h:Grid w A l) (hB:Ints w B b) (hY:Ints w Y ys) (hl:l.length≤maxLen) (hr:∀ r∈l,r.length≤maxLen) (hm:b.length≤maxLen) (hy:ys.length≤maxLen) :
 Calls Tryz.prog 60 #[.slice A l.length c,.slice B b.length cb,.int .i64 k,.agg #[.slice Y ys.length cy,.int .i64 d]] w fun e w'=>e=.returned (.bool (refutesS l b k ys d))∧Below w.heap.size w w':=by
 obtain ⟨wa,hwa⟩:∃ wa,w.alloc (.cells #[.slice Y ys.length cy,.int .i64 d] 29 (0,0))=wa:=⟨_,rfl⟩
 have ba:Blk wa w.heap.size [.slice Y ys.length cy,.int .i64 d] 29:=by rw [←hwa];exact Blk.new _ _ _
 have ea:Below w.heap.size w wa:=by rw [←hwa];exact (Below.refl _ _).alloc (Nat.le_refl _) _
 have HSY:=hid (sys_any A B c cb l b k wa (h.ext ea) (hB.ext ea) hl hr hm)
 have HBA:=hid ba;have HEA:=hid ea;have HG:=hid h;have HBI:=hid hB;have HY:=hid hY
 have HWA:=hid hwa
 have hl':=hl;unfold maxLen at hl'
 clear ba ea h hB hY hr hwa
 go_enter Tryz.func60,Tryz.ntmps60
 go_wp2_with fail
 obtain ⟨bp,hbp⟩:∃ bp,w.heap.size=bp:=⟨_,rfl⟩
 rw [hbp] at HBA
 try rw [HWA.out]
 rw [hbp]
 clear hbp
 refine HSY.out.mono ?_;rintro e w1 ⟨hb1,h1⟩
 have hbl:=HBA.out.ext hb1
 have HB1:=hid (HEA.out.trans (hb1.mono HEA.out.size));have HBL:=hid hbl
 clear HSY hb1 hbl HBA HEA
 rcases h1 with ⟨hok,rfl⟩|⟨hok,S,vb,rc,rn,rfl,-⟩
 ·have HR:Hid (refutesS l b k ys d=false):=hid (by unfold refutesS;rw [hok];rfl)
  clear hok
  go_wp2
  go_ret
  exact ⟨by rw [HR.out];rfl,HB1.out⟩
 ·have c0:=HBL.out.cell 0 (by simp)
  have c1:=HBL.out.cell 1 (by simp)
  simp only [List.getElem_cons_zero,List.getElem_cons_succ] at c0 c1
  have HPR:=hid (proper_calls Y cy ys d l.length w1 hy hl (HY.out.ext HB1.out))
  cases hpo:pointOk l.length ys d with
  | false =>
    rw [hpo] at HPR
    have HR:Hid (refutesS l b k ys d=false):=hid (by unfold refutesS;rw [hpo,Bool.and_false];rfl)
    clear hok hpo
    go_wp2_with fail
    refine HPR.out.mono ?_;rintro e w2 ⟨rfl,hb2⟩
    go_wp2
    go_ret
    exact ⟨by rw [HR.out];rfl,HB1.out.trans (hb2.mono HB1.out.size)⟩
  | true =>
    rw [hpo] at HPR
    obtain ⟨hok1,hlen,hls⟩:=okS_in hok
    obtain ⟨n,rfl,hn1,hn6,hro⟩:=okN_nat hok1
    obtain ⟨-,-,hl6,hrow,-⟩:=rowsOk_in hro
    obtain ⟨p1,p2,p3,-⟩:=pointOk_in hpo
    have HOK:=hid hok;have HPO:=hid hpo;have HRO:=hid hro;have HLS:=hid hls;have HP1:=hid p1;have HLEN:=hid hlen;have HROW:Hid (∀ r∈l,r.length=n):=hid hrow
    have hd0:¬ d=0:=by omega
    clear hok hok1 hro hls hpo p1 hlen hrow
    go_wp2_with fail
    refine HPR.out.mono ?_;rintro e w2 ⟨rfl,hb2⟩
    have HB2:=hid (HB1.out.trans (hb2.mono HB1.out.size));have HBL2:=hid (HBL.out.ext hb2)
    clear hb2 HPR HB1 HBL c0 c1
    have c0:=HBL2.out.cell 0 (by simp)
    have c1:=HBL2.out.cell 1 (by simp)
    simp only [List.getElem_cons_zero,List.getElem_cons_succ] at c0 c1
    have HTM:=hid (timesL_calls Y A cy c ys l n w2 (HY.out.ext HB2.out) (HG.out.ext HB2.out) (by have:=HP1.out;omega) (by have:=HP1.out;omega) (by omega) (fun q hq=>HROW.out _ (nrow_mem hq)) (fun j hj=>small_cols HRO.out HPO.out hj))
    go_wp2_with fail
    refine HTM.out.mono ?_;rintro e w3 ⟨g,rfl,hg,hI,hb3⟩
    have HB3:=hid (HB2.out.trans (hb3.mono HB2.out.size));have HBL3:=hid (HBL2.out.ext hb3);have HI:=hid hI
    clear hb3 hI HTM HB2 HBL2 c0 c1
    have hcf:=containsFunc_int 121 #[.pointer (some ⟨bp,0,none⟩)] (fun x=>!decide (x.tmod d=0)) (some ⟨g,0,none⟩) n (timZ l ys n) w3 (by rw [timZ_len];unfold maxLen;omega) HI.out.ints ⟨fun _ _=>by kernel_rfl,fun x _ w4 hb4=>refutes1_calls x d bp w4 ((HBL3.out.ext hb4).cell 1 (by simp)) p2 p3⟩
    rw [timZ_len] at hcf
    have HCF:=hid hcf
    clear hcf
    go_wp2_with fail
    refine HCF.out.mono ?_;rintro e w4 ⟨rfl,hb4⟩
    have HB4:=hid (HB3.out.trans (hb4.mono HB3.out.size));have HBL4:=hid (HBL3.out.ext hb4)
    clear hb4 HCF HB3 HBL3
    obtain ⟨wh,hwh⟩:∃ wh,((timZ l ys n).any fun x=>!decide (x.tmod d=0))=wh:=⟨_,rfl⟩
    have hall:=any_not (timZ l ys n) fun x=>decide (x.tmod d=0)
    rw [hwh] at hall ⊢
    have HALL:=hid hall
    clear hwh hall
    cases wh with
    | true =>
      have HR:Hid (refutesS l b n ys d=false):=hid (by
       unfold refutesS
       rw [Int.toNat_natCast,←HALL.out];simp)
      go_wp2_with fail
      refine wp_region_keys (w0:=w4) 11 [38,39,40,41,42,43,44,45,46,47,48]
       [leafS 38 (.bool false),leafS 39 (.bool false),leafS 40 (undef),leafS 41 (undef),leafS 42 (undef),leafS 43 (undef),leafS 44 (undef),leafS 45 (undef),leafS 46 (undef),leafS 47 (undef),leafS 48 (.bool false)]
       [] [none,none,none,none,none,none,none,none,none,none,none] NoBlk (by kernel_rfl) (by kernel_rfl) (by kernel_rfl) rfl (F:=?cFr5a) ?r5ac1 ?r5ac2 ?r5ac3 ?r5ac4
      case r5ac1 =>
       intro x
       simp only [fullF,Act.put,List.setIfInBounds_toArray,List.set_cons_zero,List.set_cons_succ]
       rfl
      case r5ac2 =>
       exact ⟨keeps_const _ _ _ _ _ _ _,keeps_const _ _ _ _ _ _ _,keeps_const _ _ _ _ _ _ _,keeps_const _ _ _ _ _ _ _,keeps_const _ _ _ _ _ _ _,keeps_const _ _ _ _ _ _ _,keeps_const _ _ _ _ _ _ _,keeps_const _ _ _ _ _ _ _,keeps_const _ _ _ _ _ _ _,keeps_const _ _ _ _ _ _ _,keeps_const _ _ _ _ _ _ _,trivial⟩
      case r5ac3 =>
       refine ⟨?_,?_,?_,?_,?_,?_,?_,?_,?_,?_,?_,trivial⟩
       all_goals
        intro xx wq HE hd K hK
        try have e0:xx 38=_:=hd 0 _ (by decide) rfl
        try have e1:xx 39=_:=hd 1 _ (by decide) rfl
        try have e2:xx 40=_:=hd 2 _ (by decide) rfl
        try have e3:xx 41=_:=hd 3 _ (by decide) rfl
        try have e4:xx 42=_:=hd 4 _ (by decide) rfl
        try have e5:xx 43=_:=hd 5 _ (by decide) rfl
        try have e6:xx 44=_:=hd 6 _ (by decide) rfl
        try have e7:xx 45=_:=hd 7 _ (by decide) rfl
        try have e8:xx 46=_:=hd 8 _ (by decide) rfl
        try have e9:xx 47=_:=hd 9 _ (by decide) rfl
        try have e10:xx 48=_:=hd 10 _ (by decide) rfl
        have HE:=hid HE
        clear hd
        all_goals go_simp
        try (refine hK _ _ _ (mv_const _ rfl) ?_;dsimp only [Act.put];first|done|rfl|(simp [*];done))
      case r5ac4 =>
       intro xx wz hE hG hA
       have e0:xx 38=_:=hG 0 _ rfl
       have e1:xx 39=_:=hG 1 _ rfl
       have e2:xx 40=_:=hG 2 _ rfl
       have e3:xx 41=_:=hG 3 _ rfl
       have e4:xx 42=_:=hG 4 _ rfl
       have e5:xx 43=_:=hG 5 _ rfl
       have e6:xx 44=_:=hG 6 _ rfl
       have e7:xx 45=_:=hG 7 _ rfl
       have e8:xx 46=_:=hG 8 _ rfl
       have e9:xx 47=_:=hG 9 _ rfl
       have e10:xx 48=_:=hG 10 _ rfl
       have HE:=hid hE
       clear hG hA hE
       (refine tail_one (i:=11) (by kernel_rfl) rfl ?_;intro K hK;go_simp;refine hK _ _ ?_;clear hK)
       refine wpAny_done (by kernel_rfl) ?_ _
       (try simp only [Exit.inBlock,Exit.then])
       go_wp2
       go_ret
       exact ⟨by rw [HR.out];rfl,HB4.out.trans (HE.out.mono HB4.out.size)⟩
    | false =>
      have c0:=HBL4.out.cell 0 (by simp)
      have c1:=HBL4.out.cell 1 (by simp)
      simp only [List.getElem_cons_zero,List.getElem_cons_succ] at c0 c1
      have HDT:Hid (∀ W,Below w4.heap.size w4 W→Calls Tryz.prog 100 #[.slice Y ys.length cy,.slice B b.length cb] W fun e w'=>e=.returned (.int .i64 (dotZ ys b))∧∃ k,w'=W.drewN k):=hid fun W hW =>
       linDot_calls Y B cy cb ys b W (by have:=HP1.out;have:=HLEN.out;omega) hy ((HY.out.ext HB4.out).ext hW) ((HBI.out.ext HB4.out).ext hW) (small_right hl6 HPO.out HLS.out)
      have HR:Hid (refutesS l b n ys d=((dotZ ys b).tmod d != 0)):=hid (by
       unfold refutesS
       rw [Int.toNat_natCast,←HALL.out,HOK.out,HPO.out]
       by_cases e:(dotZ ys b).tmod d=0
       ·simp [e]
       ·simp [e])
      go_wp2_with fail
      refine wp_region_keys (w0:=w4) 8 [38,39,40,41,42,43,44,45]
       [leafS 38 (.bool true),leafS 39 (.bool true),leafS 40 (.pointer (some ⟨bp,0,none⟩)),leafS 41 (.slice Y ys.length cy),leafS 42 (.slice B b.length cb),leafS 43 (.int .i64 (dotZ ys b)),leafS 44 (.pointer (some ⟨bp,1,none⟩)),leafS 45 (.int .i64 d)]
       [] [none,none,none,none,none,none,none,none] NoBlk (by kernel_rfl) (by kernel_rfl) (by kernel_rfl) rfl (F:=?cFr5b) ?r5bc1 ?r5bc2 ?r5bc3 ?r5bc4
      case r5bc1 =>
       intro x
       simp only [fullF,Act.put,List.setIfInBounds_toArray,List.set_cons_zero,List.set_cons_succ]
       rfl
      case r5bc2 =>
       exact ⟨keeps_const _ _ _ _ _ _ _,keeps_const _ _ _ _ _ _ _,keeps_const _ _ _ _ _ _ _,keeps_const _ _ _ _ _ _ _,keeps_const _ _ _ _ _ _ _,keeps_const _ _ _ _ _ _ _,keeps_const _ _ _ _ _ _ _,keeps_const _ _ _ _ _ _ _,trivial⟩
      case r5bc3 =>
       refine ⟨?_,?_,?_,?_,?_,?_,?_,?_,trivial⟩
       all_goals
        intro xx wq HE hd K hK
        have hc:=(bcell HE).1
        have c0':=(hc _ _ (cell_lt c0)).trans c0
        have c1':=(hc _ _ (cell_lt c1)).trans c1
        try have e0:xx 38=_:=hd 0 _ (by decide) rfl
        try have e1:xx 39=_:=hd 1 _ (by decide) rfl
        try have e2:xx 40=_:=hd 2 _ (by decide) rfl
        try have e3:xx 41=_:=hd 3 _ (by decide) rfl
        try have e4:xx 42=_:=hd 4 _ (by decide) rfl
        try have e5:xx 43=_:=hd 5 _ (by decide) rfl
        try have e6:xx 44=_:=hd 6 _ (by decide) rfl
        try have e7:xx 45=_:=hd 7 _ (by decide) rfl
        have HE:=hid HE
        have HC:=hid hc
        clear hd hc
        all_goals go_simp
        try (refine hK _ _ _ (mv_const _ rfl) ?_;dsimp only [Act.put];first|done|rfl|(simp [*];done))
       ·refine (HDT.out wq HE.out).mono ?_
        rintro e w5 ⟨rfl,kq,hkq⟩
        exact hK _ _ _ (mv_plain (by rw [hkq];exact drewN_below _ _) rfl rfl) (by first|(dsimp only [Act.put];done)|(dsimp only [Act.put];first|rfl|(simp [*];done)|(simp [*,ptr];done)))
      case r5bc4 =>
       intro xx wz hE hG hA
       have e0:xx 38=_:=hG 0 _ rfl
       have e1:xx 39=_:=hG 1 _ rfl
       have e2:xx 40=_:=hG 2 _ rfl
       have e3:xx 41=_:=hG 3 _ rfl
       have e4:xx 42=_:=hG 4 _ rfl
       have e5:xx 43=_:=hG 5 _ rfl
       have e6:xx 44=_:=hG 6 _ rfl
       have e7:xx 45=_:=hG 7 _ rfl
       have HE:=hid hE
       clear hG hA hE
       (refine tail_one (i:=8) (by kernel_rfl) rfl ?_;intro K hK;go_simp;refine hK _ _ ?_;clear hK)
       (refine tail_one (i:=9) (by kernel_rfl) rfl ?_;intro K hK;go_simp;refine hK _ _ ?_;clear hK)
       (refine tail_one (i:=10) (by kernel_rfl) rfl ?_;intro K hK;go_simp;refine hK _ _ ?_;clear hK)
       (refine tail_one (i:=11) (by kernel_rfl) rfl ?_;intro K hK;go_simp;refine hK _ _ ?_;clear hK)
       refine wpAny_done (by kernel_rfl) ?_ _
       (try simp only [Exit.inBlock,Exit.then])
       go_wp2
       go_ret
       exact ⟨by rw [HR.out];rfl,HB4.out.trans (HE.out.mono HB4.out.size)⟩
end
end Go.Proofs.YtkljafmdbajfeaaGreatDoor
