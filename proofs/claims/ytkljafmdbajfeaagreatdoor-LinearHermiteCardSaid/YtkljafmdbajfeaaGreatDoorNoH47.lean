/- The reference's Hermite, Reduce and Member: one answer each, for all arguments. -/
import Derived.Test.YtkljafmdbajfeaaGreatDoorNoH10
import Derived.Test.YtkljafmdbajfeaaGreatDoorNoH43
import Derived.Test.YtkljafmdbajfeaaGreatDoorNoH45
import Derived.Test.YtkljafmdbajfeaaGreatDoorNoH46
namespace Go.Proofs.YtkljafmdbajfeaaGreatDoor
set_option linter.unusedVariables false
set_option linter.unusedSimpArgs false
open Go.Lib (hid)
section
open Go.RowKit Go.ChangeMaps
open Lp (Lt V Ech pivots Gen From Least)
theorem cut_small {l:List Int} (h:∀ i,(nth l i).natAbs≤4000000000000000000):l.map cut62=l∧l.all fit62=true:=by
 have hx:∀ x∈l,(x.natAbs:Int)≤4611686018427387904:=fun x hx=>by
  obtain ⟨i,hi,rfl⟩:=List.getElem_of_mem hx
  have:=h i
  rw [nth_lt hi] at this
  omega
 refine ⟨?_,?_⟩
 ·conv=>rhs;rw [←List.map_id l]
  exact List.map_congr_left fun x hm=>by unfold cut62;rw [if_pos (hx x hm)];rfl
 ·rw [List.all_eq_true];intro x hm;exact decide_eq_true (hx x hm)
theorem refRows_any (A:Option Addr) (c:Nat) (l:List (List Int)) (k:Int) (w:World) (h:Grid w A l) (hl:l.length≤maxLen) (hr:∀ r∈l,r.length≤maxLen) :
 Calls Tryz.prog 66 #[.slice A l.length c,.int .i64 k] w fun e w'=>e=.returned (.bool (okN l k))∧w'=w:=by
 rcases Int.lt_or_le k 1 with h1|h1
 ·have hk:okN l k=false:=by unfold okN;rw [decide_eq_false (show ¬ 1≤k by omega)];rfl
  have d1:decide (k<1)=true:=decide_eq_true h1
  rw [hk]
  clear hk h1 h hl hr
  go_enter Tryz.func66,Tryz.ntmps66
  go_wp2
  go_ret
  exact ⟨rfl,rfl⟩
 ·rcases Int.lt_or_le 6 k with h6|h6
  ·have hk:okN l k=false:=by unfold okN;rw [decide_eq_false (show ¬ k≤6 by omega)];simp
   have d1:decide (k<1)=false:=decide_eq_false (by omega)
   have d2:decide (6<k)=true:=decide_eq_true h6
   rw [hk]
   clear hk h1 h6 h hl hr
   go_enter Tryz.func66,Tryz.ntmps66
   go_wp2
   go_ret
   exact ⟨rfl,rfl⟩
  ·obtain ⟨n,rfl⟩:∃ n:Nat,k=n:=⟨k.toNat,by omega⟩
   have hk:okN l (n:Int)=rowsOk l n:=by unfold okN;rw [decide_eq_true h1,decide_eq_true h6,Int.toNat_natCast];rfl
   rw [hk]
   exact refRows_calls A c l n w hl hr (by unfold maxLen;omega) h
theorem OwnG.grid {w:World} {base:Nat} {v:Value} {rs:List (List Int)} (h:OwnG w base v rs):∃ A c,v=.slice A rs.length c∧Grid w A rs:=by
 obtain ⟨A,c,h1,-,-,h4⟩:=h.at;exact ⟨A,c,h1,h4⟩
theorem NormOf.cut {l out:List (List Int)} {n:Nat} {p:Nat→Nat} (h:NormOf l n out p) (hok:rowsOk l n=true):(out.map fun r=>r.map cut62)=out∧(out.all fun r=>r.all fit62)=true:=by
 have hs:∀ r∈out,r.map cut62=r∧r.all fit62=true:=nrow_all (P:=fun r=>r.map cut62=r∧r.all fit62=true) fun i hi=>cut_small fun c=>Nat.le_trans (h.small hok hi c) (by decide)
 refine ⟨?_,?_⟩
 ·conv=>rhs;rw [←List.map_id out]
  exact List.map_congr_left fun r hr=>(hs r hr).1
 ·rw [List.all_eq_true];exact fun r hr=>(hs r hr).2
set_option maxRecDepth 100000 in
set_option maxHeartbeats 2000000 in
theorem wideNorm (A:Option Addr) (c n:Nat) (l:List (List Int)) (w:World) (h:Grid w A l) (hok:rowsOk l n=true) :
 Calls Tryz.prog 87 #[.slice A l.length c] w fun e w'=>∃ A1 c1,e=.returned (.slice A1 l.length c1)∧Below w.heap.size w w' ∧
  ∀ w2,Below w'.heap.size w' w2→Calls Tryz.prog 86 #[.slice A1 l.length c1,.int .i64 n] w2 fun e w'=>∃ A3 c3 out p,e=.returned (.slice A3 out.length c3)∧RowsAt w' A3 out∧NormOf l n out p∧Below w2.heap.size w2 w':=by
 obtain ⟨h1,h6,hl6,hrow,hx⟩:=rowsOk_in hok
 obtain ⟨s1,s2⟩:=rows_start hok
 refine (wide1_calls A c l w h (by omega) (fun r hr=>by rw [hrow r hr];omega) (fun r hr x hm=>by have:=hx r hr x hm;omega)).mono ?_
 rintro e w1 ⟨v,rfl,ho,hb⟩
 obtain ⟨A1,c1,rfl,-,-,hR⟩:=ho.at
 refine ⟨A1,c1,rfl,hb,fun w2 hb2=>?_⟩
 refine (normal1_calls A1 c1 n (2 ^ 5) l w2 (hR.ext hb2) hl6 (by omega) s1 (by decide) s2 (fine_six (by omega) (by omega))).mono ?_
 rintro e w3 ⟨v,out,p,rfl,ho3,hN,-,hb3⟩
 obtain ⟨A3,c3,rfl,-,-,hR3⟩:=ho3.at
 exact ⟨A3,c3,out,p,rfl,hR3,hN,hb3⟩
def RHermP (l:List (List Int)) (k:Int) (w:World) (e:Ending) (w':World):Prop :=
 ∃ HA hc h er,e=.returned (.tuple #[.slice HA h.length hc,.bool true,.int .i64 er])∧Hid (Grid w' HA h)∧Below w.heap.size w w' ∧
  ((okN l k=false∧er=2∧h=[])∨(okN l k=true∧er=0∧∃ rows,FormOf l k.toNat rows∧h=formL rows k.toNat))
set_option maxRecDepth 100000 in
set_option maxHeartbeats 2000000 in
theorem rherm_any (A:Option Addr) (c:Nat) (l:List (List Int)) (k:Int) (w:World) (h:Grid w A l) (hl:l.length≤maxLen) (hr:∀ r∈l,r.length≤maxLen) :
 Calls Tryz.prog 32 #[.slice A l.length c,.int .i64 k] w (RHermP l k w):=by
 have H1:=hid (refRows_any A c l k w h hl hr)
 cases hok:okN l k with
 | false =>
   rw [hok] at H1
   have HOK:=hid hok
   clear h hl hr hok
   go_enter Tryz.func32,Tryz.ntmps32
   go_wp2_with fail
   refine H1.out.mono ?_;rintro e w1 ⟨rfl,rfl⟩
   go_wp2
   go_ret3
   exact ⟨none,0,[],2,rfl,hid (fun i hi=>by simp at hi),Below.refl _ _,.inl ⟨HOK.out,rfl,rfl⟩⟩
 | true =>
   obtain ⟨n,rfl,-,-,hrk⟩:=okN_nat hok
   rw [hok] at H1
   have HW:=hid (wideNorm A c n l w h hrk)
   have HOK:=hid hok;have HRK:=hid hrk
   clear h hl hr hok hrk
   go_enter Tryz.func32,Tryz.ntmps32
   go_wp2_with fail
   refine H1.out.mono ?_;rintro e w1 ⟨rfl,rfl⟩
   go_wp2_with fail
   refine HW.out.mono ?_;rintro e w2 ⟨A2,c2,rfl,hb2,hN⟩
   have HN:=hid (hN w2 (Below.refl _ _));have HB2:=hid hb2
   clear hb2 hN HW
   go_wp2_with fail
   refine HN.out.mono ?_;rintro e w3 ⟨A3,c3,out,p,rfl,hR3,hN3,hb3⟩
   have HF:=hN3.formOf HRK.out
   have HL:=hid (listsB_calls A3 c3 out w3 hR3 (by have:=hN3.le;have:=(rowsOk_in HRK.out).2.2.1;omega) (nrow_all (P:=fun r=>r.length≤1000) fun i hi=>by rw [hN3.form.len i hi];have:=(rowsOk_in HRK.out).2.1;omega)
    (nrow_all (P:=fun r=>∀ i,i<r.length→Few (nth r i)) fun i hi j hj=>few_bd (Nat.lt_of_le_of_lt (hN3.small HRK.out hi j) (by decide))))
   obtain ⟨q1,q2⟩:=hN3.cut HRK.out
   rw [q1,q2] at HL
   have HEQ:=hid (hN3.eq HF);have HFF:=hid HF;have HB3:=hid (HB2.out.trans (hb3.mono HB2.out.size))
   clear hR3 hN3 hb3 HN HB2 HF q1 q2
   go_wp2_with fail
   refine HL.out.mono ?_;rintro e w4 ⟨v,rfl,ho,hb4⟩
   obtain ⟨A4,c4,rfl,hG⟩:=ho.grid
   have HG:=hid hG;have HB4:=hid (HB3.out.trans (hb4.mono HB3.out.size))
   clear ho hG hb4 HB3 HL
   go_wp2
   go_ret3
   exact ⟨_,_,out,0,rfl,HG,HB4.out,.inr ⟨HOK.out,rfl,_,HFF.out,HEQ.out⟩⟩
def RRedP (l:List (List Int)) (xs:List Int) (w:World) (e:Ending) (w':World):Prop :=
 ∃ G cg x er,e=.returned (.tuple #[.slice G x.length cg,.bool true,.int .i64 er])∧Hid (Ints w' G x)∧Below w.heap.size w w' ∧
  ((okR l xs=false∧er=2∧x=[])∨(okR l xs=true∧er=0∧∃ rows f,RedV l xs rows f∧x=intsTo f xs.length xs.length))
set_option maxRecDepth 100000 in
set_option maxHeartbeats 2000000 in
theorem rred_any (A X:Option Addr) (c cx:Nat) (l:List (List Int)) (xs:List Int) (w:World) (h:Grid w A l) (hX:Ints w X xs) (hl:l.length≤maxLen) (hr:∀ r∈l,r.length≤maxLen) (hm:xs.length≤maxLen) :
 Calls Tryz.prog 35 #[.slice A l.length c,.slice X xs.length cx] w (RRedP l xs w):=by
 have H1:=hid (refRows_calls A c l xs.length w hl hr hm h)
 have H2:=hid (costs_calls X cx xs xs.length w hm hm hX)
 rw [decide_eq_true rfl,Bool.true_and] at H2
 cases hk:rowsOk l xs.length with
 | false =>
   rw [hk] at H1
   have HOK:Hid (okR l xs=false):=hid (by unfold okR;rw [hk];rfl)
   clear h hX hl hr hm hk
   go_enter Tryz.func35,Tryz.ntmps35
   go_wp2_with fail
   refine H1.out.mono ?_;rintro e w1 ⟨rfl,rfl⟩
   go_wp2
   go_ret3
   exact ⟨none,0,[],2,rfl,hid (Ints.nil _ _),Below.refl _ _,.inl ⟨HOK.out,rfl,rfl⟩⟩
 | true =>
   rw [hk] at H1
   cases hls:listOk 1000 xs with
   | false =>
     rw [hls] at H2
     have HOK:Hid (okR l xs=false):=hid (by unfold okR;rw [hls,Bool.and_false])
     clear h hX hl hr hm hk hls
     go_enter Tryz.func35,Tryz.ntmps35
     go_wp2_with fail
     refine H1.out.mono ?_;rintro e w1 ⟨rfl,rfl⟩
     go_wp2_with fail
     refine H2.out.mono ?_;rintro e w1 ⟨rfl,rfl⟩
     go_wp2
     go_ret3
     exact ⟨none,0,[],2,rfl,hid (Ints.nil _ _),Below.refl _ _,.inl ⟨HOK.out,rfl,rfl⟩⟩
   | true =>
     rw [hls] at H2
     have HOK:Hid (okR l xs=true):=hid (by unfold okR;rw [hk,hls];rfl)
     have HW:=hid (wideNorm A c xs.length l w h hk)
     have HRK:=hid hk;have HLS:=hid hls;have HX:=hid hX
     clear h hX hl hr hm hk hls
     go_enter Tryz.func35,Tryz.ntmps35
     go_wp2_with fail
     refine H1.out.mono ?_;rintro e w1 ⟨rfl,rfl⟩
     go_wp2_with fail
     refine H2.out.mono ?_;rintro e w1 ⟨rfl,rfl⟩
     go_wp2_with fail
     refine HW.out.mono ?_;rintro e w2 ⟨A2,c2,rfl,hb2,hN⟩
     have HN:=hid (hN w2 (Below.refl _ _));have HB2:=hid hb2
     clear hb2 hN HW
     go_wp2_with fail
     refine HN.out.mono ?_;rintro e w3 ⟨A3,c3,out,p,rfl,hR3,hN3,hb3⟩
     have h6:=rowsOk_in HRK.out
     have hB3:=HB2.out.trans (hb3.mono HB2.out.size)
     have HRW:=hid (row1_calls X cx xs w3 (HX.out.ext hB3) (by omega) (fun x hx=>by
      obtain ⟨i,hi,rfl⟩:=List.getElem_of_mem hx
      have:=listOk_nth HLS.out (i:=i) hi
      rw [nth_lt hi] at this;omega))
     have HR3:=hid hR3;have HN3:=hid hN3;have HB3:=hid hB3
     clear hR3 hN3 hb3 hB3 HN HB2 h6
     go_wp2_with fail
     refine HRW.out.mono ?_;rintro e w4 ⟨v4,rfl,ho4,hb4⟩
     have h6:=rowsOk_in HRK.out
     have HRD:=hid (reduced1_calls A3 c3 out v4 xs w4 (HR3.out.ext hb4) ho4.bsl (by have:=HN3.out.le;omega) fun k hk=>HN3.out.stepOk HRK.out HLS.out hk)
     have HB4:=hid (HB3.out.trans (hb4.mono HB3.out.size))
     clear hb4 ho4 HR3 HB3 HRW h6
     go_wp2_with fail
     refine HRD.out.mono ?_;rintro e w5 ⟨v5,rfl,ho5,hb5⟩
     have HV:=HN3.out.redV
     have hsm:∀ i,(nth (rdTo out xs out.length) i).natAbs≤4000000000000000000:=fun i=>Nat.le_trans (left_small HRK.out HLS.out HV i) (by decide)
     obtain ⟨y,hy⟩:∃ y,rdTo out xs out.length=y:=⟨_,rfl⟩
     have hyl:y.length=xs.length:=by rw [←hy,rdTo_len]
     rw [hy] at HV hsm ho5
     obtain ⟨A5,c5,rfl,-,-,hI5⟩:=ho5
     have HI:=hid (intsB_calls A5 c5 y w5 hI5 (by have:=(rowsOk_in HRK.out).2.1;omega) (fun i _=>few_bd (Nat.lt_of_le_of_lt (hsm i) (by decide))))
     obtain ⟨q1,q2⟩:=cut_small hsm
     rw [q1,q2] at HI
     have HYE:Hid (y=intsTo (nth y) xs.length xs.length):=hid (nth_ext (by rw [hyl,intsTo_len]) (nth_ints (fun i hi=>nth_out (by omega)) hsm).symm)
     have HVV:=hid HV;have HB5:=hid (HB4.out.trans (hb5.mono HB4.out.size))
     clear HV hsm hy hI5 hb5 HRD HB4 q1 q2 HN3 hyl
     go_wp2_with fail
     refine HI.out.mono ?_;rintro e w6 ⟨rfl,hI6,hb6⟩
     have HI6:=hid hI6.ints;have HB6:=hid (HB5.out.trans (hb6.mono HB5.out.size))
     clear hI6 hb6 HB5 HI
     go_wp2
     go_ret3
     exact ⟨_,_,y,0,rfl,HI6,HB6.out,.inr ⟨HOK.out,rfl,_,_,HVV.out,HYE.out⟩⟩
def RMemP (l:List (List Int)) (xs:List Int) (w:World) (e:Ending) (w':World):Prop :=
 ∃ z er,e=.returned (.tuple #[.bool z,.int .i64 er])∧Below w.heap.size w w'∧((okR l xs=false∧er=2∧z=false)∨(okR l xs=true∧er=0∧(z=true↔InL l (nth xs))))
theorem okR_in {l:List (List Int)} {xs:List Int} (h:okR l xs=true):rowsOk l xs.length=true∧listOk 1000 xs=true:=by
 unfold okR at h;rw [Bool.and_eq_true] at h;exact h
set_option maxRecDepth 100000 in
set_option maxHeartbeats 2000000 in
theorem rmem_any (A X:Option Addr) (c cx:Nat) (l:List (List Int)) (xs:List Int) (w:World) (h:Grid w A l) (hX:Ints w X xs) (hl:l.length≤maxLen) (hr:∀ r∈l,r.length≤maxLen) (hm:xs.length≤maxLen) :
 Calls Tryz.prog 38 #[.slice A l.length c,.slice X xs.length cx] w (RMemP l xs w):=by
 have H1:=hid (rred_any A X c cx l xs w h hX hl hr hm)
 clear h hX hl hr hm
 go_enter Tryz.func38,Tryz.ntmps38
 go_wp2_with fail
 refine H1.out.mono ?_;rintro e w1 ⟨G,cg,x,er,rfl,hI,hb1,hc⟩
 have HB1:=hid hb1
 clear hb1 H1
 rcases hc with ⟨hk,rfl,-⟩|⟨hk,rfl,rows,f,hv,hx⟩
 ·have HK:=hid hk
  clear hk
  go_wp2
  go_ret2
  exact ⟨false,2,rfl,HB1.out,.inl ⟨HK.out,rfl,rfl⟩⟩
 ·have HK:=hid hk
  obtain ⟨q1,q2⟩:=okR_in hk
  have hxf:nth x=f:=by rw [hx];exact hv.nth q1 q2
  have hxl:x.length=xs.length:=by rw [hx,intsTo_len]
  have HM:Hid ((∀ i,i<x.length→nth x i=0)↔InL l (nth xs)):=hid (by
   rw [←member_iff hv,List.all_eq_true,hxl,hxf]
   exact ⟨fun k i hi=>decide_eq_true (k i (List.mem_range.1 hi)),fun k i hi=>of_decide_eq_true (k i (List.mem_range.2 hi))⟩)
  have hx6:x.length≤6:=by rw [hxl];exact (rowsOk_in q1).2.1
  clear hk hv hx q1 q2 hxf hxl
  go_wp2_with fail
  go_loopw [9] (fun v9 wr=>∃ i:Nat,i≤x.length∧v9=.int .i64 i∧Hid (∀ j,j<i→nth x j=0)∧wr=w1) (fun v9 _=>x.length-(intOf v9).toNat)
  case atStart=>exact ⟨0,Nat.zero_le _,rfl,hid (fun j hj=>by omega),rfl⟩
  case round =>
   obtain ⟨i,hi,rfl,hz,rfl⟩:=hrel
   by_cases hlt:i<x.length
   ·have h1:(i:Int)<x.length:=by omega
    obtain ⟨b,o,rfl,k1⟩:=hI.out i hlt
    obtain ⟨y,hy⟩:∃ y,nth x i=y:=⟨_,rfl⟩
    rw [hy] at k1
    by_cases hy0:y=0
    ·have HZ:Hid (∀ j,j<i+1→nth x j=0):=hid fun j hj=>by
      by_cases e:j=i
      ·rw [e,hy,hy0]
      ·exact hz.out j (by omega)
     subst hy0
     clear hy hz
     go_wp2
     go_roundw
     case rel=>exact ⟨i+1,by omega,by go_num,HZ,by first|rfl|trivial⟩
     case measure=>simp [intOf];omega
    ·have d1:(y != 0)=true:=by simp [hy0]
     have HN:Hid (¬ InL l (nth xs)):=hid fun h=>hy0 (hy.symm.trans (HM.out.2 h i hlt))
     clear hy hz hy0
     go_wp2
     go_ret2
     exact ⟨false,0,rfl,HB1.out,.inr ⟨HK.out,rfl,⟨fun h=>(by cases h),fun h=>absurd h HN.out⟩⟩⟩
   ·obtain rfl:i=x.length:=by omega
    have HN:Hid (InL l (nth xs)):=hid (HM.out.1 hz.out)
    clear hz
    go_wp2
    go_ret2
    exact ⟨true,0,rfl,HB1.out,.inr ⟨HK.out,rfl,⟨fun _=>HN.out,fun _=>rfl⟩⟩⟩
end
end Go.Proofs.YtkljafmdbajfeaaGreatDoor
