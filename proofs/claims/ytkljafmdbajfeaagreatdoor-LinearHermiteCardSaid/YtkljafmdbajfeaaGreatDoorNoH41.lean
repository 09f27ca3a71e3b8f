/- linear.Reduce, linear.Member, exact.Vec.Zero: what they answer. -/
import Derived.Test.YtkljafmdbajfeaaGreatDoorNoH03
import Derived.Test.YtkljafmdbajfeaaGreatDoorNoH09
import Derived.Test.YtkljafmdbajfeaaGreatDoorNoH10
import Derived.Test.YtkljafmdbajfeaaGreatDoorNoH23
import Derived.Test.YtkljafmdbajfeaaGreatDoorNoH24
import Derived.Test.YtkljafmdbajfeaaGreatDoorNoH25
import Derived.Test.YtkljafmdbajfeaaGreatDoorNoH38
import Derived.Test.YtkljafmdbajfeaaGreatDoorNoH40
namespace Go.Proofs.YtkljafmdbajfeaaGreatDoor
set_option linter.unusedVariables false
set_option linter.unusedSimpArgs false
open Go.Lib (hid)
section
open Go.RowKit Go.ChangeMaps
open Lp (Lt V Ech BdV Bd pivots lv cnt Gen From Least)
theorem all_rangeT {n:Nat} {p:Nat→Bool} (h:∀ i,i<n→p i=true):(List.range n).all p=true:=List.all_eq_true.2 fun i hi=>h i (List.mem_range.1 hi)
theorem all_rangeF {n k:Nat} {p:Nat→Bool} (hk:k<n) (h:p k=false):(List.range n).all p=false:=by
 cases e:(List.range n).all p with
 | false=>rfl
 | true=>have:=List.all_eq_true.1 e k (List.mem_range.2 hk);rw [h] at this;cases this
theorem wide_gen {X k e j:Nat} (hX:(3*X) ^ e≤4294967296) (h0:0<X) (hk:2 ^ k≤e*j) (hj:j≤100000000) {z:Int} (hz:z.natAbs≤lv X k):Wide z:=by
 have h1:=lv_pow X k
 have h2:(3*X) ^ (2 ^ k)≤(3*X) ^ (e*j):=Nat.pow_le_pow_right (by omega) hk
 rw [Nat.pow_mul] at h2
 have h3:((3*X) ^ e) ^ j≤4294967296 ^ j:=Nat.pow_le_pow_left hX _
 have h4:=Lp.lv_pos h0 k
 have h5:z.natAbs<4294967296 ^ j:=by
  generalize 4294967296 ^ j=B at *
  generalize ((3*X) ^ e) ^ j=C at *
  generalize (3*X) ^ (2 ^ k)=D at *
  omega
 exact Nat.le_trans (big_len h5) hj
theorem wide_27 {k:Nat} (hk:k≤27) {z:Int} (hz:z.natAbs≤lv 30 k):Wide z :=
 wide_gen (e:=4) (j:=33554432) (by decide) (by omega) (Nat.le_trans (Nat.pow_le_pow_right (by omega) hk) (by decide)) (by omega) hz
theorem lv_21 {j:Nat} (h:j≤21):lv 30 j≤lv 30 21:=Lp.lv_mono (by omega) h
theorem lv_big:1000≤lv 30 21:=by
 have h1:lv 30 1≤lv 30 21:=Lp.lv_mono (by omega) (by omega)
 have h2:lv 30 1=2700:=rfl
 omega
structure RedV (l:List (List Int)) (xs:List Int) (rows:Lt) (f:V):Prop where
 ech:Ech xs.length rows
 red:Lp.Red rows
 gen:∀ x,Gen (From rows 0) x↔Gen (·∈l.map nth) x
 least:Least rows f
 rest:Gen (From rows 0) fun i=>nth xs i-f i
 high:∀ i,xs.length≤i→f i=0
set_option maxRecDepth 100000 in
set_option maxHeartbeats 2000000 in
theorem vecZero_calls (n:Nat) (f:V) (v:Value) (w:World) (hv:VecP w v n f) (hn:n≤1000) :
 Calls Tryz.prog 95 #[v] w fun e w'=>e=.returned (.bool ((List.range n).all fun i=>decide (f i=0)))∧Below w.heap.size w w':=by
 obtain ⟨A,c,rfl,hc,hm,hcell⟩:=id hv
 have HC:=hid hcell;have HV:=hid hv
 clear hcell hv
 go_enter Tryz.func95,Tryz.ntmps95
 go_wp2
 go_loopw [7] (fun ti wr=>∃ (k m:Nat),k≤n∧ti=.int .i64 k∧Hid (∀ j,j<k→f j=0)∧wr=w.drewN m) (fun ti _=>n-(intOf ti).toNat)
 case atStart=>exact ⟨0,0,Nat.zero_le _,rfl,hid (fun j hj=>by omega),rfl⟩
 case round =>
  obtain ⟨k,m,hk,rfl,hall,rfl⟩:=hrel
  by_cases hlt:k<n
  ·have hk1:(k:Int)<n:=by omega
   obtain ⟨b,o,p,rfl,-,q1,hz⟩:=(HV.out.ext (drewN_below w m)).at hlt
   have HS:=hid (sign_calls p (f k) _ hz)
   clear hz
   by_cases hk0:f k=0
   ·rw [show sgnI (f k) 0=0 by rw [hk0];rfl] at HS
    have hall2:Hid (∀ j,j<k+1→f j=0):=hid fun j hj=>by
     rcases Nat.lt_or_ge j k with h|h
     ·exact hall.out j h
     ·rw [show j=k by omega];exact hk0
    clear hk0
    go_wp2_with fail
    refine HS.out.mono ?_;rintro e w2 ⟨rfl,rfl⟩
    clear HS
    go_wp2
    go_roundw
    case rel=>exact ⟨k+1,m,by omega,by go_num,hall2,rfl⟩
    case measure=>simp [intOf];omega
   ·have hsg:(sgnI (f k) 0 != 0)=true:=by unfold sgnI;split<;>(try split)<;>first|rfl|omega
    obtain ⟨sg,hsv⟩:∃ sg,sgnI (f k) 0=sg:=⟨_,rfl⟩
    rw [hsv] at HS hsg
    have HK0:=hid hk0
    clear hsv hk0
    go_wp2_with fail
    refine HS.out.mono ?_;rintro e w2 ⟨rfl,rfl⟩
    clear HS
    go_wp2
    go_ret
    exact ⟨by rw [all_rangeF hlt (decide_eq_false HK0.out)];rfl,drewN_below _ _⟩
  ·obtain rfl:k=n:=by omega
   go_wp2
   go_ret
   exact ⟨by rw [all_rangeT fun i hi=>decide_eq_true (hall.out i hi)];rfl,drewN_below _ _⟩
set_option maxRecDepth 100000 in
set_option maxHeartbeats 2000000 in
theorem reduceL_bad (A X:Option Addr) (c cx:Nat) (l:List (List Int)) (xs:List Int) (w:World) (h:Grid w A l) (hX:Ints w X xs) (hl:l.length≤maxLen) (hr:∀ r∈l,r.length≤maxLen) (hm:xs.length≤maxLen) (hok:(rowsOk l xs.length && listOk 1000 xs)=false) :
 Calls Tryz.prog 34 #[.slice A l.length c,.slice X xs.length cx] w fun e w'=>e=.returned (.tuple #[.slice none 0 0,.int .i64 2])∧Below w.heap.size w w':=by
 have HRW:=hid (rowed_calls A c l xs.length w hl hr hm h)
 have HX:=hid hX
 clear h hX
 go_enter Tryz.func34,Tryz.ntmps34
 go_wp2_with fail
 refine HRW.out.mono ?_;rintro e w1 ⟨rfl,hb1⟩
 have HB1:=hid hb1
 clear hb1 HRW
 cases h1:rowsOk l xs.length with
 | false =>
   clear h1 hok
   go_wp2
   go_ret2
   exact ⟨rfl,HB1.out⟩
 | true =>
   rw [h1,Bool.true_and] at hok
   have HLS:=hid (listed_calls X cx xs 1000 w1 hm (by omega) (by omega) (HX.out.ext HB1.out))
   have HOK:=hid hok
   clear h1 hok
   go_wp2_with fail
   refine HLS.out.mono ?_;rw [HOK.out];rintro e w2 ⟨rfl,hb2⟩
   have HB2:=hid (HB1.out.trans (hb2.mono HB1.out.size))
   clear hb2 HLS
   go_wp2
   go_ret2
   exact ⟨rfl,HB2.out⟩
set_option maxRecDepth 100000 in
set_option maxHeartbeats 2000000 in
theorem reduceL_good (A X:Option Addr) (c cx:Nat) (l:List (List Int)) (xs:List Int) (w:World) (h:Grid w A l) (hX:Ints w X xs) (hok:rowsOk l xs.length=true) (hls:listOk 1000 xs=true) :
 Calls Tryz.prog 34 #[.slice A l.length c,.slice X xs.length cx] w fun e w'=>∃ g rows f,e=.returned (.tuple #[.slice (some ⟨g,0,none⟩) xs.length xs.length,.int .i64 0])∧w.heap.size≤g∧IBlk w' g (intsTo f xs.length xs.length)∧RedV l xs rows f∧Below w.heap.size w w':=by
 obtain ⟨n,hnx⟩:∃ n,xs.length=n:=⟨_,rfl⟩
 rw [hnx] at hok ⊢
 obtain ⟨h1,h6,hl6,hrow,hx⟩:=rowsOk_in hok
 have HRW:=hid (rowed_calls A c l n w (by unfold maxLen;omega) (fun r hr=>by rw [hrow r hr];unfold maxLen;omega) (by unfold maxLen;omega) h)
 have hli:=listed_calls X cx xs 1000
 rw [hnx,hls] at hli
 have hvo:=vecOf_calls X cx xs
 rw [hnx] at hvo
 have HLI:=hid hli;have HVO:=hid hvo;have HNX:=hid hnx;have HLS:=hid hls
 have HG:=hid h;have HXS:=hid hX
 have HROW:Hid (∀ r∈l,r.length=n):=hid hrow
 have HX:Hid (∀ r∈l,∀ x∈r,-30≤x∧x≤30):=hid hx
 clear h hrow hx hli hvo hnx hls hX
 go_enter Tryz.func34,Tryz.ntmps34
 go_wp2_with fail
 refine HRW.out.mono ?_;rw [hok];rintro e w1 ⟨rfl,hb1⟩
 have HL1:=hid (HLI.out w1 (by unfold maxLen;omega) (by omega) (by omega) (HXS.out.ext hb1))
 have HB1:=hid hb1
 clear hb1 HRW HLI
 go_wp2_with fail
 refine HL1.out.mono ?_;rintro e w2 ⟨rfl,hb2⟩
 have HB2:=hid (HB1.out.trans (hb2.mono HB1.out.size))
 clear hb2 HL1 HB1
 have HV:=hid (vectors_calls A c n l w2 (HG.out.ext HB2.out) (by omega) (by omega) HROW.out (fun r hr x hx=>by have:=HX.out r hr x hx;omega))
 go_wp2_with fail
 refine HV.out.mono ?_;rintro e w3 ⟨A2,c2,rfl,hvs,hb3⟩
 have hlat:=lat_calls n 30 (l.map nth) A2 c2 w3 hvs (by omega) (by omega) (by simp;omega) (fun f hf i hi=>by
  obtain ⟨r,hr,rfl⟩:=List.mem_map.1 hf
  exact nth_beyond (by rw [HROW.out r hr];exact hi)) (fun f hf=>by
  obtain ⟨r,hr,rfl⟩:=List.mem_map.1 hf
  exact nth_bd (fun x hx=>HX.out r hr x hx)) (by omega) (fun z hz=>wide_21 (by rw [List.length_map];exact tri_six hl6) hz)
 rw [List.length_map] at hlat
 have HLAT:=hid hlat
 have HB3:=hid (HB2.out.trans (hb3.mono HB2.out.size))
 clear hlat hvs hb3 HV HB2
 go_wp2_with fail
 refine HLAT.out.mono ?_;rintro e w4 ⟨L,M,rows,rfl,hL,hM,hl4,hE,hR,hgen,hcnt,hbd,hb4⟩
 have HL4:=hid hl4;have HE:=hid hE;have HRED:=hid hR;have HGEN:=hid hgen;have HBD:=hid hbd
 have HB4:=hid (HB3.out.trans (hb4.mono HB3.out.size))
 have HVF:=hid (HVO.out w4 (HXS.out.ext HB4.out) (by omega) (fun x hx=>by
  have:=HLS.out
  unfold listOk inB at this
  simp only [List.all_eq_true,Bool.and_eq_true,decide_eq_true_eq] at this
  have:=this x hx;omega))
 clear hl4 hb4 hE hR hgen hbd HLAT HB3 hL hM HVO
 go_wp2_with fail
 refine HVF.out.mono ?_;rintro e w5 ⟨vf,rfl,hvf,hb5⟩
 have hb30:Bd (lv 30 21) rows:=fun p r hp i=>Nat.le_trans (HBD.out p r hp i) (lv_21 (tri_six hl6))
 have hfb:BdV (lv 30 21) (nth xs):=fun i=>by
  have h0:=lv_big
  rcases Nat.lt_or_ge i xs.length with h2|h2
  ·have:=listOk_nth HLS.out h2
   omega
  ·rw [nth_beyond h2];simp
 have hc6:cnt rows n≤6:=by omega
 have HRD:=hid (reduce_calls L M n (lv 30 21) rows (nth xs) vf w5 (HL4.out.ext hb5) hvf (by omega) (by omega) HE.out hb30 hfb (fun i hi=>nth_beyond (by rw [HNX.out];exact hi)) (Lp.lv_pos (by omega) 21) (fun z hz=>by
  rw [lv_add] at hz
  exact wide_27 (by omega) hz))
 have HB5:=hid (HB4.out.trans (hb5.mono HB4.out.size))
 clear hvf hb5 hb30 hfb HVF HB4
 go_wp2_with fail
 refine HRD.out.mono ?_;rintro e w6 ⟨g,cg,f',rfl,hg1,hg2,hg3,hown,hle,hgn,-,hhi,hb6⟩
 have HIN:=hid (vecInts_calls n f' _ w6 ((hown.vec hg1 hg2).vec) (by omega))
 have HLE:=hid hle;have HGN:=hid hgn;have HHI:=hid hhi
 have HB6:=hid (HB5.out.trans (hb6.mono HB5.out.size))
 clear hown hle hgn hhi hb6 HRD HB5 hg1 hg2 hg3
 go_wp2_with fail
 refine HIN.out.mono ?_;rintro e w7 ⟨g7,rfl,hg7,hI7,hb7⟩
 have HI7:=hid hI7
 have HB7:=hid (HB6.out.trans (hb7.mono HB6.out.size))
 have hge:w.heap.size≤g7:=by have:=HB6.out.size;omega
 clear hI7 hb7 HIN hg7
 go_wp2
 go_ret2
 exact ⟨g7,rows,f',rfl,hge,HI7.out,⟨by rw [HNX.out];exact HE.out,HRED.out,HGEN.out,HLE.out,HGN.out,by rw [HNX.out];exact HHI.out⟩,HB7.out⟩
set_option maxRecDepth 100000 in
set_option maxHeartbeats 2000000 in
theorem memberL_bad (A X:Option Addr) (c cx:Nat) (l:List (List Int)) (xs:List Int) (w:World) (h:Grid w A l) (hX:Ints w X xs) (hl:l.length≤maxLen) (hr:∀ r∈l,r.length≤maxLen) (hm:xs.length≤maxLen) (hok:(rowsOk l xs.length && listOk 1000 xs)=false) :
 Calls Tryz.prog 37 #[.slice A l.length c,.slice X xs.length cx] w fun e w'=>e=.returned (.tuple #[.bool false,.int .i64 2])∧Below w.heap.size w w':=by
 have HRW:=hid (rowed_calls A c l xs.length w hl hr hm h)
 have HX:=hid hX
 clear h hX
 go_enter Tryz.func37,Tryz.ntmps37
 go_wp2_with fail
 refine HRW.out.mono ?_;rintro e w1 ⟨rfl,hb1⟩
 have HB1:=hid hb1
 clear hb1 HRW
 cases h1:rowsOk l xs.length with
 | false =>
   clear h1 hok
   go_wp2
   go_ret2
   exact ⟨rfl,HB1.out⟩
 | true =>
   rw [h1,Bool.true_and] at hok
   have HLS:=hid (listed_calls X cx xs 1000 w1 hm (by omega) (by omega) (HX.out.ext HB1.out))
   have HOK:=hid hok
   clear h1 hok
   go_wp2_with fail
   refine HLS.out.mono ?_;rw [HOK.out];rintro e w2 ⟨rfl,hb2⟩
   have HB2:=hid (HB1.out.trans (hb2.mono HB1.out.size))
   clear hb2 HLS
   go_wp2
   go_ret2
   exact ⟨rfl,HB2.out⟩
set_option maxRecDepth 100000 in
set_option maxHeartbeats 2000000 in
theorem memberL_good (A X:Option Addr) (c cx:Nat) (l:List (List Int)) (xs:List Int) (w:World) (h:Grid w A l) (hX:Ints w X xs) (hok:rowsOk l xs.length=true) (hls:listOk 1000 xs=true) :
 Calls Tryz.prog 37 #[.slice A l.length c,.slice X xs.length cx] w fun e w'=>∃ rows f,e=.returned (.tuple #[.bool ((List.range xs.length).all fun i=>decide (f i=0)),.int .i64 0])∧RedV l xs rows f∧Below w.heap.size w w':=by
 obtain ⟨n,hnx⟩:∃ n,xs.length=n:=⟨_,rfl⟩
 rw [hnx] at hok ⊢
 obtain ⟨h1,h6,hl6,hrow,hx⟩:=rowsOk_in hok
 have HRW:=hid (rowed_calls A c l n w (by unfold maxLen;omega) (fun r hr=>by rw [hrow r hr];unfold maxLen;omega) (by unfold maxLen;omega) h)
 have hli:=listed_calls X cx xs 1000
 rw [hnx,hls] at hli
 have hvo:=vecOf_calls X cx xs
 rw [hnx] at hvo
 have HLI:=hid hli;have HVO:=hid hvo;have HNX:=hid hnx;have HLS:=hid hls
 have HG:=hid h;have HXS:=hid hX
 have HROW:Hid (∀ r∈l,r.length=n):=hid hrow
 have HX:Hid (∀ r∈l,∀ x∈r,-30≤x∧x≤30):=hid hx
 clear h hrow hx hli hvo hnx hls hX
 go_enter Tryz.func37,Tryz.ntmps37
 go_wp2_with fail
 refine HRW.out.mono ?_;rw [hok];rintro e w1 ⟨rfl,hb1⟩
 have HL1:=hid (HLI.out w1 (by unfold maxLen;omega) (by omega) (by omega) (HXS.out.ext hb1))
 have HB1:=hid hb1
 clear hb1 HRW HLI
 go_wp2_with fail
 refine HL1.out.mono ?_;rintro e w2 ⟨rfl,hb2⟩
 have HB2:=hid (HB1.out.trans (hb2.mono HB1.out.size))
 clear hb2 HL1 HB1
 have HV:=hid (vectors_calls A c n l w2 (HG.out.ext HB2.out) (by omega) (by omega) HROW.out (fun r hr x hx=>by have:=HX.out r hr x hx;omega))
 go_wp2_with fail
 refine HV.out.mono ?_;rintro e w3 ⟨A2,c2,rfl,hvs,hb3⟩
 have hlat:=lat_calls n 30 (l.map nth) A2 c2 w3 hvs (by omega) (by omega) (by simp;omega) (fun f hf i hi=>by
  obtain ⟨r,hr,rfl⟩:=List.mem_map.1 hf
  exact nth_beyond (by rw [HROW.out r hr];exact hi)) (fun f hf=>by
  obtain ⟨r,hr,rfl⟩:=List.mem_map.1 hf
  exact nth_bd (fun x hx=>HX.out r hr x hx)) (by omega) (fun z hz=>wide_21 (by rw [List.length_map];exact tri_six hl6) hz)
 rw [List.length_map] at hlat
 have HLAT:=hid hlat
 have HB3:=hid (HB2.out.trans (hb3.mono HB2.out.size))
 clear hlat hvs hb3 HV HB2
 go_wp2_with fail
 refine HLAT.out.mono ?_;rintro e w4 ⟨L,M,rows,rfl,hL,hM,hl4,hE,hR,hgen,hcnt,hbd,hb4⟩
 have HL4:=hid hl4;have HE:=hid hE;have HRED:=hid hR;have HGEN:=hid hgen;have HBD:=hid hbd
 have HB4:=hid (HB3.out.trans (hb4.mono HB3.out.size))
 have HVF:=hid (HVO.out w4 (HXS.out.ext HB4.out) (by omega) (fun x hx=>by
  have:=HLS.out
  unfold listOk inB at this
  simp only [List.all_eq_true,Bool.and_eq_true,decide_eq_true_eq] at this
  have:=this x hx;omega))
 clear hl4 hb4 hE hR hgen hbd HLAT HB3 hL hM HVO
 go_wp2_with fail
 refine HVF.out.mono ?_;rintro e w5 ⟨vf,rfl,hvf,hb5⟩
 have hb30:Bd (lv 30 21) rows:=fun p r hp i=>Nat.le_trans (HBD.out p r hp i) (lv_21 (tri_six hl6))
 have hfb:BdV (lv 30 21) (nth xs):=fun i=>by
  have h0:=lv_big
  rcases Nat.lt_or_ge i xs.length with h2|h2
  ·have:=listOk_nth HLS.out h2
   omega
  ·rw [nth_beyond h2];simp
 have hc6:cnt rows n≤6:=by omega
 have HRD:=hid (reduce_calls L M n (lv 30 21) rows (nth xs) vf w5 (HL4.out.ext hb5) hvf (by omega) (by omega) HE.out hb30 hfb (fun i hi=>nth_beyond (by rw [HNX.out];exact hi)) (Lp.lv_pos (by omega) 21) (fun z hz=>by
  rw [lv_add] at hz
  exact wide_27 (by omega) hz))
 have HB5:=hid (HB4.out.trans (hb5.mono HB4.out.size))
 clear hvf hb5 hb30 hfb HVF HB4
 go_wp2_with fail
 refine HRD.out.mono ?_;rintro e w6 ⟨g,cg,f',rfl,hg1,hg2,hg3,hown,hle,hgn,-,hhi,hb6⟩
 have HIN:=hid (vecZero_calls n f' _ w6 ((hown.vec hg1 hg2).vec) (by omega))
 have HLE:=hid hle;have HGN:=hid hgn;have HHI:=hid hhi
 have HB6:=hid (HB5.out.trans (hb6.mono HB5.out.size))
 clear hown hle hgn hhi hb6 HRD HB5 hg1 hg2 hg3
 go_wp2_with fail
 refine HIN.out.mono ?_;rintro e w7 ⟨rfl,hb7⟩
 have HB7:=hid (HB6.out.trans (hb7.mono HB6.out.size))
 clear hb7 HIN
 go_wp2
 go_ret2
 exact ⟨rows,f',rfl,⟨by rw [HNX.out];exact HE.out,HRED.out,HGEN.out,HLE.out,HGN.out,by rw [HNX.out];exact HHI.out⟩,HB7.out⟩
end
section
open Go.RowKit
open Lp (Lt V Ech pivots Gen From Least Piv fac)
def InL (l:List (List Int)) (v:V):Prop:=Gen (·∈l.map nth) v
theorem piv_of {n:Nat} {rows:Lt} (hE:Ech n rows):Piv n rows (pivots rows n).length (fun i=>(pivots rows n).getD i 0) fun i=>(rows ((pivots rows n).getD i 0)).getD fun _=>0:=by
 have hget:∀ i,∀ h:i<(pivots rows n).length,(pivots rows n).getD i 0=(pivots rows n)[i]:=fun i h=>by simp [h]
 refine ⟨fun i j hij hj=>?_,fun i hi=>?_,fun q r hq=>?_⟩
 ·rw [hget i (by omega),hget j hj];exact Lp.pivots_lt _ _ hij
 ·have:=(Lp.mem_pivots.1 (List.getElem_mem hi)).2
  rw [hget i hi]
  cases e:rows (pivots rows n)[i] with
  | none=>rw [e] at this;cases this
  | some r=>rfl
 ·have hm:q∈pivots rows n:=Lp.mem_pivots.2 ⟨hE.lt q r hq,by rw [hq];rfl⟩
  obtain ⟨i,hi,e⟩:=List.getElem_of_mem hm
  exact ⟨i,hi,by rw [hget i hi];exact e⟩
theorem mul_cancel_nat {a b c:Nat} (ha:0<a) (h:a*b≤c*a):b≤c:=by
 rw [Nat.mul_comm c a] at h;exact Nat.le_of_mul_le_mul_left h ha
theorem size_in {l:List (List Int)} {n:Nat} {rows:Lt} (hok:rowsOk l n=true) (hE:Ech n rows) (hg:∀ x,Gen (From rows 0) x↔InL l x) :
 ∃ D:Nat,0<D∧(∀ q r,rows q=some r→r q≤D)∧∀ v Y,InL l v→(∀ q r,rows q=some r→(v q).natAbs≤Y*D)→∀ c,(v c).natAbs≤3149280000000*Y:=by
 obtain ⟨h1,h6,hl6,hrow,hx⟩:=rowsOk_in hok
 have hp:=piv_of hE
 have hk:(pivots rows n).length≤6:=Nat.le_trans (by
  unfold pivots
  refine Nat.le_trans (List.length_filter_le _ _) ?_
  rw [List.length_range];exact Nat.le_refl _) h6
 obtain ⟨k,hkk⟩:∃ k,(pivots rows n).length=k:=⟨_,rfl⟩
 rw [hkk] at hp hk
 obtain ⟨D,d1,d2,d3,d4⟩:=hp.size hE (R:=(·∈l.map nth)) (B:=30) (by omega) (fun r hr i=>by
  obtain ⟨x,hxl,rfl⟩:=List.mem_map.1 hr
  exact nth_bd (fun y hy=>hx x hxl y hy) i) hg
 have hK:fac k*30 ^ k≤524880000000:=Lp.fac_all hk
 refine ⟨D.natAbs,by omega,fun q r hq=>?_,fun v Y hv hY c=>?_⟩
 ·obtain ⟨i,hi,e⟩:=hp.all q r hq
  have h2:=d3 i hi
  have h3:=hp.row i hi
  rw [e] at h3
  have e2:=Option.some.inj (h3.symm.trans hq)
  rw [e,e2] at h2
  have:=Int.le_of_dvd (b:=(D.natAbs:Int)) (by omega) (Int.dvd_natAbs.2 h2)
  exact this
 ·have h2:=d4 v (Y*D.natAbs) ((hg v).2 hv) (fun j hj=>hY _ _ (hp.row j hj)) c
  have h3:k*(fac k*30 ^ k*(Y*D.natAbs))≤3149280000000*Y*D.natAbs:=by
   have e:3149280000000*Y*D.natAbs=6*(524880000000*(Y*D.natAbs)):=by rw [Nat.mul_assoc 3149280000000];omega
   rw [e]
   exact Nat.mul_le_mul hk (Nat.mul_le_mul_right _ hK)
  exact mul_cancel_nat (by omega) (Nat.le_trans h2 h3)
theorem form_small {l:List (List Int)} {n:Nat} {rows:Lt} (hok:rowsOk l n=true) (hE:Ech n rows) (hR:Lp.Red rows) (hg:∀ x,Gen (From rows 0) x↔InL l x) {q:Nat} {r:V} (hq:rows q=some r) (c:Nat):(r c).natAbs≤3149280000000:=by
 obtain ⟨D,d0,d1,d2⟩:=size_in hok hE hg
 have h:=d2 r 1 ((hg r).1 (Gen.one ⟨q,Nat.zero_le _,hq⟩)) (fun p s hp=>?_) c
 ·omega
 ·have h1:=d1 p s hp
  rcases Nat.lt_trichotomy p q with h2|h2|h2
  ·rw [hE.low q r hq p h2];simp
  ·subst h2
   have e:=Option.some.inj (hp.symm.trans hq)
   subst e
   have:=hE.pos p s hp
   omega
  ·obtain ⟨h3,h4⟩:=hR p s q r hp hq h2
   omega
theorem left_small {l:List (List Int)} {xs:List Int} {rows:Lt} {f:V} (hok:rowsOk l xs.length=true) (hls:listOk 1000 xs=true) (h:RedV l xs rows f) (c:Nat):(f c).natAbs≤3200000000000000:=by
 obtain ⟨D,d0,d1,d2⟩:=size_in hok h.ech h.gen
 have hx:∀ c,(nth xs c).natAbs≤1000:=fun c=>by
  rcases Nat.lt_or_ge c xs.length with h2|h2
  ·have:=listOk_nth hls h2;omega
  ·rw [nth_beyond h2];simp
 have h1:=d2 (fun i=>nth xs i-f i) 1001 ((h.gen _).1 h.rest) (fun p s hp=>?_) c
 ·have:=hx c
  omega
 ·have h1:=d1 p s hp
  obtain ⟨h3,h4⟩:=h.least p s hp
  have h5:=hx p
  have h6:1001*D ≥ 1000+D:=by omega
  show (nth xs p-f p).natAbs≤1001*D
  omega
theorem wrap64_big {z:Int} (h:z.natAbs≤4000000000000000000):wrap64 z=z:=by unfold wrap64;omega
theorem intsTo_at {f:V} {n i:Nat} (hi:i<n) (h:(f i).natAbs≤4000000000000000000):nth (intsTo f n n) i=f i:=by
 rw [nth_lt (by rw [intsTo_len];exact hi)]
 unfold intsTo
 simp [hi,wrap64_big h]
theorem nth_ints {f:V} {n:Nat} (hh:∀ i,n≤i→f i=0) (h:∀ i,(f i).natAbs≤4000000000000000000):nth (intsTo f n n)=f:=by
 funext i
 rcases Nat.lt_or_ge i n with h1|h1
 ·exact intsTo_at h1 (h i)
 ·rw [nth_beyond (by rw [intsTo_len];exact h1),hh i h1]
def formL (rows:Lt) (n:Nat):List (List Int):=(rowsOf rows n).map fun f=>intsTo f n n
theorem rowsOf_mem {n:Nat} {rows:Lt} (hE:Ech n rows) (f:V):f∈rowsOf rows n↔From rows 0 f:=by
 unfold rowsOf
 rw [List.mem_map]
 constructor
 ·rintro ⟨p,hp,rfl⟩
  have:=(Lp.mem_pivots.1 hp).2
  cases e:rows p with
  | none=>rw [e] at this;cases this
  | some r=>exact ⟨p,Nat.zero_le _,e⟩
 ·rintro ⟨q,-,hq⟩
  exact ⟨q,Lp.mem_pivots.2 ⟨hE.lt q f hq,by rw [hq];rfl⟩,by rw [hq];rfl⟩
structure FormOf (l:List (List Int)) (n:Nat) (rows:Lt):Prop where
 ok:rowsOk l n=true
 ech:Ech n rows
 red:Lp.Red rows
 gen:∀ x,Gen (From rows 0) x↔InL l x
theorem FormOf.small {l:List (List Int)} {n:Nat} {rows:Lt} (h:FormOf l n rows) {q:Nat} {r:V} (hq:rows q=some r) (c:Nat):(r c).natAbs≤3149280000000:=form_small h.ok h.ech h.red h.gen hq c
theorem FormOf.nth {l:List (List Int)} {n:Nat} {rows:Lt} (h:FormOf l n rows) {q:Nat} {r:V} (hq:rows q=some r):nth (intsTo r n n)=r :=
 nth_ints (h.ech.high q r hq) fun i=>by have:=h.small hq i;omega
theorem formL_nth {l:List (List Int)} {n:Nat} {rows:Lt} (h:FormOf l n rows):(formL rows n).map nth=rowsOf rows n:=by
 unfold formL
 rw [List.map_map]
 refine (List.map_congr_left fun f hf=>?_).trans (List.map_id _)
 obtain ⟨q,-,hq⟩:=(rowsOf_mem h.ech f).1 hf
 exact h.nth hq
theorem inL_form {l:List (List Int)} {n:Nat} {rows:Lt} (h:FormOf l n rows) (v:V):InL (formL rows n) v↔InL l v:=by
 unfold InL
 rw [formL_nth h]
 rw [gen_iff (fun r=>rowsOf_mem h.ech r) v]
 exact h.gen v
theorem form_one {a b:List (List Int)} {n:Nat} {ra rb:Lt} (h:FormOf a n ra) (k:FormOf b n rb) (e:∀ v,InL a v↔InL b v):ra=rb :=
 funext (h.ech.same k.ech h.red k.red fun v=>by rw [h.gen,k.gen];exact e v)
theorem RedV.form {l:List (List Int)} {xs:List Int} {rows:Lt} {f:V} (h:RedV l xs rows f) (hok:rowsOk l xs.length=true):FormOf l xs.length rows:=⟨hok,h.ech,h.red,h.gen⟩
theorem least_zero {n:Nat} {rows:Lt} (hE:Ech n rows):Least rows fun _=>0:=fun p r hp=>⟨Int.le_refl _,hE.pos p r hp⟩
theorem left_eq {l:List (List Int)} {xs ys:List Int} {ra rb:Lt} {f g:V} (h:RedV l xs ra f) (k:RedV l ys rb g) (hok:rowsOk l xs.length=true) (hl:ys.length=xs.length):f=g↔InL l fun i=>nth xs i-nth ys i:=by
 have hk:FormOf l xs.length rb:=by have:=k.form (by rw [hl];exact hok);rw [hl] at this;exact this
 have e:ra=rb:=form_one (h.form hok) hk fun _=>Iff.rfl
 subst e
 have h1:=(h.gen _).1 h.rest
 have h2:=(h.gen _).1 k.rest
 constructor
 ·intro e
  subst e
  exact (h1.sub h2).cast fun i=>by omega
 ·intro hd
  refine h.ech.unique h.least k.least ((h.gen _).2 (((hd.sub h1).addMul 1 h2).cast fun i=>?_))
  show f i-g i=nth xs i-nth ys i-(nth xs i-f i)+1*(nth ys i-g i)
  omega
theorem member_iff {l:List (List Int)} {xs:List Int} {rows:Lt} {f:V} (h:RedV l xs rows f):((List.range xs.length).all fun i=>decide (f i=0))=true↔InL l (nth xs):=by
 have h1:=(h.gen _).1 h.rest
 rw [List.all_eq_true]
 constructor
 ·intro k
  refine h1.cast fun i=>?_
  rcases Nat.lt_or_ge i xs.length with h2|h2
  ·have:=of_decide_eq_true (k i (List.mem_range.2 h2));omega
  ·rw [h.high i h2];omega
 ·intro hx i _
  have h2:f=fun _=>0:=h.ech.unique h.least (least_zero h.ech) ((h.gen _).2 ((hx.sub h1).cast fun i=>by omega))
  exact decide_eq_true (by rw [h2])
theorem RedV.nth {l:List (List Int)} {xs:List Int} {rows:Lt} {f:V} (h:RedV l xs rows f) (hok:rowsOk l xs.length=true) (hls:listOk 1000 xs=true):nth (intsTo f xs.length xs.length)=f :=
 nth_ints h.high fun i=>by have:=left_small hok hls h i;omega
end
section
open Go.RowKit
open Lp (Lt V Ech pivots Gen From Least Piv fac sumZ gen_sum)
def Sol (F:Nat→V) (m n:Nat) (b x:V):Prop:=(∀ i,i<m→(sumZ n fun j=>F i j*x j)=b i)∧∀ i,n≤i→x i=0
end
section
open Go.RowKit Go.ChangeMaps
open Lp (Lt V Ech BdV Bd pivots lv cnt Gen From)
end
section
open Go.RowKit
theorem few_bd {x:Int} (h:x.natAbs<100000000000000000000000000000000000000000000000000):Few x:=by
 unfold Few
 refine Nat.le_trans (T.digits_len (k:=13) (Nat.lt_of_lt_of_le h (by decide))) (by decide)
theorem calm_rb (z:Int):Calm NoBlk fun v w=>RB w v z:=⟨fun v w w' h hb=>h.ext hb,fun v w w' p h hp hb=>hp.elim⟩
end
section
open Go.RowKit Go.ChangeMaps
def lessL (la lb:List Int) (q:Int):List Int:=(List.range la.length).map fun i=>nth la i-q*nth lb i
theorem lessL_len (la lb:List Int) (q:Int):(lessL la lb q).length=la.length:=by simp [lessL]
theorem lessL_nth (la lb:List Int) (q:Int) {i:Nat} (h:i<la.length):nth (lessL la lb q) i=nth la i-q*nth lb i:=by
 rw [nth_lt (by rw [lessL_len];exact h)];simp [lessL]
theorem wp_snocW {o:Oper} {a:Act} {K:Act→World→Prop} {Q:Exit→Act→World→Prop} {W:World} (s x:Operand)
 (ho:o.op=.call { callee:=.builtin .append,args:=#[s,x],argTypes:=#[118,118] }) {base g:Nat} {v:Value} {l:List Int} {q:Bool} {A:Option Addr} {L c:Nat} {z:Int} (hs:a.eval s=v)
 (hx:a.eval x=.slice (some ⟨g,0,none⟩) 1 1) (hown:OwnB W base v l) (hz:RB W (.agg #[.bool q,.slice A L c]) z) (hblk:Blk W g [.bool q,.slice A L c] 61) (hl:l.length≤1000) (hb:base≤W.heap.size)
 (h:∀ v' w',Hid (OwnB w' base v' (l ++ [z]))→Hid (∀ (B:Nat) (w0:World),Below B w0 W→B≤base→Below B w0 w')→K (a.put o.dst v') w'):o.wp Tryz.prog a W K Q:=by
 obtain ⟨v',w',hr,h1,h2,h3⟩:=run_snocB o.type hown hz hblk hl hb
 unfold Oper.wp execOp
 simp only [ho,resolve,invoke,builtin,Sem.run_bind,Sem.run_pure,Result.andThen_ok,List.map_toArray,List.map_cons,List.map_nil,hs,hx,hr]
 exact h v' w' (hid h1) (hid fun B w0 hB hBb=>hB.grown h2 (Nat.le_trans hBb hb) fun k hk=>Nat.le_trans hBb (h3 k hk))
def OneB (z:Int) (v:Value) (w:World):Prop:=∃ g q A L c,v=.slice (some ⟨g,0,none⟩) 1 1∧Blk w g [.bool q,.slice A L c] 61∧RB w (.agg #[.bool q,.slice A L c]) z
theorem oneB_calm (z:Int):Calm NoBlk (OneB z):=⟨fun v w w' ⟨g,q,A,L,c,h1,h2,h3⟩ hb=>⟨g,q,A,L,c,h1,h2.ext hb,h3.ext hb⟩,fun v w w' p h hp hb=>hp.elim⟩
set_option maxRecDepth 100000 in
set_option maxHeartbeats 2000000 in
theorem less_calls (A B:Option Addr) (ca cb:Nat) (la lb:List Int) (vq:Value) (q:Int) (w:World) (hA:BigsAt w A la) (hB:BigsAt w B lb) (hl:la.length≤lb.length) (h1000:lb.length≤1000) (hq:RB w vq q)
 (fq:Few q) (fa:∀ i,i<la.length→Few (nth la i)) (fb:∀ i,i<la.length→Few (nth lb i)) (fp:∀ i,i<la.length→Few (q*nth lb i)) :
 Calls Tryz.prog 142 #[.slice A la.length ca,.slice B lb.length cb,vq] w fun e w'=>∃ v,e=.returned v∧OwnB w' w.heap.size v (lessL la lb q)∧Below w.heap.size w w':=by
 obtain ⟨qs,Aq,Lq,cq,rfl,-,hRQ⟩:=hq.open2
 have HA:=hid hA;have HBB:=hid hB;have FQ:=hid fq;have FA:=hid fa;have FB:=hid fb;have FP:=hid fp
 clear hA hB fq fa fb fp hq
 have B0:=Blk.new w [.bool qs,.slice Aq Lq cq] 61
 have HB0:=hid B0
 clear B0
 go_enter Tryz.func142,Tryz.ntmps142
 go_wp2_with fail
 go_loopw [7,8] (fun v i wr=>∃ k:Nat,k≤la.length∧i=.int .i64 k∧OwnB wr (w.heap.size+1) v ((List.range k).map fun i=>nth la i-q*nth lb i)∧Below w.heap.size w wr∧Blk wr w.heap.size [.bool qs,.slice Aq Lq cq] 61) (fun _ i _=>la.length-(intOf i).toNat)
 case atStart=>exact ⟨0,Nat.zero_le _,rfl,OwnB.nil _ _,(Below.refl _ _).alloc (Nat.le_refl _) _,HB0.out⟩
 case round =>
  obtain ⟨k,hk,rfl,hown,hbe,B0⟩:=hrel
  have HB:=hid hbe;have HO:=hid hown;have HB1:=hid B0
  by_cases hlt:k<la.length
  ·have h1:(k:Int)<la.length:=by omega
   have h2:(k:Int)<lb.length:=by omega
   obtain ⟨b1,o1,qa,La,Ba,ka,rfl,g1,g2,hza⟩:=(HA.out.ext hbe) k hlt
   obtain ⟨b2,o2,qb,Lb,Bb,kb,rfl,g3,g4,hzb⟩:=(HBB.out.ext hbe) k (by omega)
   obtain ⟨a0,a1,-,-,-⟩:=Blk.two B0
   have HZA:=hid hza;have HZB:=hid hzb;have HZQ:=hid (hRQ.out.ext hbe)
   have HLT:Hid (((List.range k).map fun i=>nth la i-q*nth lb i).length≤1000):=hid (by simp;omega)
   have HK:=hid hlt
   have hs:=hbe.size
   clear hown hbe B0 hza hzb
   have HTI:=hid (fun (w2:World) (v1 v2:Value) (k1:RB w2 v1 q) (k2:RB w2 v2 (nth lb k))=>rTimes_calls v1 v2 q (nth lb k) w2 k1 k2 FQ.out (FB.out k hlt))
   have HMI:=hid (fun (w2:World) (v1 v2:Value) (k1:RB w2 v1 (nth la k)) (k2:RB w2 v2 (q*nth lb k))=>rMinus_calls v1 v2 (nth la k) (q*nth lb k) w2 k1 k2 (FA.out k hlt) (FP.out k hlt))
   have HRG:Hid ((List.range (k+1)).map (fun i=>nth la i-q*nth lb i)=(List.range k).map (fun i=>nth la i-q*nth lb i) ++ [nth la k-q*nth lb k]):=hid (by rw [List.range_succ,List.map_append];rfl)
   go_wp2_with fail
   refine wp_region_kc (w0:=wr) 13 [15,16,17,18,19,20,21,22,23,24,25,26,27]
    [.c u7,.c (.slice (some ⟨b1,o1,none⟩) la.length ca),.c (.int .i64 k),.c (.pointer (some ⟨b1,o1+k*2,none⟩)),.c (.agg #[.bool qa,.slice Ba La ka]),.c (.agg #[.bool qs,.slice Aq Lq cq]),.c (.slice (some ⟨b2,o2,none⟩) lb.length cb),.c (.int .i64 k),.c (.pointer (some ⟨b2,o2+k*2,none⟩)),.c (.agg #[.bool qb,.slice Bb Lb kb]),.l none (leaf1 · (fun v w=>RB w v (q*nth lb k))),.l none (leaf1 · (fun v w=>RB w v (nth la k-q*nth lb k))),.l none (leaf1 · (OneB (nth la k-q*nth lb k)))]
    [] NoBlk (by kernel_rfl) (by kernel_rfl) (by kernel_rfl) rfl (F:=?cFr5) ?r5c1 ?r5c2 ?r5c3 ?r5c4
   case r5c1 =>
    intro x
    simp only [fullC,Act.put,List.setIfInBounds_toArray,List.set_cons_zero,List.set_cons_succ]
    rfl
   case r5c2 =>
    exact ⟨keeps_calm (calm_rb (q*nth lb k)) _ _ _ _ _,keeps_calm (calm_rb (nth la k-q*nth lb k)) _ _ _ _ _,keeps_calm (oneB_calm _) _ _ _ _ _,trivial⟩
   case r5c3 =>
    refine ⟨?_,?_,?_,?_,?_,?_,?_,?_,?_,?_,?_,?_,?_,trivial⟩
    all_goals
     intro xx wq HE hd K hK
     have hc:=(bcell HE).1
     have a0':=(hc _ _ (cell_lt a0)).trans a0
     have a1':=(hc _ _ (cell_lt a1)).trans a1
     have g1':=(hc _ _ (cell_lt g1)).trans g1
     have g2':=(hc _ _ (cell_lt g2)).trans g2
     have g3':=(hc _ _ (cell_lt g3)).trans g3
     have g4':=(hc _ _ (cell_lt g4)).trans g4
     try have e4:xx 19=_:=hd 4 _ (by decide) rfl
     try have g10:=hd 10 _ (by decide) rfl
     try have g11:=hd 11 _ (by decide) rfl
     try have g12:=hd 12 _ (by decide) rfl
     have HE:=hid HE
     have HC:=hid hc
     clear hd hc
     all_goals go_simp
     try (refine hK _ _ _ (mv_const _ rfl) ?_;dsimp only [Act.put];first|done|rfl|(simp [*];done))
    ·refine (HTI.out wq _ _ (HZQ.out.ext HE.out) (HZB.out.ext HE.out)).mono ?_
     rintro e w3 ⟨v,rfl,h1,h2⟩
     exact hK _ _ _ (mv_plain h2 h1.rb rfl) (by first|(dsimp only [Act.put];done)|(dsimp only [Act.put];first|rfl|(simp [*];done)|(simp [*,ptr];done)))
    ·refine (HMI.out wq _ _ (HZA.out.ext HE.out) g10).mono ?_
     rintro e w3 ⟨v,rfl,h1,h2⟩
     exact hK _ _ _ (mv_plain h2 h1.rb rfl) (by first|(dsimp only [Act.put];done)|(dsimp only [Act.put];first|rfl|(simp [*];done)|(simp [*,ptr];done)))
    ·obtain ⟨q4,A4,L4,c4,e4,-,hz4⟩:=RB.open2 g11
     rw [e4]
     go_simp
     exact hK _ _ _ (mv_plain ((Below.refl _ _).alloc (Nat.le_refl _) _) ⟨_,_,_,_,_,rfl,Blk.new _ _ _,hz4.out.ext ((Below.refl _ _).alloc (Nat.le_refl _) _)⟩ rfl) (by first|(dsimp only [Act.put];done)|(dsimp only [Act.put];first|rfl|(simp [*];done)|(simp [*,ptr];done)))
   case r5c4 =>
    intro xx wz hE hG hA
    have g10:=hG 10 _ rfl
    have g11:=hG 11 _ rfl
    have g12:=hG 12 _ rfl
    obtain ⟨g,q4,A4,L4,c4,e12,hg1,hg2⟩:=g12
    have HO4:=hid (HO.out.ext hE)
    have HEW:=hid (hE.mono (show w.heap.size+1≤wr.heap.size from HB1.out.lt))
    have HG1:=hid hg1;have HG2:=hid hg2;have HBZ:=hid (HB.out.trans (hE.mono HB.out.size))
    have hsz:=HBZ.out.size
    have hsz2:w.heap.size+1≤wz.heap.size:=Nat.le_trans HB1.out.lt hE.size
    clear hG hA hE hg1 hg2 HB HO
    refine tail_one (i:=13) (by kernel_rfl) rfl ?_
    intro K hK
    rw [if_pos (by rfl)]
    refine wp_snocW (.tmp 15) (.tmp 27) rfl rfl e12 HO4.out HG2.out HG1.out HLT.out (by omega) ?_
    intro v' w5 ho hb5
    have HB5:=hid (hb5.out _ _ HBZ.out (by omega))
    have HO5:Hid (OwnB w5 (w.heap.size+1) v' ((List.range (k+1)).map fun i=>nth la i-q*nth lb i)):=hid (by rw [HRG.out];exact ho.out)
    have HC5:Hid (Blk w5 w.heap.size [.bool qs,.slice Aq Lq cq] 61):=hid (Blk.below HB1.out (hb5.out (w.heap.size+1) _ HEW.out (Nat.le_refl _)) (by omega))
    clear ho hb5 HBZ
    refine hK _ _ ?_
    (refine tail_one (i:=14) (by kernel_rfl) rfl ?_;intro K hK;go_simp;refine hK _ _ ?_;clear hK)
    refine wpAny_done (by kernel_rfl) ?_ _
    simp only [Exit.inBlock,Exit.then]
    go_wp2
    go_roundw
    case rel=>exact ⟨k+1,by omega,by go_num,HO5.out,HB5.out,HC5.out⟩
    case measure=>simp [intOf];omega
  ·obtain rfl:k=la.length:=by omega
   clear hown hbe B0
   go_wp2
   go_ret
   exact ⟨_,rfl,HO.out.mono (by omega),HB.out⟩
end
section
theorem flr_res (a b:Int) (hb:b≠0):(a-flr a b*b).natAbs<b.natAbs∧(0<b→0≤a-flr a b*b)∧(b<0→a-flr a b*b≤0):=by
 unfold flr
 by_cases h:b<0
 ·rw [if_pos h]
  have e1:=Int.emod_nonneg (-a) (show -b≠0 by omega)
  have e2:=Int.emod_lt_of_pos (-a) (show 0 < -b by omega)
  have e3:=Int.emod_def (-a) (-b)
  have e4 : -b*(-a / -b) = -((-a / -b)*b):=by rw [Int.neg_mul,Int.mul_comm]
  rw [e4] at e3
  refine ⟨by omega,by omega,by omega⟩
 ·rw [if_neg h]
  have e1:=Int.emod_nonneg a hb
  have e2:=Int.emod_lt_of_pos a (show 0<b by omega)
  have e3:=Int.emod_def a b
  rw [Int.mul_comm] at e3
  refine ⟨by omega,by omega,by omega⟩
theorem flr_bd (a b:Int) (hb:b≠0):(flr a b).natAbs*b.natAbs≤a.natAbs+b.natAbs:=by
 have h1:=(flr_res a b hb).1
 rw [←Int.natAbs_mul]
 omega
theorem flr_le (a b:Int) (hb:b≠0):(flr a b).natAbs≤a.natAbs+1:=by
 have h1:=flr_bd a b hb
 have h2:1≤b.natAbs:=by omega
 refine Classical.byContradiction fun hn=>?_
 have h3:(a.natAbs+2)*b.natAbs≤(flr a b).natAbs*b.natAbs:=Nat.mul_le_mul_right _ (by omega)
 have h4:a.natAbs≤a.natAbs*b.natAbs:=Nat.le_mul_of_pos_right _ h2
 rw [Nat.add_mul] at h3
 omega
theorem flr_same (a b:Int) (hb:b≠0) (h:(0≤a∧0<b)∨(a≤0∧b<0)):(flr a b).natAbs*b.natAbs≤a.natAbs∧(a-flr a b*b).natAbs+(flr a b).natAbs*b.natAbs=a.natAbs:=by
 have h1:=flr_res a b hb
 rw [←Int.natAbs_mul]
 have hq:0≤flr a b:=by
  unfold flr
  rcases h with ⟨h2,h3⟩|⟨h2,h3⟩
  ·rw [if_neg (by omega)];exact Int.ediv_nonneg h2 (by omega)
  ·rw [if_pos h3];exact Int.ediv_nonneg (by omega) (by omega)
 rcases h with ⟨h2,h3⟩|⟨h2,h3⟩
 ·have h4:0≤flr a b*b:=Int.mul_nonneg hq (by omega)
  have:=h1.2.1 h3
  omega
 ·have h4:flr a b*b≤0:=Int.mul_nonpos_of_nonneg_of_nonpos hq (by omega)
  have:=h1.2.2 h3
  omega
def RowBd (M:Nat) (l:List Int):Prop:=∀ i,(nth l i).natAbs≤M
theorem RowBd.mono {M N:Nat} {l:List Int} (h:RowBd M l) (hl:M≤N):RowBd N l:=fun i=>Nat.le_trans (h i) hl
theorem nth_out {l:List Int} {i:Nat} (h:l.length≤i):nth l i=0:=by unfold nth;simp [h]
theorem lessL_bd {la lb:List Int} {q:Int} {M N Q:Nat} (ha:RowBd M la) (hb:RowBd N lb) (hq:q.natAbs≤Q):RowBd (M+Q*N) (lessL la lb q):=fun i=>by
 by_cases h:i<la.length
 ·rw [lessL_nth la lb q h]
  have h1:=ha i
  have h2:(q*nth lb i).natAbs≤Q*N:=by rw [Int.natAbs_mul];exact Nat.mul_le_mul hq (hb i)
  omega
 ·rw [nth_out (by rw [lessL_len];omega)];simp
theorem round_bd {B P m q:Nat} (hm:0<m) (hmp:m≤P) (hq:q*m≤P):(B+q*B)*m≤2*(B*P):=by
 have h1:q*B*m≤P*B:=by rw [Nat.mul_right_comm];exact Nat.mul_le_mul_right _ hq
 have h2:B*m≤B*P:=Nat.mul_le_mul_left _ hmp
 rw [Nat.add_mul,Nat.mul_comm P B] at *
 omega
theorem pot_step {B P m B' m' E:Nat} (hE:B*(P*(P*m))≤E) (hB:B'*m≤2*(B*P)) (hm:2*m'≤P):B'*(m*(m*m'))≤E:=by
 have h1:B'*(m*(m*m'))=(B'*m)*(m*m'):=by rw [Nat.mul_assoc]
 have h2:(B'*m)*(m*m')≤2*(B*P)*(m*m'):=Nat.mul_le_mul_right _ hB
 have h3:2*(B*P)*(m*m')=B*(P*((2*m')*m)):=by grind
 have h4:B*(P*((2*m')*m))≤B*(P*(P*m)):=Nat.mul_le_mul_left _ (Nat.mul_le_mul_left _ (Nat.mul_le_mul_right _ hm))
 omega
theorem first_bd {M m q:Nat} (hm:0<m) (hmM:m≤M) (hq:q*m≤M+m):(M+q*M)*m≤3*(M*M):=by
 have h1:q*M*m≤(M+m)*M:=by rw [Nat.mul_right_comm];exact Nat.mul_le_mul_right _ hq
 have h2:M*m≤M*M:=Nat.mul_le_mul_left _ hmM
 rw [Nat.add_mul] at *
 rw [Nat.mul_comm m M] at h1
 omega
end
end Go.Proofs.YtkljafmdbajfeaaGreatDoor
