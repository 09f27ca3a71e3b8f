/- The row LinearKronecker. -/
import Derived.Test.YtkljafmdbajfeaaGreatDoorNoB38
import Derived.Test.YtkljafmdbajfeaaGreatDoorNoB47
namespace Go.Proofs.YtkljafmdbajfeaaGreatDoor
set_option linter.unusedVariables false
set_option linter.unusedSimpArgs false
open Go.Lib (hid)
section
open Go.RowKit
open Lp (Lt V Ech pivots Gen From Least sumZ)
theorem ints_fl {f:V} {n:Nat} (h:∀ i,(f i).natAbs≤4000000000000000000):intsTo f n n=flN f n:=by
 unfold intsTo flN
 exact List.map_congr_left fun i hi=>by rw [if_pos (List.mem_range.1 hi),wrap64_big (h i)]
theorem isZ_calm (B m:Nat):Calm NoBlk fun v w=>∃ z,v=.slice (some ⟨z,0,none⟩) m m∧B≤z∧IBlk w z (zeros m):=⟨fun v w w' ⟨g,h1,h2,h3⟩ hb=>⟨g,h1,h2,Blk.ext h3 hb⟩,fun v w w' p h hp hb=>hp.elim⟩
theorem zerosL_ok (m:Nat):listOk 1000 (zeros m)=true:=by
 unfold listOk zeros
 rw [List.all_eq_true]
 intro x hx
 rw [List.eq_of_mem_replicate hx];rfl
set_option maxRecDepth 100000 in
set_option maxHeartbeats 8000000 in
theorem kron_row (A B Y Z:Option Addr) (ca cb cy cz:Nat) (l:List (List Int)) (b ys ts:List Int) (k d:Int) (w:World) (hA:Grid w A l) (hB:Ints w B b) (hY:Ints w Y ys) (hZ:Ints w Z ts)
 (hl:l.length≤maxLen) (hr:∀ r∈l,r.length≤maxLen) (hm:b.length≤maxLen) (hy:ys.length≤maxLen) (hz:ts.length≤maxLen) (hT:TabOk 0 costsO w) :
 Calls Tryz.prog 13 #[.slice A l.length ca,.slice B b.length cb,.int .i64 k,.agg #[.slice Y ys.length cy,.int .i64 d],.slice Z ts.length cz] w fun e w'=>e=.returned (.bool true)∧Below w.heap.size w w':=by
 obtain ⟨w0,hw0⟩:∃ w0,w.alloc (.cells #[.slice Y ys.length cy,.int .i64 d] 29 (0,0))=w0:=⟨_,rfl⟩
 have b0:Blk w0 w.heap.size [.slice Y ys.length cy,.int .i64 d] 29:=by rw [←hw0];exact Blk.new _ _ _
 have e0:Below w.heap.size w w0:=by rw [←hw0];exact (Below.refl _ _).alloc (Nat.le_refl _) _
 have HF:=hid (few_calls A B ca cb l b w0 (hA.ext e0) hl hr hm)
 have HAL:=hid (fun W (hb:Below w0.heap.size w0 W)=>alive_calls W ((hT.ext e0).ext hb))
 have HSL:=hid (solL_any A B ca cb l b k w0 (hA.ext e0) (hB.ext e0) hl hr hm)
 have HA:=hid (hA.ext e0);have HB:=hid (hB.ext e0);have HY:=hid (hY.ext e0);have HZ:=hid (hZ.ext e0)
 have HL:=hid hl;have HR:Hid (∀ r∈l,r.length≤maxLen):=hid hr;have HM:=hid hm;have HYL:=hid hy;have HZL:=hid hz
 have HB0:=hid b0;have HE0:=hid e0;have HW0:=hid hw0
 have hl':=hl;unfold maxLen at hl'
 have hy':=hy;unfold maxLen at hy'
 have hz':=hz;unfold maxLen at hz'
 clear hA hB hY hZ hl hr hm hy hz hT b0 e0 hw0
 go_enter Tryz.func13,Tryz.ntmps13
 go_wp2_with fail
 obtain ⟨yp,hyp⟩:∃ yp,w.heap.size=yp:=⟨_,rfl⟩
 have HYP:=hid hyp
 rw [hyp] at HB0
 rw [HW0.out,hyp]
 clear hyp
 have k0:=HB0.out.cell 0 (by simp)
 simp only [List.getElem_cons_zero] at k0
 have hend:∀ W,Below w0.heap.size w0 W→Below w.heap.size w W:=fun W hW=>HE0.out.trans (hW.mono HE0.out.size)
 have HEND:=hid hend
 clear hend
 obtain ⟨fw,hfw⟩:∃ fw,fewB l b=fw:=⟨_,rfl⟩
 rw [hfw] at HF
 clear hfw
 by_cases hgo:fw=true∧ys.length≤30∧ts.length≤30
 ·obtain ⟨rfl,hy3,hz3⟩:=hgo
  have hy31:¬ (30:Int)<(ys.length:Int):=by omega
  have hz31:¬ (30:Int)<(ts.length:Int):=by omega
  refine HF.out.mono ?_;rintro e w1 ⟨rfl,e1⟩;rw [e1];clear e1
  clear HF
  go_wp2_with fail
  refine HSL.out.mono ?_;rintro e w2 ⟨hb2,h2⟩
  have HB2:=hid hb2
  have HRU:=hid (refu_any A B ca cb l b k w2 (HA.out.ext hb2) (HB.out.ext hb2) HL.out HR.out HM.out)
  have HREF:=hid (fun W (hb:Below w0.heap.size w0 W)=>refutesL_calls A B Y ca cb cy l b ys d k W (HA.out.ext hb) (HB.out.ext hb) (HY.out.ext hb) HL.out HR.out HM.out HYL.out)
  clear hb2 HSL k0
  rcases h2 with ⟨hok,rfl⟩|⟨hok,rc,rn,hsv,h2⟩
  ·have HRF:Hid (refutesS l b k ys d=false):=hid (by unfold refutesS;rw [hok];rfl)
   have HOK:=hid hok
   clear hok
   go_wp2_with fail
   refine HRU.out.mono ?_;rintro e w3 ⟨hb3,h3⟩
   have HB3:=hid (HB2.out.trans (hb3.mono HB2.out.size))
   clear hb3 HRU HB2
   rcases h3 with ⟨-,rfl⟩|⟨hok2,-⟩
   ·unfold nilPt
    go_upto_region 5 with (fail)
    obtain ⟨w4,hw4⟩:∃ w4,w3.alloc (.cells #[.slice none 0 0,.int .i64 0] 29 (0,0))=w4:=⟨_,rfl⟩
    have HB4:Hid (Below w0.heap.size w0 w4):=hid (by rw [←hw4];exact HB3.out.trans ((Below.refl _ _).alloc HB3.out.size _))
    rw [hw4]
    clear hw4 HB3
    have k0:=(HB0.out.ext HB4.out).cell 0 (by simp)
    have k1:=(HB0.out.ext HB4.out).cell 1 (by simp)
    simp only [List.getElem_cons_zero,List.getElem_cons_succ] at k0 k1
    have hrf:=HREF.out w4 HB4.out
    rw [HRF.out] at hrf
    have HRF4:=hid hrf
    clear hrf HREF
    go_wp2_with fail
    refine HRF4.out.mono ?_;rintro e w5 ⟨rfl,hb5⟩
    have HB5:=hid (HB4.out.trans (hb5.mono HB4.out.size))
    clear hb5 HRF4 k0 k1
    have HAL5:=hid (HAL.out w5 HB5.out)
    go_wp2_with fail
    refine HAL5.out.mono ?_;rintro e w6 ⟨rfl,hb6⟩
    have HBZ:=hid (HEND.out w6 (HB5.out.trans (hb6.mono HB5.out.size)))
    clear hb6
    go_wp2
    go_ret
    exact ⟨rfl,HBZ.out⟩
   ·rw [HOK.out] at hok2;cases hok2
  ·obtain ⟨hok1,hlen,hls⟩:=okS_in hok
   obtain ⟨n,rfl,hn1,hn6,hro⟩:=okN_nat hok1
   rw [Int.toNat_natCast] at hsv h2
   have HOK:=hid hok;have HOK1:=hid hok1;have HLEN:=hid hlen;have HLS:=hid hls;have HRO:=hid hro;have HSV:=hid hsv
   have hl6:=(rowsOk_in hro).2.2.1
   clear hok hok1 hlen hls hro hsv
   rcases h2 with ⟨rfl,hno⟩|⟨g0,x,rfl,hg0,hI0,hsol,hle⟩
   ·have HNO:Hid (∀ x,¬ Sol (gridF l) l.length n (nth b) x):=hid hno
    clear hno
    go_wp2_with fail
    refine HRU.out.mono ?_;rintro e w3 ⟨hb3,h3⟩
    have HB3:=hid (HB2.out.trans (hb3.mono HB2.out.size))
    clear hb3 HRU HB2
    rcases h3 with ⟨hok2,-⟩|⟨-,⟨⟨x,hx⟩,-⟩|⟨-,g,xs,dd,rfl,hg,hI,hpt⟩⟩
    ·rw [HOK.out] at hok2;cases hok2
    ·rw [Int.toNat_natCast] at hx;exact absurd hx (HNO.out x)
    ·have HI:=hid hI;have HPT:=hid hpt
     clear hI hpt
     go_upto_region 5 with (fail)
     obtain ⟨zp,hzp⟩:∃ zp,w3.heap.size=zp:=⟨_,rfl⟩
     obtain ⟨w4,hw4⟩:∃ w4,w3.alloc (.cells #[.slice (some ⟨g,0,none⟩) l.length l.length,.int .i64 dd] 29 (0,0))=w4:=⟨_,rfl⟩
     have HZB:Hid (Blk w4 zp [.slice (some ⟨g,0,none⟩) l.length l.length,.int .i64 dd] 29):=hid (by rw [←hw4,←hzp];exact Blk.new _ _ _)
     have HA4:Hid (Below w3.heap.size w3 w4):=hid (by rw [←hw4];exact (Below.refl _ _).alloc (Nat.le_refl _) _)
     rw [hw4,hzp]
     clear hw4 hzp
     have HB4:=hid (HB3.out.trans (HA4.out.mono HB3.out.size))
     have k0:=HZB.out.cell 0 (by simp)
     have k1:=HZB.out.cell 1 (by simp)
     simp only [List.getElem_cons_zero,List.getElem_cons_succ] at k0 k1
     have hrf:=refutesL_calls A B (some ⟨g,0,none⟩) ca cb l.length l b xs dd n w4 (HA.out.ext HB4.out) (HB.out.ext HB4.out) (IBlk.ints (Blk.ext HI.out HA4.out)) HL.out HR.out HM.out (by rw [HPT.out.len];exact HL.out)
     rw [refutes_true HOK.out HPT.out,HPT.out.len] at hrf
     have HRF4:=hid hrf
     clear hrf HREF HB3
     go_wp2_with fail
     refine HRF4.out.mono ?_;rintro e w5 ⟨rfl,hb5⟩
     have HB5:=hid (HB4.out.trans (hb5.mono HB4.out.size))
     clear hb5 HRF4 k0 k1
     have HAL5:=hid (HAL.out w5 HB5.out)
     go_wp2_with fail
     refine HAL5.out.mono ?_;rintro e w6 ⟨rfl,hb6⟩
     have HBZ:=hid (HEND.out w6 (HB5.out.trans (hb6.mono HB5.out.size)))
     clear hb6
     go_wp2
     go_ret
     exact ⟨rfl,HBZ.out⟩
   ·have HSOL:=hid hsol;have HLE:=hid hle;have HI0:=hid hI0
    have HRF:Hid (refutesS l b n ys d=false):=hid (refutes_false (x:=x) (by rw [Int.toNat_natCast];exact hsol))
    have hsmall:=HSV.out.small (fun i hi=>nth_b1000 HLS.out i) hsol hle
    have HSM:Hid (∀ c,(x c).natAbs≤3149280000000000):=hid hsmall
    clear hsol hle hI0 hsmall
    go_wp2_with fail
    refine HRU.out.mono ?_;rintro e w3 ⟨hb3,h3⟩
    have HI3:=hid (HI0.out.ext hb3)
    have HB3:=hid (HB2.out.trans (hb3.mono HB2.out.size))
    clear hb3 HRU HI0 HB2
    rcases h3 with ⟨hok2,-⟩|⟨-,⟨-,rfl⟩|⟨hno,-⟩⟩
    ·rw [HOK.out] at hok2;cases hok2
    ·unfold nilPt
     go_upto_region 5 with (fail)
     obtain ⟨w4,hw4⟩:∃ w4,w3.alloc (.cells #[.slice none 0 0,.int .i64 0] 29 (0,0))=w4:=⟨_,rfl⟩
     have HA4:Hid (Below w3.heap.size w3 w4):=hid (by rw [←hw4];exact (Below.refl _ _).alloc (Nat.le_refl _) _)
     rw [hw4]
     clear hw4
     have HB4:=hid (HB3.out.trans (HA4.out.mono HB3.out.size));have HI4:=hid (HI3.out.ext HA4.out)
     have HKN:=hid (kern_any A ca l n w4 (HA.out.ext HB4.out) HL.out HR.out)
     clear HB3 HI3 HA4
     go_wp2_with fail
     refine HKN.out.mono ?_;rintro e w5 ⟨KA,kc,h,er,rfl,hgn,hb5,hko⟩
     rcases hko with ⟨hkf,-⟩|⟨-,rfl,rc2,rn2,hsv2,rfl⟩
     ·rw [HOK1.out] at hkf;cases hkf
     ·rw [Int.toNat_natCast] at hsv2 hgn ⊢
      have hsm2:∀ q r,rn2 q=some r→∀ c,(r c).natAbs≤3149280000000:=fun q r h c=>hsv2.smallN h c
      have HSM2:Hid (∀ q r,rn2 q=some r→∀ c,(r c).natAbs≤3149280000000):=hid hsm2
      have HSV2:=hid hsv2
      have hg0lt:g0<w4.heap.size:=HI4.out.lt
      have HB5:=hid (HB4.out.trans (hb5.mono HB4.out.size))
      have hi5:IBlk w5 g0 (flN x n):=by
       rw [←ints_fl (f:=x) fun i=>by have:=HSM.out i;omega]
       exact Blk.ext HI4.out hb5
      have HI5:=hid hi5
      have HME:Hid (∀ W f,Below w0.heap.size w0 W→IBlk W g0 (flN f n)→Sol (gridF l) l.length n (nth b) f→(∀ c,(f c).natAbs≤9000000000000000000)→Calls Tryz.prog 63 #[.slice A l.length ca,.slice B b.length cb,.slice (some ⟨g0,0,none⟩) n n] W fun e w'=>e=.returned (.bool true)∧Below W.heap.size W w'):=hid fun W f hW hI hs hf=>by
       have:=meets_calls A B (some ⟨g0,0,none⟩) ca cb n n l b (flN f n) W (HA.out.ext hW) (HB.out.ext hW) hI.ints HRO.out HLEN.out HLS.out (flN_len _ _) (fun i hi=>by rw [flN_nth hi];have:=hf i;omega) (fun i hi=>by rw [←hs.1 i hi];exact sumZ_congr fun j hj=>by rw [flN_nth hj])
       rw [flN_len] at this;exact this
      obtain ⟨KL,hKK⟩:∃ KL,(formL rn2 n).length=KL:=⟨_,rfl⟩
      have hK6:KL≤6:=by rw [←hKK,show (formL rn2 n).length=(pivots rn2 n).length by unfold formL rowsOf;simp];exact Nat.le_trans (pivots_le rn2 n) hn6
      have HGN:Hid (GridN w4.heap.size w5 KA (formL rn2 n)):=hgn
      have HNR:Hid (∀ W,Below w5.heap.size w5 W→Calls Tryz.prog 39 #[.slice KA (formL rn2 n).length kc] W fun e w'=>e=.returned (.bool true)∧Below W.heap.size W w'):=hid fun W hW=>normal_rows KA kc n HSV2.out.echN HSV2.out.redN hn6 (fun q r h c=>by have:=HSM2.out q r h c;omega) W ((HGN.out.grid).ext hW)
      rw [hKK] at HNR ⊢
      have HKK:=hid hKK
      have k0:=(HB0.out.ext HB5.out).cell 0 (by simp)
      have k1:=(HB0.out.ext HB5.out).cell 1 (by simp)
      simp only [List.getElem_cons_zero,List.getElem_cons_succ] at k0 k1
      have hrf:=HREF.out w5 HB5.out
      rw [HRF.out] at hrf
      have HRF5:=hid hrf
      clear hrf HREF hsm2 hsv2 hgn hb5 hi5 hKK HKN HI4
      go_wp2_with fail
      refine HRF5.out.mono ?_;rintro e w6 ⟨rfl,hb6⟩
      have HB6:=hid (HB5.out.trans (hb6.mono HB5.out.size));have HC6:=hid hb6
      clear hb6 HRF5 k0 k1
      have HM6:=hid (HME.out w6 x HB6.out (Blk.ext HI5.out HC6.out) HSOL.out (fun c=>by have:=HSM.out c;omega))
      go_wp2_with fail
      refine HM6.out.mono ?_;rintro e w7 ⟨rfl,hb7⟩
      have HB7:=hid (HB6.out.trans (hb7.mono HB6.out.size));have HC7:=hid (HC6.out.trans (hb7.mono HC6.out.size))
      clear hb7 HM6 HB6 HC6
      have HN7:=hid (HNR.out w7 HC7.out)
      go_wp2_with fail
      refine HN7.out.mono ?_;rintro e w8 ⟨rfl,hb8⟩
      have HB8:=hid (HB7.out.trans (hb8.mono HB7.out.size));have HC8:=hid (HC7.out.trans (hb8.mono HC7.out.size))
      have HI8:Hid (IBlk w8 g0 (flN x n)):=hid (Blk.ext HI5.out HC8.out)
      have HG8:Hid (GridN w4.heap.size w8 KA (formL rn2 n)):=hid (HGN.out.fr (S:=fun k=>k=g0) (Fr.ofBelow HC8.out) fun k hk=>by omega)
      clear hb8 HN7 HB7 HC7 HGN HI5 HNR HB5
      have hmk:=fun w=>run_makeInts w l.length (by omega)
      go_wp2
      go_loopw [17] (fun ti wq=>∃ (i:Nat) (f:V),i≤KL∧ti=.int .i64 i∧Hid (IBlk wq g0 (flN f n))∧Hid (Sol (gridF l) l.length n (nth b) f)∧Hid (∀ c,(f c).natAbs≤3149280000000000*(i+1))∧Hid (Fr (fun k=>k=g0) w8 wq)∧Hid (Below w0.heap.size w0 wq)) (fun ti _=>KL-(intOf ti).toNat)
      case atStart=>exact ⟨0,x,Nat.zero_le _,rfl,HI8,HSOL,hid (fun c=>by have:=HSM.out c;omega),hid (Fr.refl _ _),HB8⟩
      case round =>
       clear HI8 HB8
       obtain ⟨i,f,hi,rfl,hIf,hSf,hbf,hfr,hbe⟩:=hrel
       by_cases hli:i<KL
       ·have hi1:(i:Int)<KL:=by omega
        obtain ⟨q,r,hq,hnr,hnt⟩:=formL_at HSV2.out.echN (fun q r h c=>by have:=HSM2.out q r h c;omega) (i:=i) (by rw [HKK.out];exact hli)
        obtain ⟨bK,oK,b',o',c',rfl,hBK,cK,hc',hb',hcells⟩:=(HG8.out.fr hfr.out fun k hk=>by omega) i (by rw [HKK.out];exact hli)
        have hnl:(nrow (formL rn2 n) i).length=n:=by rw [hnr,intsTo_len]
        rw [hnl] at cK hc' hcells
        rw [hnt] at hcells
        have hker:=(HSV2.out.genN r).1 (Gen.one ⟨q,Nat.zero_le _,hq⟩)
        have hrs:=HSM2.out q r hq
        have hIr:Ints wr (some ⟨b',o',none⟩) (flN r n):=fun j hj=>by
         rw [flN_len] at hj
         exact ⟨b',o',rfl,by rw [flN_nth hj];exact hcells j hj⟩
        have HMK:Hid (∀ W z,Below wr.heap.size wr W→IBlk W z (zeros l.length)→Calls Tryz.prog 63 #[.slice A l.length ca,.slice (some ⟨z,0,none⟩) l.length l.length,.slice (some ⟨b',o',none⟩) n c'] W fun e w'=>e=.returned (.bool true)∧Below W.heap.size W w'):=hid fun W z hW hz=>by
         have:=meets_calls A (some ⟨z,0,none⟩) (some ⟨b',o',none⟩) ca l.length c' n l (zeros l.length) (flN r n) W (HA.out.ext (hbe.out.trans (hW.mono hbe.out.size))) hz.ints (hIr.ext hW) HRO.out (zeros_len _) (zerosL_ok _) (flN_len _ _) (fun i hi=>by rw [flN_nth hi];have:=hrs i;omega) (fun i hi=>by rw [nth_zeros,←hker.1 i hi];exact sumZ_congr fun j hj=>by rw [flN_nth hj])
         rw [zeros_len,flN_len] at this;exact this
        have HKR:=hid hker;have HRS:Hid (∀ c,(r c).natAbs≤3149280000000):=hid hrs
        have HCL:Hid (∀ j,j<n→wr.cell? ⟨b',o'+j,none⟩=some (.int .i64 (r j))):=hid hcells
        clear hq hnr hnt hnl hker hrs hIr hcells
        go_wp2_with fail
        refine wp_region_keys (w0:=wr) 8 [125,126,127,128,129,130,131,132]
         [leafS 125 (.slice A l.length ca),leafS 126 (.slice A l.length ca),leafS 127 (.int .i64 l.length),leaf1 128 (fun v w=>∃ z,v=.slice (some ⟨z,0,none⟩) l.length l.length∧wr.heap.size≤z∧IBlk w z (zeros l.length)),leafS 129 (.slice (some ⟨bK,oK,none⟩) KL kc),leafS 130 (.int .i64 i),leafS 131 (.pointer (some ⟨bK,oK+i,none⟩)),leafS 132 (.slice (some ⟨b',o',none⟩) n c')]
         [] [none,none,none,none,none,none,none,none] NoBlk (by kernel_rfl) (by kernel_rfl) (by kernel_rfl) rfl (F:=?cFk15) ?k15c1 ?k15c2 ?k15c3 ?k15c4
        case k15c1 =>
         intro x
         simp only [fullF,Act.put,List.setIfInBounds_toArray,List.set_cons_zero,List.set_cons_succ]
         rfl
        case k15c2 =>
         exact ⟨keeps_const _ _ _ _ _ _ _,keeps_const _ _ _ _ _ _ _,keeps_const _ _ _ _ _ _ _,keeps_calm (isZ_calm _ _) _ _ _ _ _,keeps_const _ _ _ _ _ _ _,keeps_const _ _ _ _ _ _ _,keeps_const _ _ _ _ _ _ _,keeps_const _ _ _ _ _ _ _,trivial⟩
        case k15c3 =>
         refine ⟨?_,?_,?_,?_,?_,?_,?_,?_,trivial⟩
         all_goals
          intro xx wq HE hd K hK
          have hc:=(bcell HE).1
          have cK':=(hc _ _ (cell_lt cK)).trans cK
          try have e0:xx 125=_:=hd 0 _ (by decide) rfl
          try have e1:xx 126=_:=hd 1 _ (by decide) rfl
          try have e2:xx 127=_:=hd 2 _ (by decide) rfl
          try have g3:=hd 3 _ (by decide) rfl
          try have e4:xx 129=_:=hd 4 _ (by decide) rfl
          try have e5:xx 130=_:=hd 5 _ (by decide) rfl
          try have e6:xx 131=_:=hd 6 _ (by decide) rfl
          try have e7:xx 132=_:=hd 7 _ (by decide) rfl
          have HE:=hid HE
          have HC:=hid hc
          clear hd hc
          all_goals go_simp
          try (refine hK _ _ _ (mv_const _ rfl) ?_;dsimp only [Act.put];first|done|rfl|(simp [*];done))
         ·exact hK _ _ _ (mv_plain ((Below.refl _ _).alloc (Nat.le_refl _) _) ⟨_,rfl,HE.out.size,IBlk.made _ _⟩ rfl) (by first|(dsimp only [Act.put];done)|(dsimp only [Act.put];first|rfl|(simp [*];done)|(simp [*,ptr];done)))
        case k15c4 =>
         intro xx wz hE hG hA
         have e0:xx 125=_:=hG 0 _ rfl
         have e1:xx 126=_:=hG 1 _ rfl
         have e2:xx 127=_:=hG 2 _ rfl
         have g3:=hG 3 _ rfl
         have e4:xx 129=_:=hG 4 _ rfl
         have e5:xx 130=_:=hG 5 _ rfl
         have e6:xx 131=_:=hG 6 _ rfl
         have e7:xx 132=_:=hG 7 _ rfl
         obtain ⟨z,e128,hzw,hzi⟩:=g3
         have HMZ:=hid (HMK.out wz z hE hzi)
         have HE:=hid hE
         clear hG hA hE hzi
         refine tail_one (i:=8) (by kernel_rfl) rfl ?_
         intro K hK
         go_simp
         refine HMZ.out.mono ?_;rintro e w9 ⟨rfl,hb9⟩
         refine hK _ _ ?_
         have HE9:=hid (HE.out.trans (hb9.mono HE.out.size))
         clear hK hb9 HMZ HE
         (refine tail_one (i:=9) (by kernel_rfl) rfl ?_;intro K hK;go_simp;refine hK _ _ ?_;clear hK)
         refine wpAny_done (by kernel_rfl) ?_ _
         simp only [Exit.inBlock,Exit.then]
         have hsz:=hbe.out.size
         have hg0r:g0<wr.heap.size:=hIf.out.lt
         have HI9:Hid (IBlk w9 g0 (flN f n)):=hid (Blk.ext hIf.out HE9.out)
         have HB9:=hid (hbe.out.trans (HE9.out.mono hsz))
         have HF9:=hid (hfr.out.trans (Fr.ofBelow HE9.out))
         have HC9:Hid (∀ j,j<n→w9.cell? ⟨b',o'+j,none⟩=some (.int .i64 (r j))):=hid fun j hj=>(HE9.out.cell (p:=⟨b',o'+j,none⟩) (cell_lt (HCL.out j hj))).trans (HCL.out j hj)
         have HK9:Hid (w9.cell? ⟨bK,oK+i,none⟩=some (.slice (some ⟨b',o',none⟩) n c')):=hid ((HE9.out.cell (p:=⟨bK,oK+i,none⟩) (cell_lt cK)).trans cK)
         clear HE9 hIf hbe hfr HCL cK HMK hg0r
         go_upto_if 138 with (fail)
         go_cut [18] (fun s wx=>∃ tv:Int,s=.int .i64 tv∧Hid (tv.natAbs≤999)∧wx=w9)
         case first =>
          by_cases hit:i<ts.length
          ·have hit1:(i:Int)<ts.length:=by omega
           obtain ⟨b7,o7,rfl,c7⟩:=((HZ.out.ext HB9.out)) i hit
           obtain ⟨tt,htt⟩:∃ tt,nth ts i=tt:=⟨_,rfl⟩
           rw [htt] at c7
           have htm:(tt.tmod 1000).natAbs≤999:=by
            rw [Int.natAbs_tmod]
            have:=Nat.mod_lt tt.natAbs (show 0<(1000:Int).natAbs by decide)
            have e:(1000:Int).natAbs=1000:=rfl
            omega
           have HTM:=hid htm
           clear htt htm
           go_wp2
           go_meet
           exact ⟨_,rfl,HTM,rfl⟩
          ·have hit1:¬ ((i:Int)<ts.length):=by omega
           go_wp2
           go_meet
           exact ⟨0,rfl,hid (by decide),rfl⟩
         case rest =>
          obtain ⟨tv,rfl,htv,rfl⟩:=hcut
          go_wp2
          go_loopw [19] (fun tj wq=>∃ (j:Nat),j≤n∧tj=.int .i64 j∧Hid (IBlk wq g0 (flN (fun c=>if c<j then f c+tv*r c else f c) n))∧Hid (But g0 wc wq)) (fun tj _=>n-(intOf tj).toNat)
          case atStart=>exact ⟨0,Nat.zero_le _,rfl,hid (by rw [flN_congr (g:=f) fun c _=>by rw [if_neg (by omega)]];exact HI9.out),hid (But.refl _ _)⟩
          case round =>
           obtain ⟨j,hj,rfl,hIj,hbj⟩:=hrel
           by_cases hlj:j<n
           ·have hj1:(j:Int)<n:=by omega
            have hxc:=hIj.out.cell j (by rw [flN_len];exact hlj)
            rw [flN_nth hlj,if_neg (Nat.lt_irrefl j)] at hxc
            have hbne:b'≠g0:=by omega
            have hKne:bK≠g0:=by omega
            have hrc:=(World.cell?_of_block (a:=⟨b',o'+j,none⟩) (hbj.out.block b' (cell_lt (HC9.out j hlj)) hbne)).trans (HC9.out j hlj)
            have hkc:=(World.cell?_of_block (a:=⟨bK,oK+i,none⟩) (hbj.out.block bK (cell_lt HK9.out) hKne)).trans HK9.out
            have h1:=hbf.out j
            have h2:=HRS.out j
            have h3:=htv.out
            have h4:(tv*r j).natAbs≤999*3149280000000:=by rw [Int.natAbs_mul];exact Nat.mul_le_mul h3 h2
            have h5:3149280000000000*(i+1)≤3149280000000000*7:=Nat.mul_le_mul_left _ (by omega)
            obtain ⟨xj,hxj⟩:∃ z,f j=z:=⟨_,rfl⟩
            obtain ⟨rj,hrj⟩:∃ z,r j=z:=⟨_,rfl⟩
            obtain ⟨p1,hp1⟩:∃ z,tv*rj=z:=⟨_,rfl⟩
            obtain ⟨p2,hp2⟩:∃ z,xj+p1=z:=⟨_,rfl⟩
            rw [hxj] at hxc h1
            rw [hrj] at hrc h4
            rw [hp1] at h4
            have wm:IntKind.i64.wrap (tv*rj)=p1:=by rw [IntKind.wrap_i64,hp1];omega
            have wa:IntKind.i64.wrap (xj+p1)=p2:=by rw [IntKind.wrap_i64,hp2];omega
            have hset:Hid ((flN (fun c=>if c<j then f c+tv*r c else f c) n).set j p2=flN (fun c=>if c<j+1 then f c+tv*r c else f c) n):=hid (flN_set hlj (by show (if j<j+1 then f j+tv*r j else f j)=p2;rw [if_pos (by omega),hxj,hrj,hp1,hp2]) (fun c _ hne=>by
             show (if c<j+1 then f c+tv*r c else f c)=(if c<j then f c+tv*r c else f c)
             by_cases e:c<j
             ·rw [if_pos e,if_pos (by omega)]
             ·rw [if_neg e,if_neg (by omega)]))
            clear h1 h2 h3 h4 h5 hxj hrj hp1 hp2 hbne hKne
            go_wp2_with fail
            refine wp_region_keys (w0:=wr) 15 [149,150,151,152,153,154,155,156,157,158,159,160,161,162,163]
             [leafS 149 (.slice (some ⟨g0,0,none⟩) n n),leafS 150 (.int .i64 j),leafS 151 (.pointer (some ⟨g0,j,none⟩)),leafS 152 (.int .i64 xj),leafS 153 (.int .i64 tv),leafS 154 (.slice (some ⟨bK,oK,none⟩) KL kc),leafS 155 (.int .i64 i),leafS 156 (.pointer (some ⟨bK,oK+i,none⟩)),leafS 157 (.slice (some ⟨b',o',none⟩) n c'),leafS 158 (.int .i64 j),leafS 159 (.pointer (some ⟨b',o'+j,none⟩)),leafS 160 (.int .i64 rj),leafS 161 (.int .i64 p1),leafS 162 (.int .i64 p2),leafS 163 (.pointer (some ⟨g0,j,none⟩))]
             [] [none,none,none,none,none,none,none,none,none,none,none,none,none,none,none] NoBlk (by kernel_rfl) (by kernel_rfl) (by kernel_rfl) rfl (F:=?cFk23) ?k23c1 ?k23c2 ?k23c3 ?k23c4
            case k23c1 =>
             intro x
             simp only [fullF,Act.put,List.setIfInBounds_toArray,List.set_cons_zero,List.set_cons_succ]
             rfl
            case k23c2 =>
             exact ⟨keeps_const _ _ _ _ _ _ _,keeps_const _ _ _ _ _ _ _,keeps_const _ _ _ _ _ _ _,keeps_const _ _ _ _ _ _ _,keeps_const _ _ _ _ _ _ _,keeps_const _ _ _ _ _ _ _,keeps_const _ _ _ _ _ _ _,keeps_const _ _ _ _ _ _ _,keeps_const _ _ _ _ _ _ _,keeps_const _ _ _ _ _ _ _,keeps_const _ _ _ _ _ _ _,keeps_const _ _ _ _ _ _ _,keeps_const _ _ _ _ _ _ _,keeps_const _ _ _ _ _ _ _,keeps_const _ _ _ _ _ _ _,trivial⟩
            case k23c3 =>
             refine ⟨?_,?_,?_,?_,?_,?_,?_,?_,?_,?_,?_,?_,?_,?_,?_,trivial⟩
             all_goals
              intro xx wq HE hd K hK
              have hc:=(bcell HE).1
              have hxc':=(hc _ _ (cell_lt hxc)).trans hxc
              have hrc':=(hc _ _ (cell_lt hrc)).trans hrc
              have hkc':=(hc _ _ (cell_lt hkc)).trans hkc
              try have e0:xx 149=_:=hd 0 _ (by decide) rfl
              try have e1:xx 150=_:=hd 1 _ (by decide) rfl
              try have e2:xx 151=_:=hd 2 _ (by decide) rfl
              try have e3:xx 152=_:=hd 3 _ (by decide) rfl
              try have e4:xx 153=_:=hd 4 _ (by decide) rfl
              try have e5:xx 154=_:=hd 5 _ (by decide) rfl
              try have e6:xx 155=_:=hd 6 _ (by decide) rfl
              try have e7:xx 156=_:=hd 7 _ (by decide) rfl
              try have e8:xx 157=_:=hd 8 _ (by decide) rfl
              try have e9:xx 158=_:=hd 9 _ (by decide) rfl
              try have e10:xx 159=_:=hd 10 _ (by decide) rfl
              try have e11:xx 160=_:=hd 11 _ (by decide) rfl
              try have e12:xx 161=_:=hd 12 _ (by decide) rfl
              try have e13:xx 162=_:=hd 13 _ (by decide) rfl
              try have e14:xx 163=_:=hd 14 _ (by decide) rfl
              have HE:=hid HE
              have HC:=hid hc
              clear hd hc
              all_goals go_simp
              try (refine hK _ _ _ (mv_const _ rfl) ?_;dsimp only [Act.put];first|done|rfl|(simp [*];done))
            case k23c4 =>
             intro xx wz hE hG hA
             have e0:xx 149=_:=hG 0 _ rfl
             have e1:xx 150=_:=hG 1 _ rfl
             have e2:xx 151=_:=hG 2 _ rfl
             have e3:xx 152=_:=hG 3 _ rfl
             have e4:xx 153=_:=hG 4 _ rfl
             have e5:xx 154=_:=hG 5 _ rfl
             have e6:xx 155=_:=hG 6 _ rfl
             have e7:xx 156=_:=hG 7 _ rfl
             have e8:xx 157=_:=hG 8 _ rfl
             have e9:xx 158=_:=hG 9 _ rfl
             have e10:xx 159=_:=hG 10 _ rfl
             have e11:xx 160=_:=hG 11 _ rfl
             have e12:xx 161=_:=hG 12 _ rfl
             have e13:xx 162=_:=hG 13 _ rfl
             have e14:xx 163=_:=hG 14 _ rfl
             have hIz:IBlk wz g0 (flN (fun c=>if c<j then f c+tv*r c else f c) n):=Blk.ext hIj.out hE
             have hcz:=hIz.cell j (by rw [flN_len];exact hlj)
             have hfz:=Blk.free hIz j
             have hst:=hIz.set j p2
             rw [hset.out] at hst
             have HST:=hid hst
             have HBJ:=hid ((hbj.out.ext hE).set j (.int .i64 p2))
             clear hG hA hE hIz hst hIj hbj hset wm wa hxc hrc hkc
             (refine tail_one (i:=15) (by kernel_rfl) rfl ?_;intro K hK;go_simp;refine hK _ _ ?_;clear hK)
             refine wpAny_done (by kernel_rfl) ?_ _
             simp only [Exit.inBlock,Exit.then]
             clear hcz hfz
             go_wp2
             go_roundw
             case rel=>exact ⟨j+1,by omega,by go_num,HST,HBJ⟩
             case measure=>simp [intOf];omega
           ·obtain rfl:n=j:=by omega
            have hnj:¬ ((n:Int)<(n:Int)):=by omega
            have HIN:Hid (IBlk wr g0 (flN (fun c=>f c+tv*r c) n)):=hid (by rw [←flN_congr (f:=fun c=>if c<n then f c+tv*r c else f c) fun c hc=>by rw [if_pos hc]];exact hIj.out)
            have HSN:=hid (hSf.out.add HKR.out tv)
            have HBN:Hid (∀ c,(f c+tv*r c).natAbs≤3149280000000000*(i+1+1)):=hid fun c=>by
             have h1:=hbf.out c
             have h4:(tv*r c).natAbs≤999*3149280000000:=by rw [Int.natAbs_mul];exact Nat.mul_le_mul htv.out (HRS.out c)
             omega
            have HFN:Hid (Fr (fun k=>k=g0) w8 wr):=hid (HF9.out.trans ⟨hbj.out.os,hbj.out.tape,hbj.out.output,hbj.out.size,fun k hk hs=>hbj.out.block k hk hs⟩)
            have HBW:=hid (HB9.out.trans (hbj.out.below hg0 HB9.out.size))
            clear hIj hbj HI9 HF9 hSf hbf
            go_wp2
            go_roundw
            case rel=>exact ⟨i+1,_,by omega,by go_num,HIN,HSN,HBN,HFN,HBW⟩
            case measure=>simp [intOf];omega
       ·obtain rfl:KL=i:=by omega
        have hnl:¬ ((KL:Int)<(KL:Int)):=by omega
        have HM9:=hid (HME.out wr f hbe.out hIf.out hSf.out (fun c=>by have:=hbf.out c;omega))
        go_wp2_with fail
        refine HM9.out.mono ?_;rintro e w9 ⟨rfl,hb9⟩
        have HB9:=hid (hbe.out.trans (hb9.mono hbe.out.size))
        have HAL9:=hid (HAL.out w9 HB9.out)
        clear hb9
        go_wp2_with fail
        refine HAL9.out.mono ?_;rintro e w10 ⟨rfl,hb10⟩
        have HBZ:=hid (HEND.out w10 (HB9.out.trans (hb10.mono HB9.out.size)))
        clear hb10
        go_wp2
        go_ret
        exact ⟨rfl,HBZ.out⟩
    ·rw [Int.toNat_natCast] at hno;exact absurd HSOL.out (hno x)
 ·have HAL1:=hid (HAL.out w0 (Below.refl _ _))
  refine HF.out.mono ?_;rintro e w1 ⟨rfl,e1⟩;rw [e1];clear e1
  cases fw with
  | false =>
    clear HF hgo
    go_wp2_with fail
    refine HAL1.out.mono ?_;rintro e w2 ⟨rfl,hb2⟩
    have HBZ:=hid (HEND.out w2 hb2)
    clear hb2
    go_wp2
    go_ret
    exact ⟨rfl,HBZ.out⟩
  | true =>
    by_cases hy3:ys.length≤30
    ·have hy31:¬ (30:Int)<(ys.length:Int):=by omega
     have hz31:(30:Int)<(ts.length:Int):=by
      have:¬ ts.length≤30:=fun h=>hgo ⟨rfl,hy3,h⟩
      omega
     clear HF hgo
     go_wp2_with fail
     refine HAL1.out.mono ?_;rintro e w2 ⟨rfl,hb2⟩
     have HBZ:=hid (HEND.out w2 hb2)
     clear hb2
     go_wp2
     go_ret
     exact ⟨rfl,HBZ.out⟩
    ·have hy31:(30:Int)<(ys.length:Int):=by omega
     clear HF hgo
     go_wp2_with fail
     refine HAL1.out.mono ?_;rintro e w2 ⟨rfl,hb2⟩
     have HBZ:=hid (HEND.out w2 hb2)
     clear hb2
     go_wp2
     go_ret
     exact ⟨rfl,HBZ.out⟩
end
end Go.Proofs.YtkljafmdbajfeaaGreatDoor
