/- Package big: divide. -/
import Derived.Test.YtkljafmdbajfeaaGreatDoorNoH04
import Derived.Test.YtkljafmdbajfeaaGreatDoorNoH12
import Derived.Test.YtkljafmdbajfeaaGreatDoorNoH13
namespace Go.Proofs.YtkljafmdbajfeaaGreatDoor
set_option linter.unusedVariables false
set_option linter.unusedSimpArgs false
open Go.Lib (hid)
section
open Go.RowKit
theorem WSl.zero (w:World):WSl w (.slice none 0 0) 0:=⟨none,0,by rw [digits_zero];rfl,by rw [digits_zero];exact Nat.le_refl _,by omega,fun i hi=>by rw [digits_zero] at hi;simp at hi⟩
theorem WSl.drewN {w:World} {v:Value} {n:Nat} (h:WSl w v n) (k:Nat):WSl (w.drewN k) v n:=h.ext (drewN_below _ _)
structure DivAt (a os:List Nat) (y j r:Nat):Prop where
 len:os.length=a.length
 dig:Dig os
 lt:r<y
 value:val (a.drop j)=val (os.drop j)*y+r
theorem DivAt.start (a:List Nat) (y:Nat) (hy:0<y):DivAt a (List.replicate a.length 0) y a.length 0:=⟨by simp,Dig.zeros _,hy,by simp [val]⟩
theorem drop_set_self {l:List Nat} {i x:Nat} (h:i<l.length):(l.set i x).drop i=x :: l.drop (i+1):=by
 rw [List.drop_eq_getElem_cons (by simpa using h),List.getElem_set_self,List.drop_set_of_lt (by omega)]
theorem DivAt.step {a os:List Nat} {y j r:Nat} (h:DivAt a os y (j+1) r) (ha:Dig a) (hy:y<4294967296) (hj:j<a.length):(r*4294967296+nthd a j) / y<4294967296∧DivAt a (os.set j ((r*4294967296+nthd a j) / y)) y j ((r*4294967296+nthd a j) % y):=by
 have hr:=h.lt
 have hx:=ha.nth j
 have hq:(r*4294967296+nthd a j) / y<4294967296:=by
  rw [Nat.div_lt_iff_lt_mul (by omega),Nat.mul_comm]
  have:(r+1)*4294967296≤y*4294967296:=Nat.mul_le_mul_right _ hr
  omega
 refine ⟨hq,by rw [List.length_set];exact h.len,wdig_set h.dig j hq,Nat.mod_lt _ (by omega),?_⟩
 rw [drop_nthd hj,drop_set_self (by rw [h.len];exact hj)]
 simp only [val]
 have hv:=h.value
 have he:=Nat.div_add_mod (r*4294967296+nthd a j) y
 rw [hv,Nat.add_mul,Nat.mul_assoc,Nat.mul_add]
 rw [Nat.mul_comm y] at he
 omega
theorem DivAt.done {a os:List Nat} {y r:Nat} (h:DivAt a os y 0 r) (hy:0<y):val os=val a / y∧r=val a % y:=by
 have hv:=h.value
 rw [List.drop_zero,List.drop_zero] at hv
 have hr:=h.lt
 rw [hv]
 exact ⟨by rw [Nat.mul_comm,Nat.mul_add_div hy,Nat.div_eq_of_lt hr,Nat.add_zero],by rw [Nat.mul_comm,Nat.mul_add_mod,Nat.mod_eq_of_lt hr]⟩
set_option maxRecDepth 100000 in
set_option maxHeartbeats 1000000 in
theorem divide_lt (v u:Value) (n m:Nat) (w:World) (hlt:n<m) (hn:(digits n).length≤100000000) (hm:(digits m).length≤100000000) (hv:WSl w v n) (hu:WSl w u m) :
 Calls Tryz.prog 195 #[v,u] w fun e w'=>∃ v1 v2,e=.returned (.tuple #[v1,v2])∧WSl w' v1 (n / m)∧WSl w' v2 (n % m)∧Below w.heap.size w w':=by
 have hc:=compare_q v u n m w 0 hv hu
 rw [sgn_lt hlt] at hc
 have HC:=hid hc
 have hv0:=hv
 obtain ⟨A,c,rfl,-,-,-⟩:=hv0
 clear hc
 go_enter Tryz.func195,Tryz.ntmps195
 go_wp2_with fail
 refine HC.out.mono ?_;rintro e w1 ⟨rfl,k,rfl⟩
 go_wp2
 go_ret2
 exact ⟨_,_,rfl,by rw [Nat.div_eq_of_lt hlt];exact WSl.zero _,by rw [Nat.mod_eq_of_lt hlt];exact hv.drewN k,drewN_below w k⟩
set_option maxRecDepth 100000 in
set_option maxHeartbeats 1000000 in
theorem divide_small (v u:Value) (n m:Nat) (w:World) (h0:0<m) (hge:m≤n) (hn:n<18446744073709551616) (hv:WSl w v n) (hu:WSl w u m) :
 Calls Tryz.prog 195 #[v,u] w fun e w'=>∃ v1 v2,e=.returned (.tuple #[v1,v2])∧WSl w' v1 (n / m)∧WSl w' v2 (n % m)∧Below w.heap.size w w':=by
 have hc:=compare_q v u n m w 0 hv hu
 obtain ⟨S,hS⟩:∃ S,Hid (sgn n m=S):=⟨_,rfl⟩
 rw [hS.out] at hc
 have hS0:decide (S<0)=false:=by rw [←hS.out];unfold sgn;split<;>(try split)<;>first|rfl|omega
 have HC:=hid hc
 have hx:=fun w h=>small_yes n v w hn h
 have hy:=fun w h=>small_yes m u w (by omega) h
 have HX:=hid hx;have HY:=hid hy
 have hq:(n:Int) / m=((n / m:Nat):Int):=by rw [Int.natCast_ediv]
 have hr:(n:Int) % m=((n % m:Nat):Int):=by rw [Int.natCast_emod]
 have b1:n / m<18446744073709551616:=by have:=Nat.div_le_self n m;omega
 have b2:n % m<18446744073709551616:=by have:=Nat.mod_le n m;omega
 have hof:=fun x h w=>of_big x w h
 have HO:=hid hof
 have hm0:(0:Int)<m:=by omega
 have hn1:(n:Int)<18446744073709551616:=by omega
 have hm1:(m:Int)<18446744073709551616:=by omega
 have hv0:=hv;have hu0:=hu
 obtain ⟨A,c,rfl,-,-,-⟩:=hv0
 obtain ⟨B,d,rfl,-,-,-⟩:=hu0
 have HQ:=hid hq;have HR:=hid hr
 clear hc hx hy hof hq hr
 go_enter Tryz.func195,Tryz.ntmps195
 go_wp2_with fail
 refine HC.out.mono ?_;rintro e w1 ⟨rfl,k,rfl⟩
 go_wp2_with fail
 refine (HX.out _ (hv.drewN _)).mono ?_;rintro e w1 ⟨rfl,k1,rfl⟩
 go_wp2_with fail
 refine (HY.out _ (hu.drewN (k+k1))).mono ?_;rintro e w1 ⟨rfl,k2,rfl⟩
 obtain ⟨q,hqe⟩:∃ q,Hid (n / m=q):=⟨_,rfl⟩
 obtain ⟨r,hre⟩:∃ r,Hid (n % m=r):=⟨_,rfl⟩
 rw [hqe.out] at b1 HQ
 rw [hre.out] at b2 HR
 have e1:=HQ.out
 have e2:(n:Int).tmod (m:Int)=(r:Int):=by rw [←HR.out,Int.tmod_eq_emod_of_nonneg (by omega)]
 have e3:IntKind.u64.wrap (q:Int)=q:=Mul64.wrapN _ b1
 have e4:((m:Int) == 0)=false:=by simp;omega
 have e5:¬ m=0:=by omega
 have HOQ:=hid (fun w=>HO.out q b1 w)
 have HOR:=hid (fun w=>HO.out r b2 w)
 obtain ⟨kk,hkk⟩:∃ kk,Hid (k+k1+k2=kk):=⟨_,rfl⟩
 have hB0:Below w.heap.size w (w.drewN (k+k1+k2)):=drewN_below _ _
 clear HX HY HO HQ HR
 go_wp2_with fail
 clear hn b1 b2 hn1 hm1
 obtain ⟨wd,hwd⟩:∃ wd,Hid (w.drewN (k+k1+k2)=wd):=⟨_,rfl⟩
 rw [hwd.out] at hB0 ⊢
 go_region_held3 (fun w'=>Below w.heap.size w w')
  (first|exact hB0|exact hB0.trans ((Below.refl _ _).drew.mono hB0.size)|exact hB1|exact hB2)
  (first
    | (go_at_call 189;((with_reducible refine (HOQ.out _).mono ?_);rintro e w2 ⟨v1,rfl,hv1,hb1⟩);have hB1:Below w.heap.size w w2:=(hB0.trans ((Below.refl _ _).drew.mono hB0.size)).trans (hb1.mono (by exact hB0.size));have HV1:=hid hv1;clear hv1 hb1)
    | (go_at_call 189;((with_reducible refine (HOR.out _).mono ?_);rintro e w3 ⟨v2,rfl,hv2,hb2⟩);have hB2:Below w.heap.size w w3:=hB1.trans (hb2.mono hB1.size);have HV2:=hid hv2;have HV3:=hid (HV1.out.ext hb2);clear hv2 hb2))
 all_goals
  go_wp2
  go_ret2
  exact ⟨_,_,rfl,by rw [hqe.out];exact HV3.out,by rw [hre.out];exact HV2.out,hB2⟩
set_option maxRecDepth 100000 in
set_option maxHeartbeats 1000000 in
theorem divide_one (A B:Option Addr) (ca cb:Nat) (n m:Nat) (w:World) (hbig:18446744073709551616≤n) (h0:0<m) (hm1:m<4294967296) (hn:(digits n).length≤100000000) (hv:WSl w (.slice A (digits n).length ca) n) (hu:WSl w (.slice B (digits m).length cb) m) (hA:Wds w A (digits n)) (hB:Wds w B (digits m)) :
 Calls Tryz.prog 195 #[.slice A (digits n).length ca,.slice B (digits m).length cb] w fun e w'=>∃ v1 v2,e=.returned (.tuple #[v1,v2])∧WSl w' v1 (n / m)∧WSl w' v2 (n % m)∧Below w.heap.size w w':=by
 have hc:=compare_q _ _ n m w 0 hv hu
 obtain ⟨S,hS⟩:∃ S,Hid (sgn n m=S):=⟨_,rfl⟩
 rw [hS.out] at hc
 have hS0:decide (S<0)=false:=by rw [←hS.out];unfold sgn;split<;>(try split)<;>first|rfl|omega
 have HC:=hid hc
 have hsm:∀ w2,WSl w2 (.slice A (digits n).length ca) n→_:=fun w2 h=>small_no n _ w2 hbig (by unfold maxLen;omega) h
 have HSM:=hid hsm
 have hof:=fun x h w=>of_big x w h
 have HO:=hid hof
 have hdm:digits m=[m]:=by rw [digits_pos (by omega),show m / 4294967296=0 by omega,digits_zero,Nat.mod_eq_of_lt hm1]
 have hd:=digits_dig n
 have hvn:=val_digits n
 have HVN:=hid hvn
 rw [hdm] at hB hu hc
 clear hc hsm hof hvn
 rw [hdm]
 obtain ⟨bB,oB,rfl,gB⟩:=hB 0 (by simp)
 have gB0:w.cell? ⟨bB,oB,none⟩=some (.int .u32 (m:Nat)):=gB
 rw [hdm] at HC
 have hmk:=fun w=>run_makeU32 w (digits n).length (by omega)
 clear gB hB hu hbig
 go_enter Tryz.func195,Tryz.ntmps195
 go_wp2_with fail
 refine HC.out.mono ?_;rintro e w1 ⟨rfl,k,rfl⟩
 go_wp2_with fail
 refine (HSM.out _ (hv.drewN _)).mono ?_;rintro e w1 ⟨rfl,e1⟩
 subst e1
 go_wp2_with fail
 generalize digits n=a at *
 have HUB:Hid (UBlk ((w.drewN k).alloc (.cells (Array.replicate a.length (.int .u32 0)) 240 (0,0))) w.heap.size (List.replicate a.length 0)):=hid (UBlk.made _ _ _ rfl)
 have HBE:Hid (Below w.heap.size w ((w.drewN k).alloc (.cells (Array.replicate a.length (.int .u32 0)) 240 (0,0)))):=hid ((drewN_below w k).alloc (Nat.le_refl _) _)
 have m0:((m:Int) == 0)=false:=by simp;omega
 have m1:(0:Int)<m:=by omega
 clear hmk hv
 go_loopw [11,12] (fun r i wr=>∃ (jj:Nat) (os:List Nat) (rn:Nat),jj≤a.length∧i=.int .i64 ((jj:Int)-1)∧r=.int .u64 rn∧Hid (UBlk wr w.heap.size os)∧Hid (DivAt a os m jj rn)∧Hid (Below w.heap.size w wr)) (fun _ i _=>(intOf i+1).toNat)
 case atStart=>exact ⟨a.length,_,0,Nat.le_refl _,rfl,rfl,HUB,hid (DivAt.start a m h0),HBE⟩
 case round =>
  clear HUB HBE
  obtain ⟨jj,os,rn,hjj,rfl,rfl,HU,HD,HB⟩:=hrel
  cases jj with
  | zero =>
    rw [show ((0:Nat):Int)-1 = -1 from rfl]
    obtain ⟨hq,hr⟩:=HD.out.done h0
    rw [HVN.out] at hq hr
    have hlen:=HD.out.len
    have hdo:=HD.out.dig
    have HQ:=hid hq
    have HR:=hid hr
    have hrb:rn<18446744073709551616:=by (have:=HD.out.lt;omega)
    have htr:=trim_calls (some ⟨w.heap.size,0,none⟩) a.length os wr (by omega) (by unfold maxLen;omega) HU.out.wds
    rw [hlen] at htr
    have HT:=hid htr
    have HOF:=hid (HO.out rn hrb)
    have HL:=hid hlen
    clear hq hr htr hrb hlen
    go_wp2_with fail
    refine HT.out.mono ?_;rintro e w7 ⟨k1,rfl,hk1,ht1,e7⟩
    subst e7
    have hfin1:=HU.out.wds.take k1
    rw [ht1,trimL_digits hdo,HQ.out] at hfin1
    have hkl1:k1=(digits (n / m)).length:=by
     rw [←HQ.out,←trimL_digits hdo,←ht1,List.length_take,HL.out];have:=HL.out;omega
    have HK1:=hid hkl1
    have HF1:=hid hfin1
    clear ht1 hfin1 hkl1
    go_wp2_with fail
    refine (HOF.out _).mono ?_;rintro e w8 ⟨v2,rfl,hv2,hb2⟩
    have HV2:=hid hv2
    have HB2:=hid hb2
    clear hv2 hb2
    go_wp2
    go_ret2
    exact ⟨_,_,rfl,⟨_,_,by rw [←HK1.out];rfl,by rw [←HK1.out];have:=HL.out;omega,by omega,HF1.out.ext HB2.out⟩,by rw [←HR.out];exact HV2.out,HB.out.trans (HB2.out.mono HB.out.size)⟩
  | succ j =>
    rw [show ((j+1:Nat):Int)-1=j from by omega]
    have hj:j<a.length:=by omega
    have hr1:rn<4294967296:=by (have:=HD.out.lt;omega)
    obtain ⟨bA,oA,rfl,gA⟩:=(hA.ext HB.out) j hj
    have gB1:wr.cell? ⟨bB,oB,none⟩=some (.int .u32 (m:Nat)):=by
     rw [HB.out.cell (p:=⟨bB,oB,none⟩) (cell_lt gB0)];exact gB0
    have c3:=UBlk.cell HU.out j (by have:=HD.out.len;omega)
    have f3:=Blk.free HU.out j
    have hx:=hd.nth j
    obtain ⟨hqb,hst⟩:=HD.out.step hd hm1 hj
    have E1:=or_top2 _ _ hr1 hx
    obtain ⟨T,hT⟩:∃ T,Hid (rn*4294967296+nthd a j=T):=⟨_,rfl⟩
    rw [hT.out] at E1 hqb hst
    obtain ⟨Q,hQ⟩:∃ Q,Hid (T / m=Q):=⟨_,rfl⟩
    obtain ⟨R,hR⟩:∃ R,Hid (T % m=R):=⟨_,rfl⟩
    rw [hQ.out] at hqb hst
    rw [hR.out] at hst
    have htb:(T:Int)<18446744073709551616:=by (have:=hT.out;omega)
    have e1:(T:Int) / (m:Int)=(Q:Int):=by rw [←hQ.out,Int.natCast_ediv]
    have e2:IntKind.u64.wrap (Q:Int)=Q:=Mul64.wrapN _ (by omega)
    have e3:(T:Int) % (m:Int)=(R:Int):=by rw [←hR.out,Int.natCast_emod]
    have e4:(Q:Int) % 4294967296=Q:=by omega
    have hjl:(j:Int)<a.length:=by omega
    have e5:(T:Int).tdiv (m:Int)=(Q:Int):=by rw [←e1,Int.tdiv_eq_ediv_of_nonneg (by omega)]
    have e6:(T:Int).tmod (m:Int)=(R:Int):=by rw [←e3,Int.tmod_eq_emod_of_nonneg (by omega)]
    have HST:=hid hst
    have gB2:(wr.setCell ⟨w.heap.size,j,none⟩ (.int .u32 (Q:Nat))).cell? ⟨bB,oB,none⟩=some (.int .u32 (m:Nat)) :=
     (World.cell?_setCell_other wr ⟨w.heap.size,j,none⟩ ⟨bB,oB,none⟩ _ (by intro e;injection e with e1 e2;have:=cell_lt gB0;dsimp only at this;omega)).trans gB1
    clear hst htb
    go_wp2
    go_roundw
    case rel=>exact ⟨j,_,R,by omega,rfl,rfl,hid (HU.out.set j Q),HST,hid (HB.out.setCell (Nat.le_refl _) _)⟩
    case measure=>simp [intOf]
theorem digits_top {n:Nat} (h:n≠0):0<nthd (digits n) ((digits n).length-1):=by
 rcases Nat.eq_zero_or_pos (nthd (digits n) ((digits n).length-1)) with e|e
 ·exfalso
  have h1:=val_take_succ (digits n) ((digits n).length-1)
  have hl:=digits_len_pos.2 h
  rw [Nat.sub_add_cancel hl,List.take_length,e,Nat.mul_zero,Nat.add_zero,val_digits] at h1
  have h2:=val_lt ((digits_dig n).take ((digits n).length-1))
  rw [List.length_take,Nat.min_eq_left (by omega)] at h2
  have h3:=digits_ge h
  omega
 ·exact e
set_option maxRecDepth 100000 in
set_option maxHeartbeats 1000000 in
theorem divide_long (A B:Option Addr) (ca cb:Nat) (n m:Nat) (w:World) (hbig:18446744073709551616≤n) (hm1:4294967296≤m) (hge:m≤n) (hn:(digits n).length≤100000000) (hv:WSl w (.slice A (digits n).length ca) n) (hu:WSl w (.slice B (digits m).length cb) m) (hA:Wds w A (digits n)) (hB:Wds w B (digits m)) :
 Calls Tryz.prog 195 #[.slice A (digits n).length ca,.slice B (digits m).length cb] w fun e w'=>∃ v1 v2,e=.returned (.tuple #[v1,v2])∧WSl w' v1 (n / m)∧WSl w' v2 (n % m)∧Below w.heap.size w w':=by
 have hc:=compare_q _ _ n m w 0 hv hu
 obtain ⟨S,hS⟩:∃ S,Hid (sgn n m=S):=⟨_,rfl⟩
 rw [hS.out] at hc
 have hS0:decide (S<0)=false:=by rw [←hS.out];unfold sgn;split<;>(try split)<;>first|rfl|omega
 have HC:=hid hc
 have hsm:∀ w2,WSl w2 (.slice A (digits n).length ca) n→_:=fun w2 h=>small_no n _ w2 hbig (by unfold maxLen;omega) h
 have HSM:=hid hsm
 have hl2:2≤(digits m).length:=by
  rw [digits_pos (by omega),digits_pos (by omega)];simp
 have hll:(digits m).length≤(digits n).length:=by
  rcases Nat.lt_or_ge (digits n).length (digits m).length with h|h
  ·have:=digits_len_lt h;omega
  ·exact h
 have hlong:=fun k=>long_calls A B ca cb (digits n) (digits m) (w.drewN k) hll hl2 (digits_top (by omega)) (digits_dig n) (digits_dig m) hn (hA.ext (drewN_below w k)) (hB.ext (drewN_below w k))
 rw [val_digits,val_digits] at hlong
 have HL:=hid hlong
 have e1:(((digits m).length:Int) == 1)=false:=by simp;omega
 have hmx:(digits m).length≤100000000:=by omega
 clear hc hsm hlong hbig hl2 hll
 go_enter Tryz.func195,Tryz.ntmps195
 go_wp2_with fail
 refine HC.out.mono ?_;rintro e w1 ⟨rfl,k,rfl⟩
 go_wp2_with fail
 refine (HSM.out _ (hv.drewN _)).mono ?_;rintro e w1 ⟨rfl,e1⟩
 subst e1
 go_wp2_with fail
 refine (HL.out k).mono ?_;rintro e w1 ⟨v1,v2,rfl,hv1,hv2,hb⟩
 go_wp2
 go_ret2
 exact ⟨_,_,rfl,hv1,hv2,(drewN_below w k).trans (hb.mono (Nat.le_refl _))⟩
theorem divide_calls (v u:Value) (n m:Nat) (w:World) (h0:0<m) (hn:(digits n).length≤100000000) (hm:(digits m).length≤100000000) (hv:WSl w v n) (hu:WSl w u m) :
 Calls Tryz.prog 195 #[v,u] w fun e w'=>∃ v1 v2,e=.returned (.tuple #[v1,v2])∧WSl w' v1 (n / m)∧WSl w' v2 (n % m)∧Below w.heap.size w w':=by
 rcases Nat.lt_or_ge n m with h|h
 ·exact divide_lt v u n m w h hn hm hv hu
 rcases Nat.lt_or_ge n 18446744073709551616 with h1|h1
 ·exact divide_small v u n m w h0 h h1 hv hu
 obtain ⟨A,ca,rfl,a1,a2,hA⟩:=id hv
 obtain ⟨B,cb,rfl,b1,b2,hB⟩:=id hu
 rcases Nat.lt_or_ge m 4294967296 with h2|h2
 ·exact divide_one A B ca cb n m w h1 h0 h2 hn hv hu hA hB
 ·exact divide_long A B ca cb n m w h1 h2 h hn hv hu hA hB
end
section
open Go.RowKit
theorem gcd_step (x y:Nat):Nat.gcd y (x % y)=Nat.gcd x y:=by rw [Nat.gcd_comm x y,Nat.gcd_rec y x,Nat.gcd_comm]
theorem digits_mono_len {n m:Nat} (h:n≤m):(digits n).length≤(digits m).length:=by
 rcases Nat.lt_or_ge (digits m).length (digits n).length with h1|h1
 ·have:=digits_len_lt h1;omega
 ·exact h1
set_option maxRecDepth 100000 in
set_option maxHeartbeats 2000000 in
theorem common_calls (v u:Value) (n m:Nat) (w:World) (hn:(digits n).length≤100000000) (hm:(digits m).length≤100000000) (hv:WSl w v n) (hu:WSl w u m) :
 Calls Tryz.prog 205 #[v,u] w fun e w'=>∃ v',e=.returned v'∧WSl w' v' (Nat.gcd n m)∧Below w.heap.size w w':=by
 go_enter Tryz.func205,Tryz.ntmps205
 go_wp2
 go_loopg [0,1,5,6,7,8,9,10] m (fun g a b _ _ _ _ _ _ wr=>∃ x,WSl wr a x∧WSl wr b g∧Hid (Nat.gcd x g=Nat.gcd n m)∧(digits x).length≤100000000∧(digits g).length≤100000000∧Below w.heap.size w wr)
 case atStart=>exact ⟨n,hv,hu,hid rfl,hn,hm,Below.refl _ _⟩
 case round =>
  obtain ⟨x,hx,hy,hg,lx,ly,hb⟩:=hrel
  obtain ⟨A,ca,rfl,a1,a2,a3⟩:=id hx
  obtain ⟨B,cb,rfl,b1,b2,b3⟩:=id hy
  by_cases h0:gk=0
  ·subst h0
   have e0:(digits 0).length=0:=by rw [digits_zero];rfl
   have HE:=hid e0
   rw [e0]
   clear e0 ly
   go_wp2
   go_ret
   rw [Nat.gcd_zero_right] at hg
   exact ⟨_,rfl,by rw [←hg.out];exact hx,hb⟩
  ·have hp:decide (0<(digits gk).length)=true:=decide_eq_true (digits_len_pos.2 h0)
   have hp2:decide (0<((digits gk).length:Int))=true:=decide_eq_true (by have:=digits_len_pos.2 h0;omega)
   clear a1 a2 a3 b1 b2 b3
   have hdv:∀ k,_:=fun k=>divide_calls _ _ x gk (wr.drewN k) (by omega) lx ly (hx.drewN k) (hy.drewN k)
   have HDV:=hid hdv
   have hlr:(digits (x % gk)).length≤100000000:=Nat.le_trans (digits_mono_len (Nat.le_of_lt (Nat.mod_lt x (by omega)))) ly
   have hgr:=hid ((gcd_step x gk).trans hg.out)
   clear hdv
   by_cases h1:x<18446744073709551616
   ·have hxs:=small_yes x _ wr h1 hx
    have HX:=hid hxs
    clear hxs
    by_cases h2:gk<18446744073709551616
    ·have hys:=fun k=>small_yes gk _ (wr.drewN k) h2 (hy.drewN k)
     have HY:=hid hys
     have hof:=fun p (h:p<18446744073709551616) w=>of_big p w h
     have HO:=hid hof
     have h1':=hid h1;have h2':=hid h2
     clear hys hof HDV hlr hgr h1 h2
     go_wp2_with fail
     refine HX.out.mono ?_;rintro e w1 ⟨rfl,k1,e1⟩
     rw [e1];clear e1 w1 HX
     go_wp2_with fail
     refine (HY.out k1).mono ?_;rintro e w1 ⟨rfl,k2,e1⟩
     rw [e1];clear e1 w1 HY
     go_wp2_with fail
     go_loopw [5,7] (fun p q wq=>∃ pn qn k:Nat,p=.int .u64 pn∧q=.int .u64 qn∧Hid (Nat.gcd pn qn=Nat.gcd n m)∧Hid (pn<18446744073709551616∧qn<18446744073709551616)∧wq=wr.drewN k) (fun _ q _=>(intOf q).toNat)
     case atStart=>exact ⟨x,gk,k1+k2,rfl,rfl,hg,hid ⟨h1'.out,h2'.out⟩,by first|rfl|exact drewN_add _ _ _⟩
     case round =>
      obtain ⟨pn,qn,k,rfl,rfl,hgg,hpq,rfl⟩:=hrel
      by_cases hq:qn=0
      ·subst hq
       have HF:=hid (HO.out pn hpq.out.1)
       go_wp2_with fail
       refine (HF.out _).mono ?_;rintro e w5 ⟨v',rfl,hv',hb'⟩
       go_wp2
       go_ret
       have:=hgg.out
       rw [Nat.gcd_zero_right] at this
       exact ⟨_,rfl,by rw [←this];exact hv',hb.trans ((drewN_below wr k).mono hb.size |>.trans (hb'.mono hb.size))⟩
      ·have q1:((qn:Int) != 0)=true:=by simp;omega
       have q2:((qn:Int) == 0)=false:=by simp;omega
       obtain ⟨R,hR⟩:∃ R,Hid (pn % qn=R):=⟨_,rfl⟩
       have q3:(0:Int)<qn:=by omega
       have e1:(pn:Int) % (qn:Int)=(R:Int):=by rw [←hR.out,Int.natCast_emod]
       have e2:(pn:Int).tmod (qn:Int)=(R:Int):=by rw [←hR.out,Int.tmod_eq_emod_of_nonneg (by omega),Int.natCast_emod]
       have hlt:Hid (R<qn):=hid (by rw [←hR.out];exact Nat.mod_lt _ (by omega))
       have hgn:=hid ((gcd_step pn qn).trans hgg.out)
       go_wp2
       go_quiet (fail)
       go_wp2
       go_roundw
       case rel=>exact ⟨qn,R,_,rfl,rfl,by rw [←hR.out];exact hgn,hid ⟨hpq.out.2,by have:=hlt.out;have:=hpq.out.2;omega⟩,by first|rfl|exact drewN_add _ _ _⟩
       case measure=>have:=hlt.out;simp [intOf];omega
    ·have hys:=fun k=>small_no gk _ (wr.drewN k) (by omega) (by unfold maxLen;omega) (hy.drewN k)
     have HY:=hid hys
     clear hys h1 h2
     go_wp2_with fail
     refine HX.out.mono ?_;rintro e w1 ⟨rfl,k1,e1⟩
     rw [e1];clear e1 w1 HX
     go_wp2_with fail
     refine (HY.out k1).mono ?_;rintro e w1 ⟨rfl,e1⟩
     rw [e1];clear e1 w1 HY
     go_wp2_with fail
     refine (HDV.out k1).mono ?_;rintro e w1 ⟨v1,v2,rfl,hv1,hv2,hb1⟩
     have hb2:Below w.heap.size w w1:=hb.trans ((drewN_below wr k1).mono hb.size |>.trans (hb1.mono hb.size))
     have hy1:WSl w1 (.slice B (digits gk).length cb) gk:=hy.ext ((drewN_below wr k1).trans hb1)
     have HY1:=hid hy1;have HV2:=hid hv2
     clear hy1 hv1 hv2
     go_wp2
     go_roundg (x % gk)
     case measure=>exact Nat.mod_lt _ (by omega)
     case rel=>exact ⟨gk,HY1.out,HV2.out,hgr,ly,hlr,hb2⟩
   ·have hxs:=small_no x _ wr (by omega) (by unfold maxLen;omega) hx
    have HX:=hid hxs
    clear hxs h1
    go_wp2_with fail
    refine HX.out.mono ?_;rintro e w1 ⟨rfl,e1⟩
    rw [e1];clear e1 w1 HX
    go_wp2_with fail
    refine (HDV.out 0).mono ?_;rintro e w1 ⟨v1,v2,rfl,hv1,hv2,hb1⟩
    have hb2:Below w.heap.size w w1:=hb.trans (hb1.mono hb.size)
    have hy1:WSl w1 (.slice B (digits gk).length cb) gk:=hy.ext hb1
    have HY1:=hid hy1;have HV2:=hid hv2
    clear hy1 hv1 hv2
    go_wp2
    go_roundg (x % gk)
    case measure=>exact Nat.mod_lt _ (by omega)
    case rel=>exact ⟨gk,HY1.out,HV2.out,hgr,ly,hlr,hb2⟩
end
section
open Go.RowKit
theorem grown_below {w w':World} (h:Below w.heap.size w w'):w.grownBy w' none:=⟨h.os,h.tape,h.output,h.size,fun k hk _=>h.block k hk⟩
theorem below_grown {w w':World} (h:w.grownBy w' none):Below w.heap.size w w':=⟨h.os,h.tape,h.output,h.size,fun k hk=>h.block k hk (by simp)⟩
theorem grown_but {p:Nat} {w w':World} (h:But p w w'):w.grownBy w' (some p):=⟨h.os,h.tape,h.output,h.size,fun k hk hne=>h.block k hk (fun e=>hne (by rw [e]))⟩
theorem but_grown {p:Nat} {w w':World} (h:w.grownBy w' (some p)):But p w w':=⟨h.os,h.tape,h.output,h.size,fun k hk hne=>h.block k hk (fun e=>hne (by injection e))⟩
structure Calm (FB:World→Nat→Prop) (q:Value→World→Prop):Prop where
 plain:∀ v w w',q v w→Below w.heap.size w w'→q v w'
 own:∀ v w w' p,q v w→FB w p→But p w w'→q v w'
theorem keeps_calm {FB:World→Nat→Prop} {q:Value→World→Prop} (h:Calm FB q) (B:Nat) (Ks Os:List Tmp) (d t:Tmp):Keeps B FB Ks Os d (leaf1 t q):=by
 constructor
 ·intro l w w' hl hg
  match l,hl with
  | [v],hl=>exact h.plain v w w' hl (below_grown hg)
 ·intro x w w' p hp _ _ hg _ hq
  exact h.own _ w w' p hq hp (but_grown hg)
theorem calm_words (n:Nat):Calm IntBlk fun v w=>WSl w v n:=⟨fun v w w' h hb=>h.ext hb,fun v w w' p h hp hb=>h.but hp hb⟩
abbrev leafA (FB:World→Nat→Prop) (t:Tmp) (B:Nat):Leaves:=leaf1 t fun v w=>∃ p,v=ptr p∧B≤p∧FB w p
theorem keeps_alloc {FB:World→Nat→Prop} (hx:∀ w w' p,FB w p→Below w.heap.size w w'→FB w' p) (ho:∀ w w' p q,FB w p→FB w q→But q w w'→p≠q→FB w' p) (B:Nat) (Ks Os:List Tmp) (d t:Tmp):Keeps B FB Ks Os d (leafA FB t B):=by
 constructor
 ·intro l w w' hl hg
  match l,hl with
  | [v],⟨p,h1,h2,h3⟩=>exact ⟨p,h1,h2,hx _ _ _ h3 (below_grown hg)⟩
 ·intro x w w' p hp hp' _ hg _ hq
  obtain ⟨q,h1,h2,h3⟩:=hq
  refine ⟨q,h1,h2,?_⟩
  by_cases e:q=p
  ·subst e;exact hp'
  ·exact ho _ _ _ _ h3 hp (but_grown hg) e
abbrev leafV (t:Tmp) (R:Nat→World→Prop) (B:Nat):Leaves:=leaf1 t fun v w=>∃ p,v=ptr p∧B≤p∧R p w
abbrev leafR (k t:Tmp) (R:Nat→World→Prop) (B:Nat):Leaves:=⟨[k,t],fun l w=>match l with|[u,v]=>∃ p,u=ptr p∧v=ptr p∧B≤p∧R p w|_=>False⟩
theorem leafR_at (k t:Tmp) (R:Nat→World→Prop) (B:Nat) (x:Tmp→Value) (w:World):(leafR k t R B).at x w=∃ p,x k=ptr p∧x t=ptr p∧B≤p∧R p w:=rfl
structure CalmB (FB:World→Nat→Prop) (R:Nat→World→Prop):Prop where
 plain:∀ p w w',R p w→Below w.heap.size w w'→R p w'
 own:∀ p w w' q,R p w→FB w q→But q w w'→p≠q→R p w'
theorem keeps_key {FB:World→Nat→Prop} {R:Nat→World→Prop} (h:CalmB FB R) (B:Nat) (Ks Os:List Tmp) (d t:Tmp) (ht:Ks.contains t=true) (hn:Os.contains t=false):Keeps B FB Ks Os d (leafV t R B):=by
 constructor
 ·intro l w w' hl hg
  match l,hl with
  | [v],⟨p,h1,h2,h3⟩=>exact ⟨p,h1,h2,h.plain _ _ _ h3 (below_grown hg)⟩
 ·intro x w w' p hp hp' _ hg hk hq
  obtain ⟨q,h1,h2,h3⟩:=hq
  refine ⟨q,h1,h2,h.own _ _ _ _ h3 hp (but_grown hg) fun e=>?_⟩
  subst e
  have:=(hk t (by simp [leaf1]) (List.contains_iff_mem.1 ht) h1).2
  rw [List.contains_iff_mem.2 this] at hn;cases hn
theorem keeps_res {FB:World→Nat→Prop} {R:Nat→World→Prop} (h:CalmB FB R) (B:Nat) (Ks Os:List Tmp) (k t:Tmp) (ht:Ks.contains k=true) (hn:t≠k):Keeps B FB Ks Os t (leafR k t R B):=by
 constructor
 ·intro l w w' hl hg
  match l,hl with
  | [u,v],⟨p,h0,h1,h2,h3⟩=>exact ⟨p,h0,h1,h2,h.plain _ _ _ h3 (below_grown hg)⟩
 ·intro x w w' p hp hp' _ hg hk hq
  obtain ⟨q,h0,h1,h2,h3⟩:=hq
  refine ⟨q,h0,h1,h2,h.own _ _ _ _ h3 hp (but_grown hg) fun e=>?_⟩
  subst e
  exact hn (hk k (by simp [leafR]) (List.contains_iff_mem.1 ht) h0).1
theorem calm_big (z:Int):CalmB IntBlk fun p w=>BigP w p z:=⟨fun p w w' h hb=>h.ext hb,fun p w w' q h hq hb hne=>h.but hq hb hne⟩
theorem intBlk_ext:∀ (w w':World) (p:Nat),IntBlk w p→Below w.heap.size w w'→IntBlk w' p:=fun _ _ _ h hb=>h.ext hb
theorem intBlk_other:∀ (w w':World) (p q:Nat),IntBlk w p→IntBlk w q→But q w w'→p≠q→IntBlk w' p:=fun _ _ _ _ h _ hb hne=>h.other hb hne
variable {B:Nat} {FB:World→Nat→Prop} {Ks:List Tmp} {x:Tmp→Value} {w w':World}
theorem mv_const {t:Tmp} {own:Option Tmp} (c:Value) (hk:Ks.contains t=false):Mv B FB Ks t own (leafS t c) x w c w :=
 ⟨.inl (grown_below (Below.refl _ _)),upd_self _ _ _,fun h=>by rw [List.contains_iff_mem.2 h] at hk;cases hk⟩
theorem mv_plain {t:Tmp} {own:Option Tmp} {q:Value→World→Prop} {v:Value} (hb:Below w.heap.size w w') (hq:q v w') (hk:Ks.contains t=false):Mv B FB Ks t own (leaf1 t q) x w v w' :=
 ⟨.inl (grown_below hb),by rw [leaf1_at,upd_self];exact hq,fun h=>by rw [List.contains_iff_mem.2 h] at hk;cases hk⟩
theorem mv_alloc {t:Tmp} {own:Option Tmp} (o:Obj) (hB:B≤w.heap.size) (hq:FB (w.alloc o) w.heap.size):Mv B FB Ks t own (leafA FB t B) x w (ptr w.heap.size) (w.alloc o) :=
 ⟨.inl (World.grownBy_alloc w o none),by rw [leaf1_at,upd_self];exact ⟨_,rfl,hB,hq⟩,fun _=>⟨_,rfl,Nat.le_refl _,by simp⟩⟩
theorem mv_new {t:Tmp} {own:Option Tmp} {R:Nat→World→Prop} {p:Nat} (hb:Below w.heap.size w w') (hB:B≤w.heap.size) (hp:w.heap.size≤p) (hl:p<w'.heap.size) (hq:R p w'):Mv B FB Ks t own (leafV t R B) x w (ptr p) w' :=
 ⟨.inl (grown_below hb),by rw [leaf1_at,upd_self];exact ⟨_,rfl,by omega,hq⟩,fun _=>⟨_,rfl,hp,hl⟩⟩
theorem mv_set {t k:Tmp} {R:Nat→World→Prop} {p:Nat} (hx:x k=ptr p) (hB:B≤p) (h1:FB w p) (h2:FB w' p) (hb:But p w w') (hq:R p w') (hne:t≠k) (hk:Ks.contains t=false):Mv B FB Ks t (some k) (leafR k t R B) x w (ptr p) w' :=
 ⟨.inr ⟨k,p,rfl,hx,hB,h1,h2,grown_but hb⟩,by rw [leafR_at,upd_self,upd_ne hne];exact ⟨p,hx,rfl,hB,hq⟩,fun h=>by rw [List.contains_iff_mem.2 h] at hk;cases hk⟩
end
end Go.Proofs.YtkljafmdbajfeaaGreatDoor
