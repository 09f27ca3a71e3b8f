/- exact.Minimize. -/
import Derived.Test.YtkljafmdbajfeaaGreatDoorNoH34
namespace Go.Proofs.YtkljafmdbajfeaaGreatDoor
set_option linter.unusedVariables false
set_option linter.unusedSimpArgs false
open Go.Lib (hid)
section
open Go.RowKit Go.ChangeMaps
open Lp (Tab Bas tab0 bas0 redc SmallT IsI EndEmpty EndFree EndFound cost1 cost2 mini)
def MinRes (A:Tab) (b c:Nat→Rat) (n m:Nat) (w':World) (e:Ending):Prop :=
 (∃ v y,e=.returned (.agg #[.int .i64 1,.slice none 0 0,v])∧RatsX w' v m y∧EndEmpty A b n m y∧DenB m y) ∨
 (∃ v d,e=.returned (.agg #[.int .i64 2,v,.slice none 0 0])∧RatsX w' v n d∧EndFree A b c n m d∧DenB n d) ∨
 (∃ u v x y,e=.returned (.agg #[.int .i64 0,u,v])∧RatsX w' u n x∧RatsX w' v m y∧EndFound A b c n m x y∧DenB n x∧DenB m y)
theorem Blk.noW {w:World} {b:Nat} {vs:List Value} {T:TypeId} (h:Blk w b vs T) (hv:∀ n,Value.int .u32 n ∉ vs):NoW w b:=fun o n e=>hv n (cell_in h e)
set_option maxRecDepth 100000 in
set_option maxHeartbeats 16000000 in
theorem exMin_calls (av bv cv:Value) (n m:Nat) (A:Tab) (b c:Nat→Rat) (w:World) (ha:RowsX w av m n A) (hb:RatsX w bv m b) (hc:RatsX w cv n c) (hn0:0<n) (hn:n≤100) (hsm:SmallT A b n m) (sc:∀ j,j<n→IsI (c j) 1000) :
 Calls Tryz.prog 180 #[av,bv,cv] w fun e w'=>MinRes A b c n m w' e∧Below w.heap.size w w':=by
 obtain ⟨aA,aC,rfl,-⟩:=id ha
 obtain ⟨bA,bC,rfl,-⟩:=id hb
 obtain ⟨cA,cC,rfl,-⟩:=id hc
 have hm6:=hsm.m6
 have hA1:Below w.heap.size w (w.alloc (.cells #[.int .i64 0,.slice none 0 0,.slice none 0 0] 84 (0,0))):=(Below.refl _ _).alloc (Nat.le_refl _) _
 have HTB:=hid (tabled_calls _ _ n m A b _ (ha.ext hA1) (hb.ext hA1) hn0 hn (by omega) (fun i j hi hj=>isI_sq (hsm.a i j hi hj) (by omega)) (fun i hi=>isI_sq (hsm.b i hi) (by omega)))
 have HA1:=hid hA1;have HCX:=hid hc;have HSM:=hid hsm;have SC:=hid sc
 have HBK:=hid (Blk.new w [.int .i64 0,.slice none 0 0,.slice none 0 0] 84)
 clear ha hb hc hA1 hsm sc
 obtain ⟨m2,hm2⟩:∃ m2,2*m=m2:=⟨_,rfl⟩
 obtain ⟨N,hN⟩:∃ N,n+2*m=N:=⟨_,rfl⟩
 obtain ⟨N1,hN1⟩:∃ N1,N+1=N1:=⟨_,rfl⟩
 obtain ⟨nm,hnm⟩:∃ nm,n+m=nm:=⟨_,rfl⟩
 have HN:=hid hN;have HN1:=hid hN1;have HM2:=hid hm2;have HNM:=hid hnm
 have hNb:N1≤301:=by omega
 have hNb2:N≤300:=by omega
 have hNN1:(N:Int)<N1:=by omega
 have wq1:IntKind.i64.wrap (2*(m:Int))=(m2:Int):=by rw [i64_small (by omega)];omega
 have wq2:IntKind.i64.wrap ((n:Int)+(m2:Int))=(N:Int):=by rw [i64_small (by omega)];omega
 have wq3:IntKind.i64.wrap ((N:Int)+1)=(N1:Int):=by rw [i64_small (by omega)];omega
 have wq5:IntKind.i64.wrap ((n:Int)+(m:Int))=(nm:Int):=by rw [i64_small (by omega)];omega
 clear hN hN1 hm2 hnm
 go_enter Tryz.func180,Tryz.ntmps180
 go_wp2_with fail
 obtain ⟨rp,hrp⟩:∃ rp,w.heap.size=rp:=⟨_,rfl⟩
 obtain ⟨w1,hw1⟩:∃ w1,w.alloc (.cells #[.int .i64 0,.slice none 0 0,.slice none 0 0] 84 (0,0))=w1:=⟨_,rfl⟩
 rw [hw1] at HTB HA1 HBK ⊢
 rw [hrp] at HBK ⊢
 have HRP:=hid hrp
 clear hrp hw1
 refine HTB.out.mono ?_;rintro e w2 ⟨t,D,rfl,hT,hb2⟩
 have HT2:=hid hT;have HB2:=hid hb2
 have HEN:=hid (entries_calls N w2 (by omega))
 clear hT hb2 HTB
 go_wp2_with fail
 refine HEN.out.mono ?_;rintro e w3 ⟨cb,C,rfl,hQ,hb3⟩
 have HC3:=hid hQ;have HB3:=hid hb3
 clear hQ hb3 HEN
 go_wp2_with fail
 go_loopw [34] (fun ti wr=>∃ (i:Nat),i≤m∧ti=.int .i64 i∧Hid (RowQ wr w2.heap.size cb N N C (fun k=>if nm≤k∧k<nm+i then 1 else 0))∧Hid (Below w2.heap.size w2 wr)) (fun ti _=>m-(intOf ti).toNat)
 case atStart=>exact ⟨0,Nat.zero_le _,rfl,hid (HC3.out.congr fun k hk=>by rw [if_neg (by omega)]),HB3⟩
 case round =>
  clear HC3 HB3
  obtain ⟨i,hi,rfl,hC,hbe⟩:=hrel
  by_cases hlt:i<m
  ·have hi1:(i:Int)<m:=by omega
   obtain ⟨nmi,hnmi⟩:∃ nmi,nm+i=nmi:=⟨_,rfl⟩
   have hnN:nmi<N:=by have:=HN.out;have:=HNM.out;omega
   have wq6:IntKind.i64.wrap ((nm:Int)+(i:Int))=(nmi:Int):=by rw [i64_small (by omega)];omega
   have HNI:=hid hnmi
   clear hnmi
   have hnN1:(nmi:Int)<N:=by omega
   have q1:=hC.out.cell nmi hnN
   have HSI:=hid (setInt64_calls (C nmi) 1 wr (by omega) (by omega) (hC.out.num nmi hnN).blk)
   go_wp2_with fail
   refine HSI.out.mono ?_;rintro e w5 ⟨rfl,hx,hb5⟩
   have HC5:=hid (hC.out.set hnN hx hb5)
   have HB5:=hid (hbe.out.trans (hb5.below (hC.out.low nmi hnN) hbe.out.size))
   clear hx hb5 HSI hC hbe q1
   go_wp2
   go_roundw
   case rel =>
    refine ⟨i+1,by omega,by go_num,hid (HC5.out.congr fun k hk=>?_),HB5⟩
    have:=HNI.out
    by_cases e:k=nmi
    ·rw [if_pos e,if_pos (by omega)];rfl
    ·rw [if_neg e]
     by_cases e2:nm≤k∧k<nm+i
     ·rw [if_pos e2,if_pos (by omega)]
     ·rw [if_neg e2,if_neg (by omega)]
   case measure=>simp [intOf];omega
  ·obtain rfl:m=i:=by omega
   have HC4:Hid (RowQ wr w2.heap.size cb N N C (cost1 n m)):=hid (hC.out.congr fun k hk=>by
    have:=HN.out;have:=HNM.out
    unfold cost1
    by_cases e2:nm≤k∧k<nm+m
    ·rw [if_pos e2,if_pos (by omega)]
    ·rw [if_neg e2,if_neg (by omega)])
   have HT4:=hid (HT2.out.ext hbe.out)
   have HB4:=hid (HB2.out.trans (hbe.out.mono HB2.out.size))
   have HNI4:Hid (∀ k,inT D n m k→k<w2.heap.size):=hid fun k hk=>(HT2.out.old k hk).2
   obtain ⟨r1,hr1⟩:=Lp.mini_ends (cost:=cost1 n m) (shut:=fun _=>false) (Lp.tb0 (A:=A) (b:=b) (n:=n) (m:=m)) Lp.fe0
   have hok1:=Lp.mini_ok Lp.ok0 hr1
   have HMN:Hid _:=hid (minimize_calls w1.heap.size t n m D (tab0 A b n m) (bas0 n m) (sgI b) (fun _=>false) A b w2.heap.size cb C (cost1 n m) r1 wr HT4.out (by rw [HN.out];exact HC4.out) (fun h=>by have:=HNI4.out _ h;have:=HC4.out.new;omega) (fun k hk h=>by have:=HNI4.out _ h;have:=HC4.out.low k (by have:=HN.out;omega);omega) hn Lp.ok0 HSM.out (fun j _=>cost1_sq n m j) (cost1_at n m) hr1)
   rw [HN.out] at HMN
   clear hC hbe HT2 HB2
   obtain ⟨T1,B1,e1⟩:=r1
   obtain ⟨ok1,fin1⟩:=hok1
   have OK1:=hid ok1;have FIN1:=hid (ok1.first_end fin1)
   clear ok1 fin1 hr1
   go_wp2_with fail
   refine HMN.out.mono ?_;rintro e w5 ⟨rfl,hT5,hch⟩
   have HT5:=hid hT5
   have hbw5:=hch.below (fun k hk=>(HT4.out.old k hk).1) HB4.out.size
   have HB5:=hid (HB4.out.trans (hbw5.mono (Nat.le_refl _)))
   have HC5:Hid (RowQ w5 w2.heap.size cb N N C (cost1 n m)):=hid (HC4.out.chg hch (fun h=>by have:=HNI4.out _ h;have:=HC4.out.new;omega) (fun k hk h=>by have:=HNI4.out _ h;have:=HC4.out.low k hk;omega))
   have HRD:=hid (reduced_calls w1.heap.size t n m D T1 B1 (sgI b) (fun _=>false) w2.heap.size cb C (cost1 n m) w5 hT5 (by rw [HN.out];exact HC5.out) hn (by omega) (OK1.out.tb.lt) (Ok.sqT OK1.out HSM.out) (fun j _=>cost1_sq n m j))
   rw [HN.out,HN1.out] at HRD
   clear hT5 hch hbw5 HMN HC4 HT4 HB4
   go_wp2_with fail
   refine HRD.out.mono ?_;rintro e w6 ⟨zb,Z,rfl,hZ,hb6⟩
   have HZ6:=hid hZ;have HT6:=hid (HT5.out.ext hb6);have HB6:=hid (HB5.out.trans (hb6.mono HB5.out.size))
   have q1:=hZ.cell N (by have:=HN1.out;omega)
   have HSG:=hid (ratSign_calls (Z N) _ w6 (hZ.num N (by have:=HN1.out;omega)))
   clear hZ hb6 HRD HT5 HB5 HC5
   go_wp2_with fail
   refine HSG.out.mono ?_;rintro e w7 ⟨rfl,hw7⟩
   subst hw7
   obtain ⟨s,hs,hs0⟩:∃ s:Int,sgnI (redTo N m T1 B1 (cost1 n m) N).num 0=s∧(s=0↔redTo N m T1 B1 (cost1 n m) N=0):=⟨_,rfl,sgn_eq0 _⟩
   rw [hs]
   clear hs HSG q1
   rw [redTo_last] at hs0
   have HS0:=hid hs0
   clear hs0
   by_cases h0:s=0
   ·have hz0:Lp.cst m (n+2*m) T1 B1 (cost1 n m)=0:=by
     have h:=HS0.out.1 h0
     rw [←HN.out] at h;grind
    have HCL:=hid (close_calls w1.heap.size t n m D T1 B1 (sgI b) (fun _=>false) A b w7 HT6.out hn (OK1.out.close_start hz0) HSM.out)
    subst h0
    have HEN:=hid (fun W=>entries_calls N W (by omega))
    clear hz0
    go_wp2_with fail
    refine HCL.out.mono ?_;rintro e w8 ⟨T2,B2,rfl,hcl,hT8,hch⟩
    have hok2:=hcl.ok
    have HOK2:=hid hok2
    have HT8:Hid (TabD w8 w1.heap.size t n m D T2 B2 (sgI b) (Lp.art n m)):=hid (hT8.congr (fun _ _ _ _=>rfl) (fun _ _=>rfl) fun j _=>by simp [Lp.art])
    have HB8:=hid (HB6.out.trans ((hch.below (fun k hk=>(HT6.out.old k hk).1) HB6.out.size).mono (Nat.le_refl _)))
    have HNI8:Hid (∀ k,inT D n m k→k<w8.heap.size):=hid fun k hk=>(hT8.old k hk).2
    clear hcl hT8 hch HCL HZ6 HT6 HB6 hok2
    go_wp2_with fail
    refine (HEN.out w8).mono ?_;rintro e w9 ⟨kb,K2,rfl,hQ,hb9⟩
    have HQ9:=hid hQ;have HB9:=hid hb9
    clear hQ hb9
    go_wp2_with fail
    go_loopw [110] (fun tj wr=>∃ (j:Nat),j≤n∧tj=.int .i64 j∧Hid (RowQ wr w8.heap.size kb N N K2 (fun k=>if k<j then c k else 0))∧Hid (Below w8.heap.size w8 wr)) (fun tj _=>n-(intOf tj).toNat)
    case atStart=>exact ⟨0,Nat.zero_le _,rfl,hid (HQ9.out.congr fun k hk=>by rw [if_neg (by omega)]),HB9⟩
    case round =>
     clear HQ9 HB9
     obtain ⟨j,hj,rfl,hQ,hbe⟩:=hrel
     by_cases hlj:j<n
     ·have hj1:(j:Int)<n:=by omega
      have hjN:j<N:=by have:=HN.out;omega
      have hj2:(j:Int)<N:=by omega
      obtain ⟨ac,oc,pc,rfl,q2,hzc⟩:=(HCX.out.ext (HA1.out.trans ((HB8.out.trans (hbe.out.mono HB8.out.size)).mono HA1.out.size))).at hlj
      have q1:=hQ.out.cell j hjN
      have HZC:=hid hzc
      clear hzc
      go_wp2_with fail
      refine wp_region_kc (w0:=wr) 8 [113,114,115,116,117,118,119,120]
       [.c (.slice (some ⟨kb,0,none⟩) N N),.c (.int .i64 j),.c (.pointer (some ⟨kb,j,none⟩)),.c (.pointer (some ⟨(K2 j),0,none⟩)),.c (.slice (some ⟨ac,oc,none⟩) n cC),.c (.int .i64 j),.c (.pointer (some ⟨ac,oc+j,none⟩)),.c (.pointer (some ⟨pc,0,none⟩))]
       [] RatBlk (by kernel_rfl) (by kernel_rfl) (by kernel_rfl) rfl (F:=?cFr25) ?r25c1 ?r25c2 ?r25c3 ?r25c4
      case r25c1 =>
       intro x
       simp only [fullC,Act.put,List.setIfInBounds_toArray,List.set_cons_zero,List.set_cons_succ]
       rfl
      case r25c2 =>
       exact trivial
      case r25c3 =>
       refine ⟨?_,?_,?_,?_,?_,?_,?_,?_,trivial⟩
       all_goals
        intro xx wq HE hd K hK
        have hc:=(bcell HE).1
        have q1':=(hc _ _ (cell_lt q1)).trans q1
        have q2':=(hc _ _ (cell_lt q2)).trans q2
        have HE:=hid HE
        have HC:=hid hc
        clear hd hc
        all_goals go_simp
        try (refine hK _ _ _ (mv_const _ rfl) ?_;dsimp only [Act.put];first|done|rfl|(simp [*];done))
      case r25c4 =>
       intro xx wz hE hG hA
       have e2:xx 115=_:=hG 2 _ rfl
       have HE:=hid hE
       clear hG hA hE
       refine tail_one (i:=8) (by kernel_rfl) rfl ?_
       intro K hK
       go_simp
       have hq1:=hQ.out.ext HE.out
       refine (ratSetTo_calls (K2 j) pc (c j) wz (hq1.num j hjN).blk (HZC.out.ext HE.out)).mono ?_;rintro e w10 ⟨rfl,hx,hb10⟩
       refine hK _ _ ?_
       have HQ10:=hid (hq1.set hjN hx hb10)
       have HB10:=hid ((hbe.out.trans (HE.out.mono hbe.out.size)).trans (hb10.below (hq1.low j hjN) (by have:=hbe.out.size;have:=HE.out.size;omega)))
       clear hK hx hb10 hq1
       refine wpAny_done (by kernel_rfl) ?_ _
       go_wp2
       go_roundw
       case rel =>
        refine ⟨j+1,by omega,by go_num,hid (HQ10.out.congr fun k hk=>?_),HB10⟩
        by_cases e:k=j
        ·subst e;rw [if_pos rfl,if_pos (by omega)]
        ·rw [if_neg e]
         by_cases e2:k<j
         ·rw [if_pos e2,if_pos (show k<j+1 by omega)]
         ·rw [if_neg e2,if_neg (show ¬ k<j+1 by omega)]
       case measure=>simp [intOf];omega
     ·obtain rfl:n=j:=by omega
      have HK10:Hid (RowQ wr w8.heap.size kb N N K2 (cost2 c n)):=hid (hQ.out.congr fun k _=>rfl)
      have HT10:=hid (HT8.out.ext hbe.out)
      have HB10:=hid (HB8.out.trans (hbe.out.mono HB8.out.size))
      have hsq2:∀ j,j<n+2*m→Sq 10 (cost2 c n j):=fun j _=>isI_sq (cost2_i SC.out j) (by omega)
      obtain ⟨r2,hr2⟩:=Lp.mini_ends (cost:=cost2 c n) (shut:=Lp.art n m) HOK2.out.tb HOK2.out.fe
      have hok3:=Lp.mini_ok HOK2.out hr2
      have HMN:Hid _:=hid (minimize_calls w1.heap.size t n m D T2 B2 (sgI b) (Lp.art n m) A b w8.heap.size kb K2 (cost2 c n) r2 wr HT10.out (by rw [HN.out];exact HK10.out) (fun h=>by have:=HNI8.out _ h;have:=HK10.out.new;omega) (fun k hk h=>by have:=HNI8.out _ h;have:=HK10.out.low k (by have:=HN.out;omega);omega) hn HOK2.out HSM.out hsq2 (cost2_at c n m) hr2)
      rw [HN.out] at HMN
      have HSQ2:=hid hsq2
      clear hQ hbe HT8 hsq2
      obtain ⟨T3,B3,e2⟩:=r2
      obtain ⟨ok3,fin3⟩:=hok3
      have OK3:=hid ok3;have FIN3:=hid fin3
      clear ok3 fin3 hr2
      go_wp2_with fail
      refine HMN.out.mono ?_;rintro e w11 ⟨rfl,hT11,hch⟩
      have HT11:=hid hT11
      have hbw:=hch.below (fun k hk=>(HT10.out.old k hk).1) HB10.out.size
      have HB11:=hid (HB10.out.trans (hbw.mono (Nat.le_refl _)))
      have HK11:Hid (RowQ w11 w8.heap.size kb N N K2 (cost2 c n)):=hid (HK10.out.chg hch (fun h=>by have:=HNI8.out _ h;have:=HK10.out.new;omega) (fun k hk h=>by have:=HNI8.out _ h;have:=HK10.out.low k hk;omega))
      clear hT11 hch hbw HMN HK10 HT10 HB10
      obtain ⟨ev,hev⟩:∃ ev,endI (T3,B3,e2).2.2=ev:=⟨_,rfl⟩
      rw [hev]
      cases e2 with
      | some s2 =>
        have hsN:s2<n+2*m:=FIN3.out.1
        have hnb:∀ a,a<m→B3 a≠s2:=fun a ha e=>by
         have h1:=OK3.out.tb.redc_basic (cost2 c n) ha
         have h2:=FIN3.out.2.2.1
         rw [e] at h1;rw [h1] at h2;exact absurd h2 (by decide)
        have HRY:=hid (ray_calls w1.heap.size t n m s2 D T3 B3 (sgI b) (Lp.art n m) w11 HT11.out hn (by omega) OK3.out.tb.lt (fun a b' ha hb' e=>OK3.out.tb.inj ha hb' e) hsN hnb)
        have HEF:=hid (OK3.out.ray FIN3.out)
        have HDF:=hid (den_ray OK3.out.tb HSM.out hsN)
        clear hnb hsN
        obtain rfl:ev=(s2:Int):=hev.symm
        clear hev
        go_wp2_with fail
        refine HRY.out.mono ?_;rintro e w12 ⟨db,Dp,rfl,hd,hb12⟩
        have HD12:=hid hd
        have HB12:=hid (HB11.out.trans (hb12.mono HB11.out.size))
        have hrp7:rp<w11.heap.size:=Nat.lt_of_lt_of_le HBK.out.lt HB11.out.size
        clear hd hb12 HRY
        have bl:=HBK.out.ext HB12.out
        have c0:=bl.cell 0 (by simp)
        have c1:=bl.cell 1 (by simp)
        have c2:=bl.cell 2 (by simp)
        have f0:=bl.free 0
        have f1:=bl.free 1
        have f2:=bl.free 2
        simp only [List.getElem_cons_zero,List.getElem_cons_succ] at c0 c1 c2
        have HRB:Hid (RatsX ((((w12.setCell ⟨rp,0,none⟩ (.int .i64 2)).setCell ⟨rp,1,none⟩ (.slice (some ⟨db,0,none⟩) n n)).setCell ⟨rp,2,none⟩ (.slice none 0 0))) (.slice (some ⟨db,0,none⟩) n n) n (Lp.dir m T3 B3 s2)):=hid (by
         refine RowQ.rats (((HD12.out.congr fun k hk=>?_).butW (bl.noW (by simp)) ((((But.refl rp w12).set 0 _).set 1 _).set 2 _) (by have:=HD12.out.new;omega) (fun i hi=>by have:=HD12.out.low i hi;omega))) (by unfold maxLen;omega)
         rfl)
        have HBL:Hid (Below w.heap.size w ((((w12.setCell ⟨rp,0,none⟩ (.int .i64 2)).setCell ⟨rp,1,none⟩ (.slice (some ⟨db,0,none⟩) n n)).setCell ⟨rp,2,none⟩ (.slice none 0 0)))):=hid ((((HA1.out.trans (HB12.out.mono HA1.out.size)).setCell (p:=⟨rp,0,none⟩) (by have:=HRP.out;show _≤rp;omega) _).setCell (p:=⟨rp,1,none⟩) (by have:=HRP.out;show _≤rp;omega) _).setCell (p:=⟨rp,2,none⟩) (by have:=HRP.out;show _≤rp;omega) _)
        have bl3:=((bl.set 0 (.int .i64 2)).set 1 (.slice (some ⟨db,0,none⟩) n n)).set 2 (.slice none 0 0)
        have q0:=bl3.cell 0 (by simp)
        have q1:=bl3.cell 1 (by simp)
        have q2:=bl3.cell 2 (by simp)
        simp only [List.getElem_cons_zero,List.getElem_cons_succ,List.set_cons_zero,List.set_cons_succ] at q0 q1 q2
        clear bl bl3
        go_wp2
        (try simp only [Exit.inBlock,Exit.then])
        refine bodyPost_ret (v:=.agg #[.int .i64 2,(.slice (some ⟨db,0,none⟩) n n),(.slice none 0 0)]) (by simp [results,Tryz.results180,go_sem,q0,q1,q2]) rfl ⟨.inr (.inl ⟨_,_,rfl,HRB.out,HEF.out,HDF.out⟩),HBL.out⟩
      | none =>
        obtain rfl:ev = -1:=hev.symm
        clear hev
        have HRD:=hid (reduced_calls w1.heap.size t n m D T3 B3 (sgI b) (Lp.art n m) w8.heap.size kb K2 (cost2 c n) w11 HT11.out (by rw [HN.out];exact HK11.out) hn (by omega) OK3.out.tb.lt (Ok.sqT OK3.out HSM.out) HSQ2.out)
        rw [HN.out,HN1.out] at HRD
        go_wp2_with fail
        refine HRD.out.mono ?_;rintro e w12 ⟨zb2,Z2,rfl,hZ,hb12⟩
        have HZ12:=hid hZ;have HT12:=hid (HT11.out.ext hb12);have HB12:=hid (HB11.out.trans (hb12.mono HB11.out.size))
        have HNI12:Hid (∀ k,inT D n m k→k<w11.heap.size):=hid fun k hk=>(HT11.out.old k hk).2
        have HEM:=hid (entries_calls m w12 (by omega))
        have HS12:Hid (w11.heap.size≤w12.heap.size):=hid hb12.size
        have HSW:Hid (w1.heap.size≤w11.heap.size):=hid HB11.out.size
        clear hZ hb12 HRD HT11 HB11 HK11
        go_wp2_with fail
        refine HEM.out.mono ?_;rintro e w13 ⟨yb,Y,rfl,hY,hb13⟩
        have HY13:=hid hY;have HB13:=hid hb13
        clear hY hb13 HEM
        go_wp2_with fail
        go_loopw [138] (fun ti wr=>∃ (i:Nat),i≤m∧ti=.int .i64 i∧Hid (RowQ wr w12.heap.size yb m m Y (fun k=>if k<i then redTo N m T3 B3 (cost2 c n) (n+k) else 0))∧Hid (Below w12.heap.size w12 wr)) (fun ti _=>m-(intOf ti).toNat)
        case atStart=>exact ⟨0,Nat.zero_le _,rfl,hid (HY13.out.congr fun k hk=>by rw [if_neg (by omega)]),HB13⟩
        case round =>
         clear HY13 HB13
         obtain ⟨i,hi,rfl,hY,hbe⟩:=hrel
         by_cases hlt:i<m
         ·have hi1:(i:Int)<m:=by omega
          obtain ⟨ni,hni⟩:∃ ni,n+i=ni:=⟨_,rfl⟩
          have hniN:ni<N1:=by have:=HN.out;have:=HN1.out;omega
          have hniN1:(ni:Int)<N1:=by omega
          have wq6:IntKind.i64.wrap ((n:Int)+(i:Int))=(ni:Int):=by rw [i64_small (by omega)];omega
          have HNI:=hid hni
          clear hni
          have q1:=hY.out.cell i hlt
          have q2:=(HZ12.out.ext hbe.out).cell ni hniN
          go_wp2_with fail
          refine wp_region_kc (w0:=wr) 10 [141,142,143,144,145,146,147,148,149,150]
           [.c (.slice (some ⟨yb,0,none⟩) m m),.c (.int .i64 i),.c (.pointer (some ⟨yb,i,none⟩)),.c (.pointer (some ⟨(Y i),0,none⟩)),.c (.slice (some ⟨zb2,0,none⟩) N1 N1),.c (.int .i64 n),.c (.int .i64 i),.c (.int .i64 ni),.c (.pointer (some ⟨zb2,ni,none⟩)),.c (.pointer (some ⟨(Z2 ni),0,none⟩))]
           [] RatBlk (by kernel_rfl) (by kernel_rfl) (by kernel_rfl) rfl (F:=?cFr35) ?r35c1 ?r35c2 ?r35c3 ?r35c4
          case r35c1 =>
           intro x
           simp only [fullC,Act.put,List.setIfInBounds_toArray,List.set_cons_zero,List.set_cons_succ]
           rfl
          case r35c2 =>
           exact trivial
          case r35c3 =>
           refine ⟨?_,?_,?_,?_,?_,?_,?_,?_,?_,?_,trivial⟩
           all_goals
            intro xx wq HE hd K hK
            have hc:=(bcell HE).1
            have q1':=(hc _ _ (cell_lt q1)).trans q1
            have q2':=(hc _ _ (cell_lt q2)).trans q2
            have HE:=hid HE
            have HC:=hid hc
            clear hd hc
            all_goals go_simp
            try (refine hK _ _ _ (mv_const _ rfl) ?_;dsimp only [Act.put];first|done|rfl|(simp [*];done))
          case r35c4 =>
           intro xx wz hE hG hA
           have e2:xx 143=_:=hG 2 _ rfl
           have HE:=hid hE
           clear hG hA hE
           refine tail_one (i:=10) (by kernel_rfl) rfl ?_
           intro K hK
           go_simp
           have hy1:=hY.out.ext HE.out
           refine (ratSetTo_calls (Y i) (Z2 ni) _ wz (hy1.num i hlt).blk ((HZ12.out.ext (hbe.out.trans (HE.out.mono hbe.out.size))).num ni hniN)).mono ?_;rintro e w14 ⟨rfl,hx,hb14⟩
           refine hK _ _ ?_
           have HY14:=hid (hy1.set hlt hx hb14)
           have HB14:=hid ((hbe.out.trans (HE.out.mono hbe.out.size)).trans (hb14.below (hy1.low i hlt) (by have:=hbe.out.size;have:=HE.out.size;omega)))
           clear hK hx hb14 hy1
           refine wpAny_done (by kernel_rfl) ?_ _
           go_wp2
           go_roundw
           case rel =>
            refine ⟨i+1,by omega,by go_num,hid (HY14.out.congr fun k hk=>?_),HB14⟩
            by_cases e:k=i
            ·subst e;rw [if_pos rfl,if_pos (by omega),HNI.out]
            ·rw [if_neg e]
             by_cases e2:k<i
             ·rw [if_pos e2,if_pos (show k<i+1 by omega)]
             ·rw [if_neg e2,if_neg (show ¬ k<i+1 by omega)]
           case measure=>simp [intOf];omega
         ·obtain rfl:m=i:=by omega
          have HYF:Hid (RowQ wr w12.heap.size yb m m Y (fun i=>redc m T3 B3 (cost2 c n) (n+i))):=hid (hY.out.congr fun k hk=>by
           have h1:=HN.out
           rw [if_pos hk,redTo_redc (by omega) (by rw [←h1];exact cost2_at c n m)])
          have HT14:=hid (HT12.out.ext hbe.out)
          have HB14:=hid (HB12.out.trans (hbe.out.mono HB12.out.size))
          have HZ14:=hid (HZ12.out.ext hbe.out)
          have hnl:N≤N1:=by omega
          have HFX:=hid (fix_calls w1.heap.size t n m D T3 B3 (sgI b) (Lp.art n m) w11.heap.size zb2 N1 Z2 (redTo N m T3 B3 (cost2 c n)) wr HT14.out HZ14.out (fun h=>by have:=HNI12.out _ h;have:=HZ14.out.new;omega) (fun k hk h=>by have:=HNI12.out _ h;have:=HZ14.out.low k hk;omega) (by rw [HN.out];exact hnl) hn (by omega))
          clear hY hbe HT12 HB12 HZ12
          go_wp2_with fail
          refine HFX.out.mono ?_;rintro e w15 ⟨rfl,hT15,hch⟩
          have HT15:Hid (TabD w15 w1.heap.size t n m D T3 B3 (sgI b) (Lp.fixS m T3 B3 (cost2 c n) (Lp.art n m))):=hid (hT15.congr (fun _ _ _ _=>rfl) (fun _ _=>rfl) fun j hj=>by
           have h1:=HN.out
           unfold Lp.fixS;rw [redTo_redc (by omega) (by rw [←h1];exact cost2_at c n m)])
          have hbw:=hch.below (fun k hk=>(HT14.out.old k hk).1) HB14.out.size
          have HB15:=hid (HB14.out.trans (hbw.mono (Nat.le_refl _)))
          have HYT:Hid (∀ k,inT D n m k→k<w12.heap.size):=hid fun k hk=>Nat.lt_of_lt_of_le (HNI12.out k hk) HS12.out
          have HY15:Hid (RowQ w15 w12.heap.size yb m m Y (fun i=>redc m T3 B3 (cost2 c n) (n+i))):=hid (HYF.out.chg hch (fun h=>by have:=HYT.out _ h;have:=HYF.out.new;omega) (fun k hk h=>by have:=HYT.out _ h;have:=HYF.out.low k hk;omega))
          have HLX:=hid (Lp.LexAt.start (Lp.Ok.fix OK3.out (cost:=cost2 c n)) (fun _=>0))
          clear hT15 hch hbw HFX HYF HT14 HB14 HZ14
          go_wp2_with fail
          go_loopw [157] (fun tj wr=>∃ (j:Nat) (T':Tab) (B':Bas) (sh':Nat→Bool) (v:Nat→Rat),j≤n∧tj=.int .i64 j∧Hid (Lp.LexAt (tab0 A b n m) m (n+2*m) (Lp.fixS m T3 B3 (cost2 c n) (Lp.art n m)) sh' T' B' v j)∧Hid (TabD wr w1.heap.size t n m D T' B' (sgI b) sh')∧Hid (RowQ wr w12.heap.size yb m m Y (fun i=>redc m T3 B3 (cost2 c n) (n+i)))∧Hid (Below w1.heap.size w1 wr)) (fun tj _=>n-(intOf tj).toNat)
          case atStart=>exact ⟨0,_,_,_,_,Nat.zero_le _,rfl,HLX,HT15,HY15,HB15⟩
          case round =>
           clear HLX HT15 HY15 HB15
           obtain ⟨j,T',B',sh',v,hj,rfl,hL,hT,hY,hbe⟩:=hrel
           by_cases hlj:j<n
           ·have hj1:(j:Int)<n:=by omega
            have hjN:j<N:=by have:=HN.out;omega
            have hjNN:j<n+2*m:=by omega
            have hj2:(j:Int)<N:=by omega
            have HE1:=hid (HEN.out wr)
            go_wp2_with fail
            refine HE1.out.mono ?_;rintro e wa ⟨ub,U,rfl,hu,hba⟩
            have HUA:=hid hu;have HBA:=hid hba
            have q1:=hu.cell j hjN
            have HSI:=hid (setInt64_calls (U j) 1 wa (by omega) (by omega) (hu.num j hjN).blk)
            clear hu hba HE1
            go_wp2_with fail
            refine HSI.out.mono ?_;rintro e wb ⟨rfl,hx,hbb⟩
            have HUB:Hid (RowQ wb wr.heap.size ub N N U (Lp.unitC j)):=hid ((HUA.out.set hjN hx hbb).congr fun k _=>by unfold Lp.unitC;split<;>rfl)
            have HBB:=hid (HBA.out.trans (hbb.below (HUA.out.low j hjN) HBA.out.size))
            have HTB2:=hid (hT.out.ext HBB.out)
            have HNO:Hid (∀ k,inT D n m k→k<wr.heap.size):=hid fun k hk=>(hT.out.old k hk).2
            have HBWB:=hid (hbe.out.trans (HBB.out.mono hbe.out.size))
            have HYB:=hid (hY.out.ext HBB.out)
            have hu0:Lp.unitC j (n+2*m)=0:=by unfold Lp.unitC;rw [if_neg (by omega)]
            have husq:∀ k,k<n+2*m→Sq 10 (Lp.unitC j k):=fun k _=>isI_sq (k:=1) (by
             unfold Lp.unitC;split
             ·exact ⟨1,rfl,by decide⟩
             ·exact ⟨0,rfl,by decide⟩) (by omega)
            obtain ⟨r3,hr3⟩:=Lp.mini_ends (cost:=Lp.unitC j) (shut:=sh') hL.out.ok.tb hL.out.ok.fe
            have hok4:=Lp.mini_ok hL.out.ok hr3
            have HMN:Hid _:=hid (minimize_calls w1.heap.size t n m D T' B' (sgI b) sh' A b wr.heap.size ub U (Lp.unitC j) r3 wb HTB2.out (by rw [HN.out];exact HUB.out) (fun h=>by have:=HNO.out _ h;have:=HUB.out.new;omega) (fun k hk h=>by have:=HNO.out _ h;have:=HUB.out.low k (by have:=HN.out;omega);omega) hn hL.out.ok HSM.out husq hu0 hr3)
            rw [HN.out] at HMN
            obtain ⟨T4,B4,e4⟩:=r3
            obtain ⟨ok4,fin4⟩:=hok4
            have OK4:=hid ok4
            have HLS:=hid (hL.out.step hjNN ok4 (ok4.unit_end hjNN fin4))
            have HU0:=hid hu0;have HUSQ:=hid husq
            clear hx hbb HUA HBA HBB q1 HSI hu0 husq ok4 fin4 hr3 hT hY hbe hL
            go_wp2_with fail
            refine HMN.out.mono ?_;rintro e wc ⟨rfl,hTc,hch⟩
            have HTC:=hid hTc
            have hbw:=hch.below (fun k hk=>(HTB2.out.old k hk).1) HBWB.out.size
            have HBC:=hid (HBWB.out.trans (hbw.mono (Nat.le_refl _)))
            have HUC:Hid (RowQ wc wr.heap.size ub N N U (Lp.unitC j)):=hid (HUB.out.chg hch (fun h=>by have:=HNO.out _ h;have:=HUB.out.new;omega) (fun k hk h=>by have:=HNO.out _ h;have:=HUB.out.low k hk;omega))
            have HYC:Hid (RowQ wc w12.heap.size yb m m Y (fun i=>redc m T3 B3 (cost2 c n) (n+i))):=hid (HYB.out.chg hch (fun h=>by have:=HYT.out _ h;have:=HYB.out.new;omega) (fun k hk h=>by have:=HYT.out _ h;have:=HYB.out.low k hk;omega))
            have HRD:=hid (reduced_calls w1.heap.size t n m D T4 B4 (sgI b) sh' wr.heap.size ub U (Lp.unitC j) wc hTc (by rw [HN.out];exact HUC.out) hn (by omega) OK4.out.tb.lt (Ok.sqT OK4.out HSM.out) HUSQ.out)
            rw [HN.out,HN1.out] at HRD
            have HNC:Hid (∀ k,inT D n m k→k<wc.heap.size):=hid fun k hk=>(hTc.old k hk).2
            clear hTc hch hbw HMN HUB HYB HTB2 HBWB
            go_wp2_with fail
            refine HRD.out.mono ?_;rintro e wd ⟨zd,Zd,rfl,hZd,hbd⟩
            have HZD:=hid hZd;have HTD:=hid (HTC.out.ext hbd);have HBD:=hid (HBC.out.trans (hbd.mono HBC.out.size));have HYD:=hid (HYC.out.ext hbd)
            have hnl:N≤N1:=by omega
            have HFX:=hid (fix_calls w1.heap.size t n m D T4 B4 (sgI b) sh' wc.heap.size zd N1 Zd (redTo N m T4 B4 (Lp.unitC j)) wd HTD.out hZd (fun h=>by have:=HNC.out _ h;have:=hZd.new;omega) (fun k hk h=>by have:=HNC.out _ h;have:=hZd.low k hk;omega) (by rw [HN.out];exact hnl) hn (by omega))
            clear hZd hbd HRD HTC HBC HYC HUC
            go_wp2_with fail
            refine HFX.out.mono ?_;rintro e we ⟨rfl,hTe,hch⟩
            have HTE:Hid (TabD we w1.heap.size t n m D T4 B4 (sgI b) (Lp.fixS m T4 B4 (Lp.unitC j) sh')):=hid (hTe.congr (fun _ _ _ _=>rfl) (fun _ _=>rfl) fun k hk=>by
             have h1:=HN.out
             unfold Lp.fixS;rw [redTo_redc (by omega) (by rw [←h1];exact HU0.out)])
            have hbw:=hch.below (fun k hk=>(HTD.out.old k hk).1) HBD.out.size
            have HBE:=hid (HBD.out.trans (hbw.mono (Nat.le_refl _)))
            have HYE:Hid (RowQ we w12.heap.size yb m m Y (fun i=>redc m T3 B3 (cost2 c n) (n+i))):=hid (HYD.out.chg hch (fun h=>by have:=HYT.out _ h;have:=HYD.out.new;omega) (fun k hk h=>by have:=HYT.out _ h;have:=HYD.out.low k hk;omega))
            clear hTe hch hbw HFX HTD HBD HYD HZD
            go_wp2
            go_roundw
            case rel=>exact ⟨j+1,T4,B4,_,_,by omega,by go_num,HLS,HTE,HYE,HBE⟩
            case measure=>simp [intOf];omega
           ·obtain rfl:n=j:=by omega
            have HPT:=hid (point_calls w1.heap.size t n m D T' B' (sgI b) sh' wr hT.out hn (by omega) hL.out.ok.tb.lt (fun a b' ha hb' e=>hL.out.ok.tb.inj ha hb' e))
            have HFO:=hid (Lp.found OK3.out FIN3.out hL.out)
            have HDX:=hid (den_point hL.out.ok.tb HSM.out)
            have HDY:=hid (den_dual OK3.out.tb HSM.out (cost:=cost2 c n) fun k _=>cost2_i SC.out _)
            go_wp2_with fail
            refine HPT.out.mono ?_;rintro e wp ⟨xb,X,rfl,hX,hbp⟩
            have HX:=hid hX
            have HBP:=hid (hbe.out.trans (hbp.mono hbe.out.size))
            have HYP:=hid (hY.out.ext hbp)
            have hrp7:rp<w12.heap.size:=Nat.lt_of_lt_of_le HBK.out.lt (by have:=HS12.out;have:=HSW.out;omega)
            have hrp8:rp<wr.heap.size:=Nat.lt_of_lt_of_le HBK.out.lt hbe.out.size
            clear hX hbp HPT hT hL hY
            have bl:=HBK.out.ext HBP.out
            have c0:=bl.cell 0 (by simp)
            have c1:=bl.cell 1 (by simp)
            have c2:=bl.cell 2 (by simp)
            have f0:=bl.free 0
            have f1:=bl.free 1
            have f2:=bl.free 2
            simp only [List.getElem_cons_zero,List.getElem_cons_succ] at c0 c1 c2
            have HRX:Hid (RatsX ((((wp.setCell ⟨rp,0,none⟩ (.int .i64 0)).setCell ⟨rp,1,none⟩ (.slice (some ⟨xb,0,none⟩) n n)).setCell ⟨rp,2,none⟩ (.slice (some ⟨yb,0,none⟩) m m))) (.slice (some ⟨xb,0,none⟩) n n) n (Lp.bs m (n+2*m) T' B')):=hid (by
             refine RowQ.rats (((HX.out.congr fun k hk=>?_).butW (bl.noW (by simp)) ((((But.refl rp wp).set 0 _).set 1 _).set 2 _) (by have:=HX.out.new;omega) (fun i hi=>by have:=HX.out.low i hi;omega))) (by unfold maxLen;omega)
             rfl)
            have HRY:Hid (RatsX ((((wp.setCell ⟨rp,0,none⟩ (.int .i64 0)).setCell ⟨rp,1,none⟩ (.slice (some ⟨xb,0,none⟩) n n)).setCell ⟨rp,2,none⟩ (.slice (some ⟨yb,0,none⟩) m m))) (.slice (some ⟨yb,0,none⟩) m m) m (fun i=>redc m T3 B3 (cost2 c n) (n+i))):=hid (by
             refine RowQ.rats (((HYP.out.congr fun k hk=>?_).butW (bl.noW (by simp)) ((((But.refl rp wp).set 0 _).set 1 _).set 2 _) (by have:=HYP.out.new;omega) (fun i hi=>by have:=HYP.out.low i hi;omega))) (by unfold maxLen;omega)
             rfl)
            have HBL:Hid (Below w.heap.size w ((((wp.setCell ⟨rp,0,none⟩ (.int .i64 0)).setCell ⟨rp,1,none⟩ (.slice (some ⟨xb,0,none⟩) n n)).setCell ⟨rp,2,none⟩ (.slice (some ⟨yb,0,none⟩) m m)))):=hid ((((HA1.out.trans (HBP.out.mono HA1.out.size)).setCell (p:=⟨rp,0,none⟩) (by have:=HRP.out;show _≤rp;omega) _).setCell (p:=⟨rp,1,none⟩) (by have:=HRP.out;show _≤rp;omega) _).setCell (p:=⟨rp,2,none⟩) (by have:=HRP.out;show _≤rp;omega) _)
            have bl3:=((bl.set 0 (.int .i64 0)).set 1 (.slice (some ⟨xb,0,none⟩) n n)).set 2 (.slice (some ⟨yb,0,none⟩) m m)
            have q0:=bl3.cell 0 (by simp)
            have q1:=bl3.cell 1 (by simp)
            have q2:=bl3.cell 2 (by simp)
            simp only [List.getElem_cons_zero,List.getElem_cons_succ,List.set_cons_zero,List.set_cons_succ] at q0 q1 q2
            clear bl bl3
            go_wp2
            (try simp only [Exit.inBlock,Exit.then])
            refine bodyPost_ret (v:=.agg #[.int .i64 0,(.slice (some ⟨xb,0,none⟩) n n),(.slice (some ⟨yb,0,none⟩) m m)]) (by simp [results,Tryz.results180,go_sem,q0,q1,q2]) rfl ⟨.inr (.inr ⟨_,_,_,_,rfl,HRX.out,HRY.out,HFO.out,HDX.out,HDY.out.congr fun i hi=>(sur_dual OK3.out.tb hi).symm⟩),HBL.out⟩
   ·have hne:Lp.cst m (n+2*m) T1 B1 (cost1 n m)≠0:=fun h=>h0 (HS0.out.2 (by rw [←HN.out,h];rfl))
    have HEE:=hid (OK1.out.empty FIN1.out hne)
    have HDE:=hid (den_dual OK1.out.tb HSM.out (cost:=cost1 n m) fun k _=>cost1_i n m _)
    have h0f:(s == 0)=false:=by simpa using h0
    have HEN:=hid (entries_calls m w7 (by omega))
    clear hne
    go_wp2_with fail
    refine HEN.out.mono ?_;rintro e w8 ⟨yb,Y,rfl,hY,hb8⟩
    have HY8:=hid hY;have HB8:=hid hb8
    clear hY hb8 HEN
    go_wp2_with fail
    go_loopw [65] (fun ti wr=>∃ (i:Nat),i≤m∧ti=.int .i64 i∧Hid (RowQ wr w7.heap.size yb m m Y (fun k=>if k<i then (1-redTo N m T1 B1 (cost1 n m) (nm+k))*Lp.sg b k else 0))∧Hid (Below w7.heap.size w7 wr)) (fun ti _=>m-(intOf ti).toNat)
    case atStart=>exact ⟨0,Nat.zero_le _,rfl,hid (HY8.out.congr fun k hk=>by rw [if_neg (by omega)]),HB8⟩
    case round =>
     clear HY8 HB8
     obtain ⟨i,hi,rfl,hY,hbe⟩:=hrel
     by_cases hlt:i<m
     ·have hi1:(i:Int)<m:=by omega
      obtain ⟨nmi,hnmi⟩:∃ nmi,nm+i=nmi:=⟨_,rfl⟩
      have hnN:nmi<N1:=by have:=HN.out;have:=HNM.out;have:=HN1.out;omega
      have hnNN:nmi<N:=by have:=HN.out;have:=HNM.out;omega
      have wq6:IntKind.i64.wrap ((nm:Int)+(i:Int))=(nmi:Int):=by rw [i64_small (by omega)];omega
      have HNI:=hid hnmi
      clear hnmi
      have hnN1:(nmi:Int)<N1:=by omega
      have q1:=hY.out.cell i hlt
      have q2:=(HZ6.out.ext hbe.out).cell nmi hnN
      have SZ:Hid (RSm (redTo N m T1 B1 (cost1 n m) nmi)):=hid (Sq.rsm (k:=10+21*m) (by
       have h:=redTo_sq (N:=N) (N1:=N1) (m:=m) (T:=T1) (Bs:=B1) (cost:=cost1 n m) (by have:=Ok.sqT OK1.out HSM.out;rw [HN.out,HN1.out] at this;exact this) (fun i hi=>by rw [←HN.out];exact OK1.out.tb.lt i hi) (fun j _=>cost1_sq n m j) m (Nat.le_refl _) nmi hnN
       exact h) (by omega))
      have S1:Hid (RSm 1):=hid ((Sq.rsm (k:=2) ⟨digits_small.2 (by decide),digits_small.2 (by decide)⟩ (by omega)))
      have SS:Hid (RSm (1-redTo N m T1 B1 (cost1 n m) nmi)):=hid (Sq.rsm (k:=2+(10+21*m)+1) (Sq.sub ⟨digits_small.2 (by decide),digits_small.2 (by decide)⟩ (by
       have h:=redTo_sq (N:=N) (N1:=N1) (m:=m) (T:=T1) (Bs:=B1) (cost:=cost1 n m) (by have:=Ok.sqT OK1.out HSM.out;rw [HN.out,HN1.out] at this;exact this) (fun i hi=>by rw [←HN.out];exact OK1.out.tb.lt i hi) (fun j _=>cost1_sq n m j) m (Nat.le_refl _) nmi hnN
       exact h)) (by omega))
      have SG:Hid (RSm (Lp.sg b i)):=hid ((sg_sq2 b i).rsm (by omega))
      go_wp2_with fail
      refine wp_region_kc (w0:=wr) 13 [68,69,70,71,72,73,74,75,76,77,78,79,80]
       [.c (.slice (some ⟨yb,0,none⟩) m m),.c (.int .i64 i),.c (.pointer (some ⟨yb,i,none⟩)),.c (.pointer (some ⟨(Y i),0,none⟩)),.l none (leafV · (fun p w=>RatP w p 1) wr.heap.size),.c (.slice (some ⟨zb,0,none⟩) N1 N1),.c (.int .i64 n),.c (.int .i64 m),.c (.int .i64 nm),.c (.int .i64 i),.c (.int .i64 nmi),.c (.pointer (some ⟨zb,nmi,none⟩)),.c (.pointer (some ⟨(Z nmi),0,none⟩))]
       [72] RatBlk (by kernel_rfl) (by kernel_rfl) (by kernel_rfl) rfl (F:=?cFr16) ?r16c1 ?r16c2 ?r16c3 ?r16c4
      case r16c1 =>
       intro x
       simp only [fullC,Act.put,List.setIfInBounds_toArray,List.set_cons_zero,List.set_cons_succ]
       rfl
      case r16c2 =>
       exact ⟨keeps_key (calm_rat _) _ _ _ _ _ rfl rfl,trivial⟩
      case r16c3 =>
       refine ⟨?_,?_,?_,?_,?_,?_,?_,?_,?_,?_,?_,?_,?_,trivial⟩
       all_goals
        intro xx wq HE hd K hK
        have hc:=(bcell HE).1
        have q1':=(hc _ _ (cell_lt q1)).trans q1
        have q2':=(hc _ _ (cell_lt q2)).trans q2
        try have g4:=hd 4 _ (by decide) rfl
        have HE:=hid HE
        have HC:=hid hc
        clear hd hc
        all_goals go_simp
        try (refine hK _ _ _ (mv_const _ rfl) ?_;dsimp only [Act.put];first|done|rfl|(simp [*];done))
       ·refine (newRat_calls 1 1 wq (by omega) (by omega) (by omega) (by omega)).mono ?_
        rintro e w2 ⟨k,rfl,hk1,hk2,hb2⟩
        exact hK _ _ _ (mv_new hb2 HE.out.size hk1 hk2.lt hk2) (by first|(dsimp only [Act.put];done)|(dsimp only [Act.put];first|rfl|(simp [*];done)|(simp [*,ptr];done)))
      case r16c4 =>
       intro xx wz hE hG hA
       have e2:xx 70=_:=hG 2 _ rfl
       have g4:=hG 4 _ rfl
       obtain ⟨k,h72,hk1,hk2⟩:=g4
       unfold ptr at h72
       have HE:=hid hE;have HK2:=hid hk2
       clear hG hA hE hk2
       refine tail_one (i:=13) (by kernel_rfl) rfl ?_
       intro K hK
       go_simp
       have hy1:=hY.out.ext HE.out
       refine (ratSub_calls (Y i) k (Z nmi) 1 _ wz (hy1.num i hlt).blk HK2.out ((HZ6.out.ext (hbe.out.trans (HE.out.mono hbe.out.size))).num nmi hnN) S1.out SZ.out).mono ?_;rintro e w9 ⟨rfl,hx,hb9⟩
       refine hK _ _ ?_
       have HY9:=hid (hy1.set hlt hx hb9)
       have HB9:=hid ((hbe.out.trans (HE.out.mono hbe.out.size)).trans (hb9.below (hy1.low i hlt) (by have:=hbe.out.size;have:=HE.out.size;omega)))
       clear hK hx hb9 hy1 HK2 HE q1 q2 hY hbe
       refine wpAny_done (by kernel_rfl) ?_ _
       have q1:=HY9.out.cell i hlt
       have hT9:=HT6.out.ext HB9.out
       have q3:=hT9.t4
       obtain ⟨sa,hsa,-,q4⟩:=hT9.sgn i hlt
       rw [hsa] at q3
       have hsb : -9223372036854775808≤sgI b i∧sgI b i≤9223372036854775807:=by unfold sgI;split<;>omega
       have HSB:=hid hsb
       clear hT9 hsa hsb
       go_wp2_with fail
       refine wp_region_kc (w0:=w9) 16 [82,83,84,85,86,87,88,89,90,91,92,93,94,95,96,97]
        [.c (.slice (some ⟨yb,0,none⟩) m m),.c (.int .i64 i),.c (.pointer (some ⟨yb,i,none⟩)),.c (.pointer (some ⟨(Y i),0,none⟩)),.c (.slice (some ⟨yb,0,none⟩) m m),.c (.int .i64 i),.c (.pointer (some ⟨yb,i,none⟩)),.c (.pointer (some ⟨(Y i),0,none⟩)),.c (.pointer (some ⟨t,0,none⟩)),.c (.pointer (some ⟨t,0,none⟩)),.c (.pointer (some ⟨t,4,none⟩)),.c (.slice (some ⟨sa,0,none⟩) m D.cs),.c (.int .i64 i),.c (.pointer (some ⟨sa,i,none⟩)),.c (.int .i64 (sgI b i)),.l none (leafV · (fun p w=>RatP w p (Lp.sg b i)) w9.heap.size)]
        [97] RatBlk (by kernel_rfl) (by kernel_rfl) (by kernel_rfl) rfl (F:=?cFr17) ?r17c1 ?r17c2 ?r17c3 ?r17c4
       case r17c1 =>
        intro x
        simp only [fullC,Act.put,List.setIfInBounds_toArray,List.set_cons_zero,List.set_cons_succ]
        rfl
       case r17c2 =>
        exact ⟨keeps_key (calm_rat _) _ _ _ _ _ rfl rfl,trivial⟩
       case r17c3 =>
        refine ⟨?_,?_,?_,?_,?_,?_,?_,?_,?_,?_,?_,?_,?_,?_,?_,?_,trivial⟩
        all_goals
         intro xx wq HE hd K hK
         have hc:=(bcell HE).1
         have q1':=(hc _ _ (cell_lt q1)).trans q1
         have q3':=(hc _ _ (cell_lt q3)).trans q3
         have q4':=(hc _ _ (cell_lt q4)).trans q4
         try have g15:=hd 15 _ (by decide) rfl
         have HE:=hid HE
         have HC:=hid hc
         clear hd hc
         all_goals go_simp
         try (refine hK _ _ _ (mv_const _ rfl) ?_;dsimp only [Act.put];first|done|rfl|(simp [*];done))
        ·have hnr:=newRat_calls (sgI b i) 1 wq HSB.out.1 HSB.out.2 (by omega) (by omega)
         rw [mk1,sgI_sg] at hnr
         refine hnr.mono ?_
         rintro e w2 ⟨k,rfl,hk1,hk2,hb2⟩
         exact hK _ _ _ (mv_new hb2 HE.out.size hk1 hk2.lt hk2) (by first|(dsimp only [Act.put];done)|(dsimp only [Act.put];first|rfl|(simp [*];done)|(simp [*,ptr];done)))
       case r17c4 =>
        intro xx wz hE hG hA
        have e2:xx 84=_:=hG 2 _ rfl
        have g15:=hG 15 _ rfl
        obtain ⟨k,h97,hk1,hk2⟩:=g15
        unfold ptr at h97
        have HE:=hid hE;have HK2:=hid hk2
        clear hG hA hE hk2
        refine tail_one (i:=16) (by kernel_rfl) rfl ?_
        intro K hK
        go_simp
        have hy1:=HY9.out.ext HE.out
        have hyi:=hy1.num i hlt
        rw [if_pos rfl] at hyi
        refine (ratMul_calls (Y i) (Y i) k _ _ wz hyi.blk hyi HK2.out SS.out SG.out).mono ?_;rintro e w10 ⟨rfl,hx,hb10⟩
        refine hK _ _ ?_
        have HY10:=hid (hy1.set hlt hx hb10)
        have HB10:=hid ((HB9.out.trans (HE.out.mono HB9.out.size)).trans (hb10.below (hy1.low i hlt) (by have:=HB9.out.size;have:=HE.out.size;omega)))
        clear hK hx hb10 hy1 HK2 HE q1 q3 q4 hyi HY9 HB9
        refine wpAny_done (by kernel_rfl) ?_ _
        go_wp2
        go_roundw
        case rel =>
         refine ⟨i+1,by omega,by go_num,hid (HY10.out.congr fun k hk=>?_),HB10⟩
         by_cases e:k=i
         ·subst e;rw [if_pos rfl,if_pos (by omega),HNI.out]
         ·rw [if_neg e,if_neg e]
          by_cases e2:k<i
          ·rw [if_pos e2,if_pos (show k<i+1 by omega)]
          ·rw [if_neg e2,if_neg (show ¬ k<i+1 by omega)]
        case measure=>simp [intOf];omega
     ·obtain rfl:m=i:=by omega
      have hBw:=HB6.out.trans (hbe.out.mono HB6.out.size)
      have bl:=HBK.out.ext hBw
      have c0:=bl.cell 0 (by simp)
      have c1:=bl.cell 1 (by simp)
      have c2:=bl.cell 2 (by simp)
      have f0:=bl.free 0
      have f1:=bl.free 1
      have f2:=bl.free 2
      simp only [List.getElem_cons_zero,List.getElem_cons_succ] at c0 c1 c2
      have hrp7:rp<w7.heap.size:=Nat.lt_of_lt_of_le HBK.out.lt HB6.out.size
      have HRB:Hid (RatsX ((((wr.setCell ⟨rp,0,none⟩ (.int .i64 1)).setCell ⟨rp,1,none⟩ (.slice none 0 0)).setCell ⟨rp,2,none⟩ (.slice (some ⟨yb,0,none⟩) m m))) (.slice (some ⟨yb,0,none⟩) m m) m (fun i=>(1-redc m T1 B1 (cost1 n m) (n+m+i))*Lp.sg b i)):=hid (by
       refine RowQ.rats (((hY.out.congr fun k hk=>?_).butW (bl.noW (by simp)) ((((But.refl rp wr).set 0 _).set 1 _).set 2 _) (by have:=hY.out.new;omega) (fun i hi=>by have:=hY.out.low i hi;omega))) (by unfold maxLen;omega)
       have h1:=HN.out;have h2:=HNM.out
       rw [if_pos hk,redTo_redc (by omega) (by rw [←h1];exact cost1_at n m),h2])
      have HBL:Hid (Below w.heap.size w ((((wr.setCell ⟨rp,0,none⟩ (.int .i64 1)).setCell ⟨rp,1,none⟩ (.slice none 0 0)).setCell ⟨rp,2,none⟩ (.slice (some ⟨yb,0,none⟩) m m)))):=hid ((((HA1.out.trans (hBw.mono HA1.out.size)).setCell (p:=⟨rp,0,none⟩) (by have:=HRP.out;show _≤rp;omega) _).setCell (p:=⟨rp,1,none⟩) (by have:=HRP.out;show _≤rp;omega) _).setCell (p:=⟨rp,2,none⟩) (by have:=HRP.out;show _≤rp;omega) _)
      have bl3:=((bl.set 0 (.int .i64 1)).set 1 (.slice none 0 0)).set 2 (.slice (some ⟨yb,0,none⟩) m m)
      have q0:=bl3.cell 0 (by simp)
      have q1:=bl3.cell 1 (by simp)
      have q2:=bl3.cell 2 (by simp)
      simp only [List.getElem_cons_zero,List.getElem_cons_succ,List.set_cons_zero,List.set_cons_succ] at q0 q1 q2
      clear bl bl3 hBw
      go_wp2
      (try simp only [Exit.inBlock,Exit.then])
      refine bodyPost_ret (v:=.agg #[.int .i64 1,.slice none 0 0,.slice (some ⟨yb,0,none⟩) m m]) (by simp [results,Tryz.results180,go_sem,q0,q1,q2]) rfl ⟨.inl ⟨_,_,rfl,HRB.out,HEE.out,HDE.out.congr fun i hi=>(one_sub_dual OK1.out.tb hi).symm⟩,HBL.out⟩
end
end Go.Proofs.YtkljafmdbajfeaaGreatDoor
