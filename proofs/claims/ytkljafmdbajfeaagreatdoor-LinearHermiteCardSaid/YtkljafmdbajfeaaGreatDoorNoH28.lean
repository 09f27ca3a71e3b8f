/- exact.table.minimize: to the minimum of a cost. -/
import Derived.Test.YtkljafmdbajfeaaGreatDoorNoH27
namespace Go.Proofs.YtkljafmdbajfeaaGreatDoor
set_option linter.unusedVariables false
set_option linter.unusedSimpArgs false
open Go.Lib (hid)
section
open Go.RowKit
open Lp (Tab Bas sumTo redc piv pivB Tb SmallT IsI tab0 mini pick firstTo)
def endI:Option Nat→Int
 | none => -1
 | some s=>s
def Cand (wr:World) (u v:Value):Option (Nat × Rat)→Prop
 | none=>u=.int .i64 (-1)∧v=.pointer none
 | some (o,l)=>u=.int .i64 o∧∃ p,v=.pointer (some ⟨p,0,none⟩)∧RatP wr p l
theorem Cand.ext {w w':World} {u v:Value} {x:Option (Nat × Rat)} (h:Cand w u v x) (hb:Below w.heap.size w w'):Cand w' u v x:=by
 cases x with
 | none=>exact h
 | some x =>
   obtain ⟨o,l⟩:=x
   obtain ⟨h1,p,h2,h3⟩:=h
   exact ⟨h1,p,h2,h3.ext hb⟩
set_option maxRecDepth 100000 in
set_option maxHeartbeats 8000000 in
theorem minimize_calls (B t n m:Nat) (D:TA) (T:Tab) (Bs:Bas) (sg:Nat→Int) (sh:Nat→Bool) (A:Tab) (b:Nat→Rat) (Bc bc:Nat) (C:Nat→Nat) (cost:Nat→Rat) (r:Tab × Bas × Option Nat) (w:World)
 (hT:TabD w B t n m D T Bs sg sh) (hc:RowQ w Bc bc (n+2*m) (n+2*m) C cost) (hcb:¬ inT D n m bc) (hcC:∀ i,i<n+2*m→¬ inT D n m (C i))
 (hn:n≤100) (hOk:Lp.Ok (tab0 A b n m) m (n+2*m) sh T Bs) (hsm:SmallT A b n m) (sc:∀ j,j<n+2*m→Sq 10 (cost j)) (hc0:cost (n+2*m)=0) (hr:mini m (n+2*m) cost sh ((n+2*m) ^ m+1) T Bs=some r) :
 Calls Tryz.prog 213 #[.pointer (some ⟨t,0,none⟩),.slice (some ⟨bc,0,none⟩) (n+2*m:Nat) (n+2*m:Nat)] w fun e w'=>e=.returned (.int .i64 (endI r.2.2))∧TabD w' B t n m D r.1 r.2.1 sg sh∧Chg (inT D n m) w w':=by
 have hm:m≤100:=by have:=hsm.m6;omega
 obtain ⟨S,hS⟩:∃ S,S=inT D n m:=⟨_,rfl⟩
 have c0:=hT.t0
 have c1:=hT.t1
 have RED:Hid (∀ W T' Bs',TabD W B t n m D T' Bs' sg sh→RowQ W Bc bc (n+2*m) (n+2*m) C cost→Lp.Ok (tab0 A b n m) m (n+2*m) sh T' Bs'→Calls Tryz.prog 214 #[.pointer (some ⟨t,0,none⟩),.slice (some ⟨bc,0,none⟩) (n+2*m:Nat) (n+2*m:Nat)] W fun e w'=>∃ b P,e=.returned (.slice (some ⟨b,0,none⟩) (n+2*m+1:Nat) (n+2*m+1:Nat))∧RowQ w' W.heap.size b (n+2*m+1) (n+2*m+1) P (redc m T' Bs' cost)∧Below W.heap.size W w'):=hid (by
  intro W T' Bs' h1 h2 h3
  refine (reduced_calls B t n m D T' Bs' sg sh Bc bc C cost W h1 h2 hn hm h3.tb.lt (Ok.sqT h3 hsm) sc).mono ?_
  rintro e w' ⟨b,P,rfl,h4,h5⟩
  exact ⟨b,P,rfl,h4.congr fun j hj=>redTo_redc (by omega) hc0,h5⟩)
 have PIV:Hid (∀ W T' Bs' i j,TabD W B t n m D T' Bs' sg sh→Lp.Ok (tab0 A b n m) m (n+2*m) sh T' Bs'→i<m→j<n+2*m→T' i j≠0→Calls Tryz.prog 233 #[.pointer (some ⟨t,0,none⟩),.int .i64 (i:Nat),.int .i64 (j:Nat)] W fun e w'=>e=.returned (.tuple #[])∧TabD w' B t n m D (piv T' i j) (pivB Bs' i j) sg sh∧Chg S W w'):=hid (by
  intro W T' Bs' i j h1 h2 h3 h4 h5
  rw [hS]
  exact pivot_calls B t n m i j D T' Bs' sg sh W h1 hn hm h3 h4 h5 (Ok.sqT h2 hsm))
 have SQ:Hid (∀ T' Bs',Lp.Ok (tab0 A b n m) m (n+2*m) sh T' Bs'→SqT 10 m (n+2*m+1) T'):=hid fun T' Bs' h=>Ok.sqT h hsm
 have HCR:Hid (∀ W,Chg S w W→RowQ W Bc bc (n+2*m) (n+2*m) C cost):=hid (by
  intro W h;rw [hS] at h;exact hc.chg h hcb hcC)
 have HT:=hid hT;have HOK:=hid hOk;have HR:=hid hr
 have HSS:=hid hS
 clear hT hc hcb hcC hsm sc hr hOk hc0 hS
 obtain ⟨RA,cA,bA,cb,sA,cs,hbk,rb,Pt⟩:=D
 obtain ⟨N,hN⟩:∃ N,n+2*m=N:=⟨_,rfl⟩
 obtain ⟨N1,hN1⟩:∃ N1,N+1=N1:=⟨_,rfl⟩
 obtain ⟨M,hM⟩:∃ M,M=tab0 A b n m:=⟨_,rfl⟩
 have HN:=hid hN;have HN1:=hid hN1
 rw [hN] at RED PIV SQ HCR HOK HR ⊢
 rw [hN1] at RED SQ
 rw [←hM] at RED PIV SQ HOK
 have TROW:Hid (∀ W T' Bs',TabD W B t n m ⟨RA,cA,bA,cb,sA,cs,hbk,rb,Pt⟩ T' Bs' sg sh→∀ a,a<m→∃ R,RA=some ⟨R,0,none⟩∧W.cell? ⟨R,a,none⟩=some (.slice (some ⟨rb a,0,none⟩) N1 N1)):=hid (by
  intro W T' Bs' hW a ha
  have:=hW.row a ha
  rw [hN,hN1] at this;exact this)
 have TNUM:Hid (∀ W T' Bs',TabD W B t n m ⟨RA,cA,bA,cb,sA,cs,hbk,rb,Pt⟩ T' Bs' sg sh→∀ a,a<m→RowQ W B (rb a) N1 N1 (Pt a) (T' a)):=hid (by
  intro W T' Bs' hW a ha
  have:=hW.num a ha
  rw [hN,hN1] at this;exact this)
 have TSH:Hid (∀ W T' Bs',TabD W B t n m ⟨RA,cA,bA,cb,sA,cs,hbk,rb,Pt⟩ T' Bs' sg sh→W.cell? ⟨t,5,none⟩=some (.slice (some ⟨hbk,0,none⟩) N N)∧∀ j,j<N→W.cell? ⟨hbk,j,none⟩=some (.bool (sh j))):=hid (by
  intro W T' Bs' hW
  have h1:=hW.t5
  have h2:=hW.shut
  rw [hN] at h1 h2;exact ⟨h1,h2⟩)
 have hNb:N1≤301:=by omega
 have hNN:N<N1:=by omega
 have hNN1:(N:Int)<N1:=by omega
 clear hN hN1 hM
 go_enter Tryz.func213,Tryz.ntmps213
 go_wp2_with fail
 refine wp_region_kc (w0:=w) 10 [15,16,17,18,19,20,21,22,23,24]
  [.c (.pointer (some ⟨t,0,none⟩)),.c (.pointer (some ⟨t,0,none⟩)),.c (.pointer (some ⟨t,0,none⟩)),.c (.int .i64 n),.c (.pointer (some ⟨t,0,none⟩)),.c (.pointer (some ⟨t,0,none⟩)),.c (.pointer (some ⟨t,1,none⟩)),.c (.int .i64 m),.c (.int .i64 (2*m:Nat)),.c (.int .i64 N)]
  [] RatBlk (by kernel_rfl) (by kernel_rfl) (by kernel_rfl) rfl (F:=?cFr1) ?r1c1 ?r1c2 ?r1c3 ?r1c4
 case r1c1 =>
  intro x
  simp only [fullC,Act.put,List.setIfInBounds_toArray,List.set_cons_zero,List.set_cons_succ]
  rfl
 case r1c2 =>
  exact trivial
 case r1c3 =>
  refine ⟨?_,?_,?_,?_,?_,?_,?_,?_,?_,?_,trivial⟩
  all_goals
   intro xx wq HE hd K hK
   have hc:=(bcell HE).1
   have c0':=(hc _ _ (cell_lt c0)).trans c0
   have c1':=(hc _ _ (cell_lt c1)).trans c1
   have HE:=hid HE
   have HC:=hid hc
   clear hd hc
   all_goals go_simp
   try (refine hK _ _ _ (mv_const _ rfl) ?_;dsimp only [Act.put];first|done|rfl|(simp [*];done))
  ·refine hK (.int .i64 (IntKind.i64.wrap (2*(m:Int)))) _ _ (mv_eq ?_ rfl) (by first|(dsimp only [Act.put];done)|(dsimp only [Act.put];first|rfl|(simp [*];done)|(simp [*,ptr];done)))
   (congr 1;simp only [IntKind.wrap_i64,wrap64];omega)
  ·refine hK (.int .i64 (IntKind.i64.wrap ((n:Int)+2*(m:Int)))) _ _ (mv_eq ?_ rfl) (by first|(dsimp only [Act.put];done)|(dsimp only [Act.put];first|rfl|(simp [*];done)|(simp [*,ptr];done)))
   have:=HN.out
   (congr 1;simp only [IntKind.wrap_i64,wrap64];omega)
 case r1c4 =>
  intro xx wz hE hG hA
  have e4:xx 19=_:=hG 4 _ rfl
  have e5:xx 20=_:=hG 5 _ rfl
  have e6:xx 21=_:=hG 6 _ rfl
  have HE:=hid hE
  have HT1:=hid (HT.out.ext hE)
  have HC1:Hid (Chg S w wz):=hid (Chg.ofBelow hE)
  clear hG hA hE HE c0 c1 HT
  (refine tail_one (i:=10) (by kernel_rfl) rfl ?_;intro K hK;go_simp;refine hK _ _ ?_;clear hK)
  refine wpAny_done (by kernel_rfl) ?_ _
  go_wp2_with fail
  go_loopg [6] (N ^ m+1) (fun g _ wr=>∃ (T':Tab) (Bs':Bas),Hid (Lp.Ok M m N sh T' Bs')∧Hid (mini m N cost sh g T' Bs'=some r)∧Hid (TabD wr B t n m ⟨RA,cA,bA,cb,sA,cs,hbk,rb,Pt⟩ T' Bs' sg sh)∧Hid (Chg S w wr))
  case atStart=>exact ⟨T,Bs,HOK,HR,HT1,HC1⟩
  case round =>
   clear HT1 HC1 HOK HR
   obtain ⟨T',Bs',hOk,hr,hT,hC⟩:=hrel
   cases gk with
   | zero=>exact absurd hr.out (by simp [mini])
   | succ gk =>
   have HRED:=hid (RED.out wr T' Bs' hT.out (HCR.out wr hC.out) hOk.out)
   go_wp2_with fail
   refine HRED.out.mono ?_;rintro e w3 ⟨zb,Z,rfl,hZ,hb3⟩
   have hZ:=hid hZ;have hT3:=hid (hT.out.ext hb3);have hC3:=hid (hC.out.ext hb3)
   clear HRED hb3 hT hC
   go_wp2_with fail
   go_loopw [7,29] (fun ti tj wr=>∃ (j:Nat),j≤N∧ti=.int .i64 (-1)∧tj=.int .i64 j∧Hid (∀ k,k<j→(!sh k && decide (redc m T' Bs' cost k<0))=false)∧Hid (∃ W0,RowQ wr W0 zb N1 N1 Z (redc m T' Bs' cost))∧Hid (TabD wr B t n m ⟨RA,cA,bA,cb,sA,cs,hbk,rb,Pt⟩ T' Bs' sg sh)∧Hid (Chg S w wr)) (fun _ tj _=>N-(intOf tj).toNat)
   case atStart=>exact ⟨0,Nat.zero_le _,rfl,rfl,hid (fun k hk=>by omega),hid ⟨_,hZ.out⟩,hT3,hC3⟩
   case round =>
    clear hZ hT3 hC3
    obtain ⟨j,hj,rfl,rfl,hno,hZ,hT,hC⟩:=hrel
    by_cases hlt:j<N
    ·have hj1:(j:Int)<N:=by omega
     have hj2:(j:Int)<N1:=by omega
     obtain ⟨s5,s6⟩:=TSH.out _ _ _ hT.out
     have s7:=s6 j hlt
     have q1:wr.cell? ⟨zb,j,none⟩=some (.pointer (some ⟨Z j,0,none⟩)):=by obtain ⟨W0,h⟩:=hZ.out;exact h.cell j (by omega)
     have HSG:Hid _:=hid (ratSign_calls (Z j) (redc m T' Bs' cost j) wr (by obtain ⟨W0,h⟩:=hZ.out;exact h.num j (by omega)))
     clear s6
     cases hsj:sh j with
     | true =>
       have HNO:Hid (∀ k,k<j+1→(!sh k && decide (redc m T' Bs' cost k<0))=false):=hid (fun k hk=>by
        by_cases e:k=j
        ·subst e;rw [hsj];rfl
        ·exact hno.out k (by omega))
       rw [hsj] at s7
       clear hsj hno HSG
       go_wp2
       go_roundw
       case rel=>exact ⟨j+1,by omega,rfl,by go_num,HNO,hZ,hT,hC⟩
       case measure=>simp [intOf];omega
     | false =>
       rw [hsj] at s7
       have HSJ:=hid hsj
       clear hsj
       go_wp2_with fail
       refine HSG.out.mono ?_;rintro e w4 ⟨rfl,rfl⟩
       clear HSG
       obtain ⟨s,hs,hs0⟩:∃ s:Int,sgnI (redc m T' Bs' cost j).num 0=s∧(s<0↔redc m T' Bs' cost j<0):=⟨_,rfl,sgn_lt0 _⟩
       rw [hs]
       clear hs
       by_cases h0:s<0
       ·have hng:=hs0.1 h0
        have HFI:=hid (firstTo_at (p:=fun j=>!sh j && decide (redc m T' Bs' cost j<0)) hlt hno.out (by simp only [HSJ.out,hng];rfl))
        have HNG:=hid hng
        clear hs0 hno hng s5 s7 q1 hZ
        have c2:w4.cell? ⟨t,2,none⟩=some (.slice RA m cA):=hT.out.t2
        go_wp2_with fail
        go_loopw [9,10,57] (fun tout tl ti wr=>∃ (i:Nat),i≤m∧ti=.int .i64 i∧Hid (Cand wr tout tl (pick T' Bs' N j i))∧Hid (TabD wr B t n m ⟨RA,cA,bA,cb,sA,cs,hbk,rb,Pt⟩ T' Bs' sg sh)∧Hid (Chg S w wr)) (fun _ _ ti _=>m-(intOf ti).toNat)
        case atStart=>exact ⟨0,Nat.zero_le _,rfl,hid ⟨rfl,rfl⟩,hT,hC⟩
        case round =>
         clear hT hC c2
         obtain ⟨i,hi,rfl,hCd,hT,hC⟩:=hrel
         by_cases hlm:i<m
         ·have hi1:(i:Int)<m:=by omega
          obtain ⟨R,hRA,c3⟩:=TROW.out _ _ _ hT.out i hlm
          subst hRA
          have c4:=(TNUM.out _ _ _ hT.out i hlm).cell j (by omega)
          have HSG:=hid (ratSign_calls (Pt i j) (T' i j) wr ((TNUM.out _ _ _ hT.out i hlm).num j (by omega)))
          go_wp2_with fail
          refine HSG.out.mono ?_;rintro e w4 ⟨rfl,rfl⟩
          clear HSG
          obtain ⟨s2,hs,hs0⟩:∃ s2:Int,sgnI (T' i j).num 0=s2∧(s2≤0↔T' i j≤0):=⟨_,rfl,sgn_le0 _⟩
          rw [hs]
          clear hs
          by_cases h1:s2≤0
          ·have HCN:Hid (Cand w4 _ _ (pick T' Bs' N j (i+1))):=hid (by rw [pick_le (hs0.1 h1)];exact hCd.out)
           clear hs0
           go_wp2
           go_roundw
           case rel=>exact ⟨i+1,by omega,by go_num,HCN,hT,hC⟩
           case measure=>simp [intOf];omega
          ·have hpos:0<T' i j:=rat_not_le fun h=>h1 (hs0.2 h)
           clear hs0
           have HPOS:=hid hpos
           clear hpos
           have c5:=(TNUM.out _ _ _ hT.out i hlm).cell N hNN
           have SA:Hid (RSm (T' i N)):=hid ((SQ.out _ _ hOk.out i N hlm hNN).rsm (by omega))
           have SB:Hid (RSm (T' i j)):=hid ((SQ.out _ _ hOk.out i j hlm (by omega)).rsm (by omega))
           go_wp2_with fail
           refine wp_region_kc (w0:=w4) 9 [68,69,70,71,72,73,74,75,76]
            [.l none (leafA RatBlk · w4.heap.size),.c (.slice (some ⟨rb i,0,none⟩) N1 N1),.c (.int .i64 N),.c (.pointer (some ⟨rb i,N,none⟩)),.c (.pointer (some ⟨(Pt i N),0,none⟩)),.c (.slice (some ⟨rb i,0,none⟩) N1 N1),.c (.int .i64 j),.c (.pointer (some ⟨rb i,j,none⟩)),.c (.pointer (some ⟨(Pt i j),0,none⟩))]
            [68] RatBlk (by kernel_rfl) (by kernel_rfl) (by kernel_rfl) rfl (F:=?cFr18) ?r18c1 ?r18c2 ?r18c3 ?r18c4
           case r18c1 =>
            intro x
            simp only [fullC,Act.put,List.setIfInBounds_toArray,List.set_cons_zero,List.set_cons_succ]
            rfl
           case r18c2 =>
            exact ⟨keeps_alloc ratBlk_ext ratBlk_other _ _ _ _ _,trivial⟩
           case r18c3 =>
            refine ⟨?_,?_,?_,?_,?_,?_,?_,?_,?_,trivial⟩
            all_goals
             intro xx wq HE hd K hK
             have hc:=(bcell HE).1
             have c4':=(hc _ _ (cell_lt c4)).trans c4
             have c5':=(hc _ _ (cell_lt c5)).trans c5
             try have g0:=hd 0 _ (by decide) rfl
             have HE:=hid HE
             have HC:=hid hc
             clear hd hc
             all_goals go_simp
             try (refine hK _ _ _ (mv_const _ rfl) ?_;dsimp only [Act.put];first|done|rfl|(simp [*];done))
            ·refine hK _ _ _ (mv_alloc _ HE.out.size (RatBlk.new _)) ?_
             dsimp only [Act.put]
             first|rfl|(simp [*];done)|(simp [*,ptr];done)
           case r18c4 =>
            intro xx wz hE hG hA
            have g0:=hG 0 _ rfl
            have e4:xx 72=_:=hG 4 _ rfl
            have e5:xx 73=_:=hG 5 _ rfl
            have e6:xx 74=_:=hG 6 _ rfl
            obtain ⟨p,h68,hp1,hp2⟩:=g0
            unfold ptr at h68
            have HE:=hid hE;have HP2:=hid hp2
            clear hG hA hE hp2
            refine tail_one (i:=9) (by kernel_rfl) rfl ?_
            intro K hK
            go_simp
            have hT5:=hT.out.ext HE.out
            refine (ratQuo_calls p (Pt i N) (Pt i j) _ _ wz HP2.out ((TNUM.out _ _ _ hT5 i hlm).num N hNN) ((TNUM.out _ _ _ hT5 i hlm).num j (by omega)) SA.out SB.out (fun e=>rat_pos_ne HPOS.out (Rat.num_eq_zero.1 e))).mono ?_;rintro e w5 ⟨rfl,hq5,hb5⟩
            refine hK _ _ ?_
            have hB5:Below w4.heap.size w4 w5:=HE.out.trans (hb5.below hp1 HE.out.size)
            have HQ5:=hid hq5;have HT5:=hid (hT.out.ext hB5);have HC5:=hid (hC.out.ext hB5);have HCD5:=hid (hCd.out.ext hB5)
            clear hK hq5 hb5 hB5 hT5 HE HP2 hT hC hCd c3 c4 c5
            (refine tail_one (i:=10) (by kernel_rfl) rfl ?_;intro K hK;go_simp;refine hK _ _ ?_;clear hK)
            refine wpAny_done (by kernel_rfl) ?_ _
            cases hpk:pick T' Bs' N j i with
            | none =>
              rw [hpk] at HCD5
              obtain ⟨rfl,rfl⟩:=HCD5.out
              have HCN:Hid (Cand w5 (.int .i64 i) (.pointer (some ⟨p,0,none⟩)) (pick T' Bs' N j (i+1))):=hid (by rw [pick_new HPOS.out hpk];exact ⟨rfl,p,rfl,HQ5.out⟩)
              clear hpk HCD5 HQ5
              go_wp2
              go_roundw
              case rel=>exact ⟨i+1,by omega,by go_num,HCN,HT5,HC5⟩
              case measure=>simp [intOf];omega
            | some ol =>
              obtain ⟨o,l⟩:=ol
              rw [hpk] at HCD5
              obtain ⟨rfl,pl,rfl,hpl⟩:=HCD5.out
              obtain ⟨hoi,hop,hle,-⟩:=Lp.pick_some hpk
              have SQU:Hid (RSm (T' i N / T' i j)):=hid (sq_quo (SQ.out _ _ hOk.out i N hlm hNN) (SQ.out _ _ hOk.out i j hlm (by omega)) (rat_pos_ne HPOS.out))
              have SLL:Hid (RSm l):=hid (by rw [hle];exact sq_quo (SQ.out _ _ hOk.out o N (by omega) hNN) (SQ.out _ _ hOk.out o j (by omega) (by omega)) (rat_pos_ne hop))
              have HPL:=hid hpl;have HPK:=hid hpk
              have hom:(o:Int)<m:=by omega
              have HCM:=hid (ratCmp_calls p pl (T' i N / T' i j) l w5 HQ5.out hpl SQU.out SLL.out)
              clear hpk HCD5 hpl hop hle
              go_wp2_with fail
              refine HCM.out.mono ?_;rintro e w6 ⟨rfl,hb6⟩
              clear HCM
              have HT6:=hid (HT5.out.ext hb6);have HC6:=hid (HC5.out.ext hb6);have HQ6:=hid (HQ5.out.ext hb6);have HPL6:=hid (HPL.out.ext hb6)
              clear HT5 HC5 HQ5 HPL hb6
              obtain ⟨bb,hbA,e5⟩:=HT6.out.bas i hlm
              subst hbA
              have e6:w6.cell? ⟨bb,o,none⟩=some (.int .i64 (Bs' o)):=by
               obtain ⟨bb',hbA,h⟩:=HT6.out.bas o (by omega)
               injection hbA with hbA;injection hbA with hbA;subst hbA;exact h
              have e4:w6.cell? ⟨t,3,none⟩=some (.slice (some ⟨bb,0,none⟩) m cb):=HT6.out.t3
              rcases rat_tri (T' i N / T' i j) l with hql|hql|hql
              ·have HPN:=hid (pick_put (N:=N) HPOS.out HPK.out (pick_no1 hql))
               rw [sgnQ_lt hql]
               clear hql
               have HCN:Hid (Cand w6 (.int .i64 (i:Nat)) (.pointer (some ⟨p,0,none⟩)) (pick T' Bs' N j (i+1))):=hid (by rw [HPN.out];exact ⟨rfl,p,rfl,HQ6.out⟩)
               clear HPN HQ6 HPL6
               go_wp2_with fail
               go_quiet (fail)
               go_wp2
               go_roundw
               case rel=>exact ⟨i+1,by omega,by go_num,hid (HCN.out.ext (drewN_below w6 _)),hid (HT6.out.ext (drewN_below w6 _)),hid (HC6.out.ext (drewN_below w6 _))⟩
               case measure=>simp [intOf];omega
              ·rw [sgnQ_eq hql]
               by_cases hgb:Bs' o<Bs' i
               ·have HPN:=hid (pick_keep (N:=N) HPOS.out HPK.out (.inr ⟨hql,hgb⟩))
                have hg1:(Bs' o:Int)<Bs' i:=by omega
                clear hql
                have HCN:Hid (Cand w6 (.int .i64 (o:Nat)) (.pointer (some ⟨pl,0,none⟩)) (pick T' Bs' N j (i+1))):=hid (by rw [HPN.out];exact ⟨rfl,pl,rfl,HPL6.out⟩)
                clear HPN HQ6 HPL6
                go_wp2_with fail
                go_quiet (fail)
                go_wp2
                go_roundw
                case rel=>exact ⟨i+1,by omega,by go_num,hid (HCN.out.ext (drewN_below w6 _)),hid (HT6.out.ext (drewN_below w6 _)),hid (HC6.out.ext (drewN_below w6 _))⟩
                case measure=>simp [intOf];omega
               ·have HPN:=hid (pick_put (N:=N) HPOS.out HPK.out (pick_no2 hql hgb))
                have hg1:¬ (Bs' o:Int)<Bs' i:=by omega
                clear hql
                have HCN:Hid (Cand w6 (.int .i64 (i:Nat)) (.pointer (some ⟨p,0,none⟩)) (pick T' Bs' N j (i+1))):=hid (by rw [HPN.out];exact ⟨rfl,p,rfl,HQ6.out⟩)
                clear HPN HQ6 HPL6
                go_wp2_with fail
                go_quiet (fail)
                go_wp2
                go_roundw
                case rel=>exact ⟨i+1,by omega,by go_num,hid (HCN.out.ext (drewN_below w6 _)),hid (HT6.out.ext (drewN_below w6 _)),hid (HC6.out.ext (drewN_below w6 _))⟩
                case measure=>simp [intOf];omega
              ·have HPN:=hid (pick_keep (N:=N) HPOS.out HPK.out (.inl hql))
               rw [sgnQ_gt hql]
               clear hql
               have HCN:Hid (Cand w6 (.int .i64 (o:Nat)) (.pointer (some ⟨pl,0,none⟩)) (pick T' Bs' N j (i+1))):=hid (by rw [HPN.out];exact ⟨rfl,pl,rfl,HPL6.out⟩)
               clear HPN HQ6 HPL6
               go_wp2_with fail
               go_quiet (fail)
               go_wp2
               go_roundw
               case rel=>exact ⟨i+1,by omega,by go_num,hid (HCN.out.ext (drewN_below w6 _)),hid (HT6.out.ext (drewN_below w6 _)),hid (HC6.out.ext (drewN_below w6 _))⟩
               case measure=>simp [intOf];omega
         ·obtain rfl:m=i:=by omega
          cases hpk:pick T' Bs' N j m with
          | none =>
            rw [hpk] at hCd
            obtain ⟨rfl,rfl⟩:=hCd.out
            have hre:=hr.out
            rw [mini_free_at HFI.out hpk] at hre
            injection hre with hre
            subst hre
            clear hCd hpk hr
            go_wp2
            go_ret
            exact ⟨rfl,hT.out,by rw [←HSS.out];exact hC.out⟩
          | some ol =>
            obtain ⟨o,l⟩:=ol
            rw [hpk] at hCd
            obtain ⟨rfl,pl,rfl,hpl⟩:=hCd.out
            obtain ⟨hoi,hop,-,-⟩:=Lp.pick_some hpk
            have HPV:=hid (PIV.out _ T' Bs' o j hT.out hOk.out hoi hlt (rat_pos_ne hop))
            have HRN:Hid (mini m N cost sh gk (piv T' o j) (pivB Bs' o j)=some r):=hid (by rw [←mini_go_at HFI.out hpk];exact hr.out)
            have HON:Hid (Lp.Ok M m N sh (piv T' o j) (pivB Bs' o j)):=hid ((Lp.nxt_some (nxt_at HFI.out hpk)).ok hOk.out)
            clear hCd hpk hr hpl hop hT
            go_wp2_with fail
            refine HPV.out.mono ?_;rintro e w7 ⟨rfl,hT7,hC7⟩
            have HT7:=hid hT7;have HC7:=hid (hC.out.trans hC7)
            clear hT7 hC7 HPV hC
            go_wp2
            go_roundg gk
            case measure=>omega
            case rel=>exact ⟨_,_,HON,HRN,HT7,HC7⟩
       ·have HNO:Hid (∀ k,k<j+1→(!sh k && decide (redc m T' Bs' cost k<0))=false):=hid (fun k hk=>by
         by_cases e:k=j
         ·subst e;rw [HSJ.out,decide_eq_false (fun h=>h0 (hs0.2 h))];rfl
         ·exact hno.out k (by omega))
        clear hs0 hno
        go_wp2
        go_roundw
        case rel=>exact ⟨j+1,by omega,rfl,by go_num,HNO,hZ,hT,hC⟩
        case measure=>simp [intOf];omega
    ·obtain rfl:N=j:=by omega
     have hfi:=firstTo_all hno.out
     have hre:=hr.out
     rw [mini_none_at hfi] at hre
     injection hre with hre
     subst hre
     clear hno hr
     go_wp2
     go_ret
     exact ⟨rfl,hT.out,by rw [←HSS.out];exact hC.out⟩
end
end Go.Proofs.YtkljafmdbajfeaaGreatDoor
