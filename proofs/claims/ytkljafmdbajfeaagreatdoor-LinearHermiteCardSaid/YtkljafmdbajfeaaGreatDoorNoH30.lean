/- exact.table.close: artificial columns are taken out. -/
import Derived.Test.YtkljafmdbajfeaaGreatDoorNoH29
namespace Go.Proofs.YtkljafmdbajfeaaGreatDoor
set_option linter.unusedVariables false
set_option linter.unusedSimpArgs false
open Go.Lib (hid)
section
open Go.RowKit
open Lp (Tab Bas Tb SmallT tab0 CloseAt piv pivB)
theorem tb_sqT {A:Tab} {b:Nat→Rat} {n m:Nat} {T:Tab} {Bs:Bas} (h:Tb (tab0 A b n m) m (n+2*m) T Bs) (hs:SmallT A b n m):SqT 10 m (n+2*m+1) T:=by
 obtain ⟨D,h0,hD,h1,h2,-⟩:=h.den hs
 intro i j hi hj
 rcases Nat.lt_or_ge j (n+2*m) with h3|h3
 ·exact (sq_den h0 hD (by omega) (h1 i j hi h3)).mono (by omega)
 ·obtain rfl:j=n+2*m:=by omega
  exact (sq_den h0 hD (by omega) (h2 i hi)).mono (by omega)
set_option maxRecDepth 100000 in
set_option maxHeartbeats 8000000 in
theorem close_calls (B t n m:Nat) (D:TA) (T:Tab) (Bs:Bas) (sg:Nat→Int) (sh:Nat→Bool) (A:Tab) (b:Nat→Rat) (w:World)
 (hT:TabD w B t n m D T Bs sg sh) (hn:n≤100) (hCl:CloseAt A b n m T Bs 0) (hsm:SmallT A b n m) :
 Calls Tryz.prog 216 #[.pointer (some ⟨t,0,none⟩)] w fun e w'=>∃ T' Bs',e=.returned (.tuple #[])∧CloseAt A b n m T' Bs' m∧TabD w' B t n m D T' Bs' sg (fun j=>sh j || decide (n+m≤j))∧Chg (inT D n m) w w':=by
 have hm:m≤100:=by have:=hsm.m6;omega
 obtain ⟨S,hS⟩:∃ S,S=inT D n m:=⟨_,rfl⟩
 have HSS:=hid hS
 have PIV:Hid (∀ W T' Bs' i j,TabD W B t n m D T' Bs' sg sh→CloseAt A b n m T' Bs' i→i<m→j<n+m→T' i j≠0→Calls Tryz.prog 233 #[.pointer (some ⟨t,0,none⟩),.int .i64 (i:Nat),.int .i64 (j:Nat)] W fun e w'=>e=.returned (.tuple #[])∧TabD w' B t n m D (piv T' i j) (pivB Bs' i j) sg sh∧Chg S W w'):=hid (by
  intro W T' Bs' i j h1 h2 h3 h4 h5
  rw [hS]
  exact pivot_calls B t n m i j D T' Bs' sg sh W h1 hn hm h3 (by omega) h5 (tb_sqT h2.tb hsm))
 have HSH:Hid (S D.hb):=hid (by rw [hS];exact .inr (.inr rfl))
 have HT:=hid hT;have HCL:=hid hCl
 clear hT hCl hsm hS
 obtain ⟨RA,cA,bA,cb,sA,cs,hbk,rb,Pt⟩:=D
 obtain ⟨N,hN⟩:∃ N,n+2*m=N:=⟨_,rfl⟩
 obtain ⟨N1,hN1⟩:∃ N1,N+1=N1:=⟨_,rfl⟩
 obtain ⟨L,hL⟩:∃ L,n+m=L:=⟨_,rfl⟩
 have HN:=hid hN;have HN1:=hid hN1;have HL:=hid hL
 rw [hL] at PIV ⊢
 have TROW:Hid (∀ W T' Bs',TabD W B t n m ⟨RA,cA,bA,cb,sA,cs,hbk,rb,Pt⟩ T' Bs' sg sh→∀ a,a<m→∃ R,RA=some ⟨R,0,none⟩∧W.cell? ⟨R,a,none⟩=some (.slice (some ⟨rb a,0,none⟩) N1 N1)):=hid (by
  intro W T' Bs' hW a ha
  have:=hW.row a ha
  rw [hN,hN1] at this;exact this)
 have TNUM:Hid (∀ W T' Bs',TabD W B t n m ⟨RA,cA,bA,cb,sA,cs,hbk,rb,Pt⟩ T' Bs' sg sh→∀ a,a<m→RowQ W B (rb a) N1 N1 (Pt a) (T' a)):=hid (by
  intro W T' Bs' hW a ha
  have:=hW.num a ha
  rw [hN,hN1] at this;exact this)
 have TSH:Hid (∀ W T' Bs' sh',TabD W B t n m ⟨RA,cA,bA,cb,sA,cs,hbk,rb,Pt⟩ T' Bs' sg sh'→W.cell? ⟨t,5,none⟩=some (.slice (some ⟨hbk,0,none⟩) N N)∧(∀ i,W.frozen? ⟨hbk,i,none⟩=false)∧∀ j,j<N→W.cell? ⟨hbk,j,none⟩=some (.bool (sh' j))):=hid (by
  intro W T' Bs' sh' hW
  have h1:=hW.t5
  have h2:=hW.shut
  rw [hN] at h1 h2;exact ⟨h1,hW.shO.2.2.2,h2⟩)
 have hNb:N≤300:=by omega
 have hLN:L≤N:=by omega
 have hNN1:N<N1:=by omega
 clear hN hN1 hL
 have c2:w.cell? ⟨t,2,none⟩=some (.slice RA m cA):=HT.out.t2
 go_enter Tryz.func216,Tryz.ntmps216
 go_wp2_with fail
 go_loopw [10] (fun ti wr=>∃ (i:Nat) (T':Tab) (Bs':Bas),i≤m∧ti=.int .i64 i∧Hid (CloseAt A b n m T' Bs' i)∧Hid (TabD wr B t n m ⟨RA,cA,bA,cb,sA,cs,hbk,rb,Pt⟩ T' Bs' sg sh)∧Hid (Chg S w wr)) (fun ti _=>m-(intOf ti).toNat)
 case atStart=>exact ⟨0,T,Bs,Nat.zero_le _,rfl,HCL,HT,hid (Chg.refl _ _)⟩
 case round =>
  clear HCL HT c2
  obtain ⟨i,T',Bs',hi,rfl,hCl,hT,hC⟩:=hrel
  by_cases hlt:i<m
  ·have hi1:(i:Int)<m:=by omega
   obtain ⟨bb,hbA,c6⟩:=hT.out.bas i hlt
   have hbA:bA=some ⟨bb,0,none⟩:=hbA
   subst hbA
   have c0:=hT.out.t0
   have c1:=hT.out.t1
   have c3:wr.cell? ⟨t,3,none⟩=some (.slice (some ⟨bb,0,none⟩) m cb):=hT.out.t3
   go_wp2_with fail
   refine wp_region_kc (w0:=wr) 16 [13,14,15,16,17,18,19,20,21,22,23,24,25,26,27,28]
    [.c (.pointer (some ⟨t,0,none⟩)),.c (.pointer (some ⟨t,0,none⟩)),.c (.pointer (some ⟨t,3,none⟩)),.c (.slice (some ⟨bb,0,none⟩) m cb),.c (.int .i64 i),.c (.pointer (some ⟨bb,i,none⟩)),.c (.int .i64 (Bs' i)),.c (.pointer (some ⟨t,0,none⟩)),.c (.pointer (some ⟨t,0,none⟩)),.c (.pointer (some ⟨t,0,none⟩)),.c (.int .i64 n),.c (.pointer (some ⟨t,0,none⟩)),.c (.pointer (some ⟨t,0,none⟩)),.c (.pointer (some ⟨t,1,none⟩)),.c (.int .i64 m),.c (.int .i64 L)]
    [] RatBlk (by kernel_rfl) (by kernel_rfl) (by kernel_rfl) rfl (F:=?cFr3) ?r3c1 ?r3c2 ?r3c3 ?r3c4
   case r3c1 =>
    intro x
    simp only [fullC,Act.put,List.setIfInBounds_toArray,List.set_cons_zero,List.set_cons_succ]
    rfl
   case r3c2 =>
    exact trivial
   case r3c3 =>
    refine ⟨?_,?_,?_,?_,?_,?_,?_,?_,?_,?_,?_,?_,?_,?_,?_,?_,trivial⟩
    all_goals
     intro xx wq HE hd K hK
     have hc:=(bcell HE).1
     have c0':=(hc _ _ (cell_lt c0)).trans c0
     have c1':=(hc _ _ (cell_lt c1)).trans c1
     have c3':=(hc _ _ (cell_lt c3)).trans c3
     have c6':=(hc _ _ (cell_lt c6)).trans c6
     have HE:=hid HE
     have HC:=hid hc
     clear hd hc
     all_goals go_simp
     try (refine hK _ _ _ (mv_const _ rfl) ?_;dsimp only [Act.put];first|done|rfl|(simp [*];done))
    ·refine hK (.int .i64 (IntKind.i64.wrap ((n:Int)+(m:Int)))) _ _ (mv_eq ?_ rfl) (by first|(dsimp only [Act.put];done)|(dsimp only [Act.put];first|rfl|(simp [*];done)|(simp [*,ptr];done)))
     have:=HL.out
     (congr 1;simp only [IntKind.wrap_i64,wrap64];omega)
   case r3c4 =>
    intro xx wz hE hG hA
    have hT2:=hid (hT.out.ext hE)
    have hC2:=hid (hC.out.ext hE)
    clear hG hA hE c0 c1 c3 c6 hT hC
    (refine tail_one (i:=16) (by kernel_rfl) rfl ?_;intro K hK;go_simp;refine hK _ _ ?_;clear hK)
    refine wpAny_done (by kernel_rfl) ?_ _
    by_cases hb:Bs' i<L
    ·have hb1:(Bs' i:Int)<L:=by omega
     have HCN:=hid (hCl.out.keep (by have:=HL.out;omega))
     go_wp2
     go_roundw
     case rel=>exact ⟨i+1,T',Bs',by omega,by go_num,HCN,hT2,hC2⟩
     case measure=>simp [intOf];omega
    ·have hb1:¬ (Bs' i:Int)<L:=by omega
     have c0:=hT2.out.t0
     have c1:=hT2.out.t1
     go_wp2_with fail
     refine wp_region_kc (w0:=wz) 10 [30,31,32,33,34,35,36,37,38,39]
      [.c (.pointer (some ⟨t,0,none⟩)),.c (.pointer (some ⟨t,0,none⟩)),.c (.pointer (some ⟨t,0,none⟩)),.c (.int .i64 n),.c (.pointer (some ⟨t,0,none⟩)),.c (.pointer (some ⟨t,0,none⟩)),.c (.pointer (some ⟨t,1,none⟩)),.c (.int .i64 m),.c (.int .i64 L),.c (.int .i64 0)]
      [] RatBlk (by kernel_rfl) (by kernel_rfl) (by kernel_rfl) rfl (F:=?cFr4) ?r4c1 ?r4c2 ?r4c3 ?r4c4
     case r4c1 =>
      intro x
      simp only [fullC,Act.put,List.setIfInBounds_toArray,List.set_cons_zero,List.set_cons_succ]
      rfl
     case r4c2 =>
      exact trivial
     case r4c3 =>
      refine ⟨?_,?_,?_,?_,?_,?_,?_,?_,?_,?_,trivial⟩
      all_goals
       intro xx wq HE hd K hK
       have hc:=(bcell HE).1
       have c0':=(hc _ _ (cell_lt c0)).trans c0
       have c1':=(hc _ _ (cell_lt c1)).trans c1
       have HE:=hid HE
       have HC:=hid hc
       clear hd hc
       all_goals go_simp
       try (refine hK _ _ _ (mv_const _ rfl) ?_;dsimp only [Act.put];first|done|rfl|(simp [*];done))
      ·refine hK (.int .i64 (IntKind.i64.wrap ((n:Int)+(m:Int)))) _ _ (mv_eq ?_ rfl) (by first|(dsimp only [Act.put];done)|(dsimp only [Act.put];first|rfl|(simp [*];done)|(simp [*,ptr];done)))
       have:=HL.out
       (congr 1;simp only [IntKind.wrap_i64,wrap64];omega)
     case r4c4 =>
      intro xx wz hE hG hA
      have hT3:=hid (hT2.out.ext hE)
      have hC3:=hid (hC2.out.ext hE)
      clear hG hA hE c0 c1 hT2 hC2
      refine wpAny_done (by kernel_rfl) ?_ _
      go_wp2_with fail
      go_loopw [39] (fun tj wr=>∃ (j:Nat),j≤L∧tj=.int .i64 j∧Hid (∀ k,k<j→T' i k=0)∧Hid (TabD wr B t n m ⟨RA,cA,some ⟨bb,0,none⟩,cb,sA,cs,hbk,rb,Pt⟩ T' Bs' sg sh)∧Hid (Chg S w wr)) (fun tj _=>L-(intOf tj).toNat)
      case atStart=>exact ⟨0,Nat.zero_le _,rfl,hid (fun k hk=>by omega),hT3,hC3⟩
      case round =>
       clear hT3 hC3
       obtain ⟨j,hj,rfl,hno,hT,hC⟩:=hrel
       by_cases hlj:j<L
       ·have hj1:(j:Int)<L:=by omega
        have hj2:(j:Int)<N1:=by omega
        obtain ⟨R,hRA,q1⟩:=TROW.out _ _ _ hT.out i hlt
        subst hRA
        have q2:wr.cell? ⟨t,2,none⟩=some (.slice (some ⟨R,0,none⟩) m cA):=hT.out.t2
        have q3:=(TNUM.out _ _ _ hT.out i hlt).cell j (by omega)
        have HSG:=hid (ratSign_calls (Pt i j) (T' i j) wr ((TNUM.out _ _ _ hT.out i hlt).num j (by omega)))
        go_wp2_with fail
        refine HSG.out.mono ?_;rintro e w4 ⟨rfl,rfl⟩
        clear HSG
        obtain ⟨s,hs,hs0⟩:∃ s:Int,sgnI (T' i j).num 0=s∧(s=0↔T' i j=0):=⟨_,rfl,sgn_eq0 _⟩
        rw [hs]
        clear hs
        by_cases h0:s=0
        ·have HNO:Hid (∀ k,k<j+1→T' i k=0):=hid (fun k hk=>by
          by_cases e:k=j
          ·subst e;exact hs0.1 h0
          ·exact hno.out k (by omega))
         clear hs0 hno
         subst h0
         go_wp2
         go_roundw
         case rel=>exact ⟨j+1,by omega,by go_num,HNO,hT,hC⟩
         case measure=>simp [intOf];omega
        ·have hne:T' i j≠0:=fun h=>h0 (hs0.2 h)
         have HCN:=hid (hCl.out.pivot hlt (by have:=HL.out;omega) (by have:=HL.out;omega) hne)
         have HPV:=hid (PIV.out _ T' Bs' i j hT.out hCl.out hlt hlj hne)
         clear hs0 hno hne q1 q2 q3 hT
         have h0f:(s == 0)=false:=by simpa using h0
         go_wp2_with fail
         refine HPV.out.mono ?_;rintro e w5 ⟨rfl,hT5,hC5⟩
         have HT5:=hid hT5;have HC5:=hid (hC.out.trans hC5)
         clear hT5 hC5 HPV hC
         go_wp2
         go_roundw
         case rel=>exact ⟨i+1,_,_,by omega,by go_num,HCN,HT5,HC5⟩
         case measure=>simp [intOf];omega
       ·obtain rfl:L=j:=by omega
        have HCN:=hid (hCl.out.nil (by have:=HL.out;rw [this];exact hno.out))
        clear hno
        go_wp2
        go_roundw
        case rel=>exact ⟨i+1,T',Bs',by omega,by go_num,HCN,hT,hC⟩
        case measure=>simp [intOf];omega
  ·obtain rfl:m=i:=by omega
   have c0:=hT.out.t0
   have c1:=hT.out.t1
   go_wp2_with fail
   refine wp_region_kc (w0:=wr) 9 [60,61,62,63,64,65,66,67,68]
    [.c (.pointer (some ⟨t,0,none⟩)),.c (.pointer (some ⟨t,0,none⟩)),.c (.pointer (some ⟨t,0,none⟩)),.c (.int .i64 n),.c (.pointer (some ⟨t,0,none⟩)),.c (.pointer (some ⟨t,0,none⟩)),.c (.pointer (some ⟨t,1,none⟩)),.c (.int .i64 m),.c (.int .i64 L)]
    [] RatBlk (by kernel_rfl) (by kernel_rfl) (by kernel_rfl) rfl (F:=?cFr11) ?r11c1 ?r11c2 ?r11c3 ?r11c4
   case r11c1 =>
    intro x
    simp only [fullC,Act.put,List.setIfInBounds_toArray,List.set_cons_zero,List.set_cons_succ]
    rfl
   case r11c2 =>
    exact trivial
   case r11c3 =>
    refine ⟨?_,?_,?_,?_,?_,?_,?_,?_,?_,trivial⟩
    all_goals
     intro xx wq HE hd K hK
     have hc:=(bcell HE).1
     have c0':=(hc _ _ (cell_lt c0)).trans c0
     have c1':=(hc _ _ (cell_lt c1)).trans c1
     have HE:=hid HE
     have HC:=hid hc
     clear hd hc
     all_goals go_simp
     try (refine hK _ _ _ (mv_const _ rfl) ?_;dsimp only [Act.put];first|done|rfl|(simp [*];done))
    ·refine hK (.int .i64 (IntKind.i64.wrap ((n:Int)+(m:Int)))) _ _ (mv_eq ?_ rfl) (by first|(dsimp only [Act.put];done)|(dsimp only [Act.put];first|rfl|(simp [*];done)|(simp [*,ptr];done)))
     have:=HL.out
     (congr 1;simp only [IntKind.wrap_i64,wrap64];omega)
   case r11c4 =>
    intro xx wz hE hG hA
    have e2:xx 62=_:=hG 2 _ rfl
    have hT3:=hid (hT.out.ext hE)
    have hC3:=hid (hC.out.ext hE)
    clear hG hA hE c0 c1 hT hC
    (refine tail_one (i:=9) (by kernel_rfl) rfl ?_;intro K hK;go_simp;refine hK _ _ ?_;clear hK)
    refine wpAny_done (by kernel_rfl) ?_ _
    go_wp2_with fail
    go_loopw [4] (fun tj wr=>∃ (j:Nat),L≤j∧j≤N∧tj=.int .i64 j∧Hid (TabD wr B t n m ⟨RA,cA,bA,cb,sA,cs,hbk,rb,Pt⟩ T' Bs' sg (fun k=>sh k || (decide (L≤k) && decide (k<j))))∧Hid (Chg S w wr)) (fun tj _=>N-(intOf tj).toNat)
    case atStart=>exact ⟨L,Nat.le_refl _,hLN,rfl,hid (hT3.out.congr (fun _ _ _ _=>rfl) (fun _ _=>rfl) fun k hk=>by
     by_cases e:L≤k
     ·simp [e,show ¬ k<L by omega]
     ·simp [e]),hC3⟩
    case round =>
     clear hT3 hC3
     obtain ⟨j,hj0,hj,rfl,hT,hC⟩:=hrel
     have c0:=hT.out.t0
     have c1:=hT.out.t1
     go_wp2_with fail
     refine wp_region_kc (w0:=wr) 11 [69,70,71,72,73,74,75,76,77,78,79]
      [.c (.int .i64 j),.c (.pointer (some ⟨t,0,none⟩)),.c (.pointer (some ⟨t,0,none⟩)),.c (.pointer (some ⟨t,0,none⟩)),.c (.int .i64 n),.c (.pointer (some ⟨t,0,none⟩)),.c (.pointer (some ⟨t,0,none⟩)),.c (.pointer (some ⟨t,1,none⟩)),.c (.int .i64 m),.c (.int .i64 (2*m:Nat)),.c (.int .i64 N)]
      [] RatBlk (by kernel_rfl) (by kernel_rfl) (by kernel_rfl) rfl (F:=?cFr12) ?r12c1 ?r12c2 ?r12c3 ?r12c4
     case r12c1 =>
      intro x
      simp only [fullC,Act.put,List.setIfInBounds_toArray,List.set_cons_zero,List.set_cons_succ]
      rfl
     case r12c2 =>
      exact trivial
     case r12c3 =>
      refine ⟨?_,?_,?_,?_,?_,?_,?_,?_,?_,?_,?_,trivial⟩
      all_goals
       intro xx wq HE hd K hK
       have hc:=(bcell HE).1
       have c0':=(hc _ _ (cell_lt c0)).trans c0
       have c1':=(hc _ _ (cell_lt c1)).trans c1
       have HE:=hid HE
       have HC:=hid hc
       clear hd hc
       all_goals go_simp
       try (refine hK _ _ _ (mv_const _ rfl) ?_;dsimp only [Act.put];first|done|rfl|(simp [*];done))
      ·refine hK (.int .i64 (IntKind.i64.wrap (2*(m:Int)))) _ _ (mv_eq ?_ rfl) (by first|(dsimp only [Act.put];done)|(dsimp only [Act.put];first|rfl|(simp [*];done)|(simp [*,ptr];done)))
       (congr 1;simp only [IntKind.wrap_i64,wrap64];omega)
      ·refine hK (.int .i64 (IntKind.i64.wrap ((n:Int)+2*(m:Int)))) _ _ (mv_eq ?_ rfl) (by first|(dsimp only [Act.put];done)|(dsimp only [Act.put];first|rfl|(simp [*];done)|(simp [*,ptr];done)))
       have:=HN.out
       (congr 1;simp only [IntKind.wrap_i64,wrap64];omega)
     case r12c4 =>
      intro xx wz hE hG hA
      have e2:xx 71=_:=hG 2 _ rfl
      have hT4:=hid (hT.out.ext hE)
      have hC4:=hid (hC.out.ext hE)
      clear hG hA hE c0 c1 hT hC
      (refine tail_one (i:=11) (by kernel_rfl) rfl ?_;intro K hK;go_simp;refine hK _ _ ?_;clear hK)
      refine wpAny_done (by kernel_rfl) ?_ _
      by_cases hlj:j<N
      ·have hj1:(j:Int)<N:=by omega
       obtain ⟨c5,hfr,hsh⟩:=TSH.out _ _ _ _ hT4.out
       obtain ⟨bv,c6⟩:∃ bv,wz.cell? ⟨hbk,j,none⟩=some (.bool bv):=⟨_,hsh j hlj⟩
       have hfj:=hfr j
       clear hsh hfr
       have HSET:=hid (hT4.out.setSh (i:=j) (by have:=HN.out;omega) true)
       have HCS:Hid (Chg S w (wz.setCell ⟨hbk,j,none⟩ (.bool true))):=hid (hC4.out.trans (Chg.ofBut ((But.refl _ _).set j _) (fun o x e=>by obtain ⟨y,e2⟩:=hT4.out.shO.2.2.1 _ _ e;cases e2) HSH.out))
       clear hT4 hC4
       go_wp2
       go_roundw
       case rel =>
        refine ⟨j+1,by omega,by omega,by go_num,hid (HSET.out.congr (fun _ _ _ _=>rfl) (fun _ _=>rfl) fun k hk=>?_),HCS⟩
        by_cases e:k=j
        ·subst e;simp [hj0]
        ·rw [if_neg e]
         by_cases e2:k<j
         ·simp [e2,show k<j+1 by omega]
         ·simp [e2,show ¬ k<j+1 by omega]
       case measure=>simp [intOf];omega
      ·obtain rfl:N=j:=by omega
       go_wp2
       go_end0
       refine ⟨T',Bs',rfl,hCl.out,hT4.out.congr (fun _ _ _ _=>rfl) (fun _ _=>rfl) fun k hk=>?_,by rw [←HSS.out];exact hC4.out⟩
       rw [decide_eq_true (show k<N by have:=HN.out;omega),Bool.and_true]
end
section
open Go.RowKit Go.ChangeMaps
def RatsX (w:World) (v:Value) (n:Nat) (q:Nat→Rat):Prop:=∃ A c,v=.slice A n c∧n≤c∧c≤maxLen∧∀ i,i<n→∃ a o p,A=some ⟨a,o,none⟩∧w.cell? ⟨a,o+i,none⟩=some (.pointer (some ⟨p,0,none⟩))∧RatP w p (q i)
theorem RatsX.ext {w w':World} {v:Value} {n:Nat} {q:Nat→Rat} (h:RatsX w v n q) (hb:Below w.heap.size w w'):RatsX w' v n q:=by
 obtain ⟨A,c,h1,h2,h3,h4⟩:=h
 refine ⟨A,c,h1,h2,h3,fun i hi=>?_⟩
 obtain ⟨a,o,p,e,hc,hz⟩:=h4 i hi
 exact ⟨a,o,p,e,(hb.cell (p:=⟨a,o+i,none⟩) (cell_lt hc)).trans hc,hz.ext hb⟩
theorem RatsX.at {w:World} {A:Option Addr} {c n:Nat} {q:Nat→Rat} (h:RatsX w (.slice A n c) n q) {i:Nat} (hi:i<n):∃ a o p,A=some ⟨a,o,none⟩∧w.cell? ⟨a,o+i,none⟩=some (.pointer (some ⟨p,0,none⟩))∧RatP w p (q i):=by
 obtain ⟨A',c',h1,h2,h3,h4⟩:=h
 injection h1 with h1;subst h1;exact h4 i hi
theorem RowQ.rats {w:World} {B b n:Nat} {P:Nat→Nat} {q:Nat→Rat} (h:RowQ w B b n n P q) (hn:n≤maxLen):RatsX w (.slice (some ⟨b,0,none⟩) n n) n q :=
 ⟨_,n,rfl,Nat.le_refl _,hn,fun i hi=>⟨b,0,P i,rfl,by rw [Nat.zero_add];exact h.cell i hi,h.num i hi⟩⟩
theorem Chg.ofGrown {Q:Value→Prop} {w w':World} {v:Value} (hg:w.grownBy w' v.ownBlock) (hq:OwnC Q w v) (hQ:∀ n,¬ Q (.int .u32 n)):Chg (fun k=>v.ownBlock=some k) w w' :=
 ⟨hg.os,hg.tape,hg.output,hg.size,fun k hk hS=>hg.block k hk (fun e=>hS e.symm),fun k o n hc=>hg.block k (cell_lt hc) (fun e=>hQ n (hq k e.symm o _ hc))⟩
theorem RatP.chgQ {Q:Value→Prop} {w w':World} {v:Value} {p:Nat} {x:Rat} (h:RatP w p x) (hc:Chg (fun k=>v.ownBlock=some k) w w') (hq:OwnC Q w v) (hQ:∀ A k c,¬ Q (.slice A k c)):RatP w' p x :=
 h.chg hc (fun e=>(all_ne h.blk (hq p e) hQ) rfl)
structure PRat (w:World) (base:Nat) (v:Value) (i:Nat) (q:Nat→Rat):Prop where
 ex:∃ ps:List Nat,ps.length=i∧w.ownsRow base 201 1 v i (ps.map pv)∧OwnC isPtr w v∧∀ j,∀ hj:j<ps.length,RatP w ps[j] (q j)
theorem PRat.ext {w w':World} {base i:Nat} {v:Value} {q:Nat→Rat} (h:PRat w base v i q) (hb:Below w.heap.size w w'):PRat w' base v i q:=by
 obtain ⟨ps,h1,h2,h4,h3⟩:=h.ex
 exact ⟨ps,h1,own_ext h2 hb,h4.ext h2 hb,fun j hj=>(h3 j hj).ext hb⟩
theorem PRat.rats {w:World} {base i:Nat} {v:Value} {q:Nat→Rat} (h:PRat w base v i q):RatsX w v i q:=by
 obtain ⟨ps,h1,h2,-,h3⟩:=h.ex
 obtain ⟨-,h4⟩:=id h2
 rcases h4 with ⟨rfl,h0⟩|⟨g,cap,cur,rfl,hg,hh,h5,h6,_⟩
 ·subst h0;exact ⟨none,0,rfl,Nat.le_refl _,Nat.zero_le _,fun i hi=>by omega⟩
 ·refine ⟨_,cap,rfl,h5,h6,fun j hj=>⟨g,0,ps[j]'(by omega),rfl,?_,h3 j (by omega)⟩⟩
  rw [Nat.zero_add,h2.cellAt j (by omega)]
  simp [pv,h1,hj]
theorem isPtr_u (n:Int):¬ isPtr (.int .u32 n):=fun ⟨a,e⟩=>by cases e
theorem isPtr_s (A:Option Addr) (k c:Nat):¬ isPtr (.slice A k c):=fun ⟨a,e⟩=>by cases e
theorem mk1 (z:Int):mkRat z (Int.natAbs 1)=(z:Rat):=by rw [show Int.natAbs 1=1 from rfl,Rat.mkRat_one]
set_option maxRecDepth 100000 in
set_option maxHeartbeats 2000000 in
theorem rats_calls (A:Option Addr) (c:Nat) (xs:List Int) (w:World) (h:Ints w A xs) (hl:xs.length≤1000) (hr:∀ x∈xs,-9223372036854775808≤x∧x≤9223372036854775807) :
 Calls Tryz.prog 179 #[.slice A xs.length c] w fun e w'=>∃ v,e=.returned v∧RatsX w' v xs.length (fun i=>(nth xs i:Rat))∧Below w.heap.size w w':=by
 obtain ⟨i0,hi0,hz0,hz1,hz2⟩:=info_parts infoRatP
 have HH:=hid h
 have HR:Hid (∀ x∈xs,-9223372036854775808≤x∧x≤9223372036854775807):=hid hr
 clear h hr
 go_enter Tryz.func179,Tryz.ntmps179
 go_wp2
 go_loopw [3,8] (fun tv ti wr=>∃ (i:Nat),i≤xs.length∧ti=.int .i64 i∧Hid (PRat wr w.heap.size tv i (fun i=>(nth xs i:Rat)))∧Hid (Below w.heap.size w wr)) (fun _ ti _=>xs.length-(intOf ti).toNat)
 case atStart=>exact ⟨0,Nat.zero_le _,rfl,hid ⟨[],rfl,World.ownsRow_nil _ _ _ _,OwnC.nil _ _ _ _,fun j hj=>by simp at hj⟩,hid (Below.refl _ _)⟩
 case round =>
  obtain ⟨i,hi,rfl,hP,hbe⟩:=hrel
  by_cases hlt:i<xs.length
  ·have hn1:(i:Int)<xs.length:=by omega
   obtain ⟨b,o,rfl,hc⟩:=(HH.out.ext hbe.out) i hlt
   have hm:=HR.out _ (List.getElem_mem hlt)
   rw [←nth_lt hlt] at hm
   have hnew:=newRat_calls (nth xs i) 1 wr hm.1 hm.2 (by omega) (by omega)
   rw [mk1] at hnew
   have HNEW:=hid hnew
   obtain ⟨ps0,-,hq2,-⟩:=hP.out.ex
   obtain ⟨A3,c3,rfl,hc3,hc4⟩:=own_size hq2
   clear hm hnew hq2
   go_wp2_with fail
   refine HNEW.out.mono ?_;rintro e w2 ⟨p,rfl,hp,hz,hb2⟩
   have hA:Below w2.heap.size w2 (w2.alloc (.cells #[.pointer (some ⟨p,0,none⟩)] 201 (0,0))):=(Below.refl _ _).alloc (Nat.le_refl _) _
   have hB:=Blk.new w2 [.pointer (some ⟨p,0,none⟩)] 201
   have hP2:=(hP.out.ext hb2).ext hA
   obtain ⟨ps,hps1,hps2,hps4,hps3⟩:=hP2.ex
   have HO1:=hid hps2;have HC1:=hid hps4;have HBL:=hid hB;have HA:=hid hA;have H3:=hid hps3;have HZ:=hid (hz.ext hA);have HB2:=hid hb2
   have hsz:=hbe.out.size
   have hsz2:=hb2.size
   clear hP2 hps2 hps3 hps4 hB hA hz hb2 HNEW
   go_wp2_with (at_builtin;refine wpList_append_all isPtr rfl _ _ 82 rfl w.heap.size 201 i0 (.pointer none) 8 Tryz.underlying82 hi0 hz0 hz1 hz2 rfl ⟨_,rfl⟩ _ _ _ rfl HO1.out HC1.out ⟨w2.heap.size,0,none⟩ 1 1 [.pointer (some ⟨p,0,none⟩)] rfl ?qc1 ?qc2 ?qc3 ?qc7 ?qc8 ?qc4 ?qc5 ?qc6 ?_)
   case qc1=>rfl
   case qc2 =>
    intro j u hj
    cases j with
    | zero=>simp at hj;subst hj;exact HBL.out.cell 0 (by simp)
    | succ j=>simp at hj
   case qc3=>intro u hu;simp at hu;subst hu;rfl
   case qc7=>intro u hu;simp at hu;subst hu;exact ⟨_,rfl⟩
   case qc8=>omega
   case qc4=>unfold maxLen;omega
   case qc5=>omega
   case qc6=>simp;omega
   intro v' w3 hown' hgrow hoc
   have hb23:Below w.heap.size w2 w3:=((HA.out.mono (by omega)).grown hgrow (by simp;omega) (own_block HO1.out))
   have hch:=Chg.ofGrown hgrow HC1.out isPtr_u
   have hP3:PRat w3 w.heap.size v' (i+1) (fun i=>(nth xs i:Rat)):=by
    refine ⟨ps ++ [p],by simp [hps1],by simpa [pv] using hown',hoc,fun j hj=>?_⟩
    rw [List.getElem_append]
    split
    ·rename_i h1;exact (H3.out j h1).chgQ hch HC1.out isPtr_s
    ·rename_i h1
     have:j=i:=by simp at hj;omega
     subst this
     simp only [hps1,Nat.sub_self,List.getElem_cons_zero]
     exact HZ.out.chgQ hch HC1.out isPtr_s
   have HP3:=hid hP3;have HB3:=hid ((hbe.out.trans (HB2.out.mono hsz)).trans hb23)
   clear hown' hgrow hoc hP3 hb23 HO1 hch
   go_wp2
   go_roundw
   case rel=>exact ⟨i+1,by omega,by go_num,HP3,HB3⟩
   case measure=>simp [intOf];omega
  ·obtain rfl:i=xs.length:=by omega
   go_wp2
   go_ret
   exact ⟨_,rfl,hP.out.rats,hbe.out⟩
end
end Go.Proofs.YtkljafmdbajfeaaGreatDoor
