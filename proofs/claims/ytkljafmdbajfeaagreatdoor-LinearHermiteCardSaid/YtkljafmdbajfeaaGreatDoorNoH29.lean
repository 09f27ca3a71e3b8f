/- exact.table.fix: columns that would raise what was minimized are shut. -/
import Derived.Test.YtkljafmdbajfeaaGreatDoorNoH28
namespace Go.Proofs.YtkljafmdbajfeaaGreatDoor
set_option linter.unusedVariables false
set_option linter.unusedSimpArgs false
open Go.Lib (hid)
section
open Go.RowKit
open Lp (Tab Bas)
set_option maxRecDepth 100000 in
set_option maxHeartbeats 4000000 in
theorem fix_calls (B t n m:Nat) (D:TA) (T:Tab) (Bs:Bas) (sg:Nat→Int) (sh:Nat→Bool) (Bz bz n1:Nat) (Z:Nat→Nat) (q:Nat→Rat) (w:World)
 (hT:TabD w B t n m D T Bs sg sh) (hz:RowQ w Bz bz n1 n1 Z q) (hzb:¬ inT D n m bz) (hzZ:∀ i,i<n1→¬ inT D n m (Z i)) (hn1:n+2*m≤n1) (hn:n≤100) (hm:m≤100) :
 Calls Tryz.prog 219 #[.pointer (some ⟨t,0,none⟩),.slice (some ⟨bz,0,none⟩) n1 n1] w fun e w'=>e=.returned (.tuple #[])∧TabD w' B t n m D T Bs sg (fun j=>sh j || decide (0<q j))∧Chg (inT D n m) w w':=by
 obtain ⟨S,hS⟩:∃ S,S=inT D n m:=⟨_,rfl⟩
 have HSS:=hid hS
 have hSh:S D.hb:=by rw [hS];exact .inr (.inr rfl)
 have HSH:=hid hSh
 have HZR:Hid (∀ W,Chg S w W→RowQ W Bz bz n1 n1 Z q):=hid (by
  intro W h;rw [hS] at h;exact hz.chg h hzb hzZ)
 have HT:=hid hT
 clear hT hz hzb hzZ hS hSh
 obtain ⟨RA,cA,bA,cb,sA,cs,hbk,rb,Pt⟩:=D
 obtain ⟨N,hN⟩:∃ N,n+2*m=N:=⟨_,rfl⟩
 have HN:=hid hN
 have TSH:Hid (∀ W sh',TabD W B t n m ⟨RA,cA,bA,cb,sA,cs,hbk,rb,Pt⟩ T Bs sg sh'→W.cell? ⟨t,5,none⟩=some (.slice (some ⟨hbk,0,none⟩) N N)∧(∀ i,W.frozen? ⟨hbk,i,none⟩=false)∧∀ j,j<N→W.cell? ⟨hbk,j,none⟩=some (.bool (sh' j))):=hid (by
  intro W sh' hW
  have h1:=hW.t5
  have h2:=hW.shut
  rw [hN] at h1 h2;exact ⟨h1,hW.shO.2.2.2,h2⟩)
 have hNb:N≤300:=by omega
 rw [hN] at hn1
 clear hN
 have c5:=(TSH.out w sh HT.out).1
 go_enter Tryz.func219,Tryz.ntmps219
 go_wp2_with fail
 go_loopw [10] (fun tj wr=>∃ (j:Nat),j≤N∧tj=.int .i64 j∧Hid (TabD wr B t n m ⟨RA,cA,bA,cb,sA,cs,hbk,rb,Pt⟩ T Bs sg (fun k=>if k<j then sh k || decide (0<q k) else sh k))∧Hid (Chg S w wr)) (fun tj _=>N-(intOf tj).toNat)
 case atStart=>exact ⟨0,Nat.zero_le _,rfl,hid (HT.out.congr (fun _ _ _ _=>rfl) (fun _ _=>rfl) fun k hk=>by rw [if_neg (by omega)]),hid (Chg.refl _ _)⟩
 case round =>
  clear HT c5
  obtain ⟨j,hj,rfl,hT,hC⟩:=hrel
  by_cases hlt:j<N
  ·have hj1:(j:Int)<N:=by omega
   have hj2:(j:Int)<n1:=by omega
   obtain ⟨c5,hfr,hsh⟩:=TSH.out _ _ hT.out
   have c6:=hsh j hlt
   have hz1:=HZR.out _ hC.out
   have c7:=hz1.cell j (by omega)
   have HNM:=hid (hz1.num j (by omega))
   have HFR:=hid hfr
   simp only [Nat.lt_irrefl,if_false] at c6
   clear hsh hfr hz1
   have hfin:Hid (∀ W,Below wr.heap.size wr W→TabD (W.setCell ⟨hbk,j,none⟩ (.bool (sh j || decide (0<q j)))) B t n m ⟨RA,cA,bA,cb,sA,cs,hbk,rb,Pt⟩ T Bs sg (fun k=>if k<j+1 then sh k || decide (0<q k) else sh k)∧Chg S w (W.setCell ⟨hbk,j,none⟩ (.bool (sh j || decide (0<q j))))):=hid (by
    intro W hW
    have h1:=hT.out.ext hW
    have h2:=h1.setSh (i:=j) (by have:=HN.out;omega) (sh j || decide (0<q j))
    refine ⟨h2.congr (fun _ _ _ _=>rfl) (fun _ _=>rfl) fun k hk=>?_,(hC.out.ext hW).trans (Chg.ofBut ((But.refl _ _).set _ _) (fun o x e=>?_) HSH.out)⟩
    ·by_cases e:k=j
     ·subst e;simp
     ·by_cases e2:k<j
      ·simp [e,e2,show k<j+1 by omega]
      ·simp [e,e2,show ¬ k<j+1 by omega]
    ·obtain ⟨y,e2⟩:=h1.shO.2.2.1 _ _ e;cases e2)
   cases hsj:sh j with
   | true =>
     rw [hsj] at c6 hfin
     simp only [Bool.true_or] at hfin
     clear hsj
     go_wp2_with fail
     refine wp_region_kc (w0:=wr) 20 [13,14,15,16,17,18,19,20,21,22,23,24,25,26,27,28,29,30,31,32]
      [.c (.pointer (some ⟨t,0,none⟩)),.c (.pointer (some ⟨t,0,none⟩)),.c (.pointer (some ⟨t,5,none⟩)),.c (.slice (some ⟨hbk,0,none⟩) N N),.c (.int .i64 j),.c (.pointer (some ⟨t,0,none⟩)),.c (.pointer (some ⟨t,0,none⟩)),.c (.pointer (some ⟨t,5,none⟩)),.c (.slice (some ⟨hbk,0,none⟩) N N),.c (.int .i64 j),.c (.pointer (some ⟨hbk,j,none⟩)),.c (.bool true),.c (.bool true),.c undef,.c undef,.c undef,.c undef,.c undef,.c undef,.c (.bool true)]
      [] RatBlk (by kernel_rfl) (by kernel_rfl) (by kernel_rfl) rfl (F:=?cFr3a) ?r3ac1 ?r3ac2 ?r3ac3 ?r3ac4
     case r3ac1 =>
      intro x
      simp only [fullC,Act.put,List.setIfInBounds_toArray,List.set_cons_zero,List.set_cons_succ]
      rfl
     case r3ac2 =>
      exact trivial
     case r3ac3 =>
      refine ⟨?_,?_,?_,?_,?_,?_,?_,?_,?_,?_,?_,?_,?_,?_,?_,?_,?_,?_,?_,?_,trivial⟩
      all_goals
       intro xx wq HE hd K hK
       have hc:=(bcell HE).1
       have c5':=(hc _ _ (cell_lt c5)).trans c5
       have c6':=(hc _ _ (cell_lt c6)).trans c6
       have c7':=(hc _ _ (cell_lt c7)).trans c7
       have HE:=hid HE
       have HC:=hid hc
       clear hd hc
       all_goals go_simp
       try (refine hK _ _ _ (mv_const _ rfl) ?_;dsimp only [Act.put];first|done|rfl|(simp [*];done))
     case r3ac4 =>
      intro xx wz hE hG hA
      have hTz:=hT.out.ext hE
      obtain ⟨-,hfrz,hshz⟩:=TSH.out _ _ hTz
      have c6z:=hshz j hlt
      simp only [Nat.lt_irrefl,if_false] at c6z
      have hfj:=hfrz j
      have HF:=hid (hfin.out wz hE)
      clear hG hA hE hTz hfrz hshz
      (refine tail_one (i:=20) (by kernel_rfl) rfl ?_;intro K hK;go_simp;refine hK _ _ ?_;clear hK)
      (refine tail_one (i:=21) (by kernel_rfl) rfl ?_;intro K hK;go_simp;refine hK _ _ ?_;clear hK)
      refine wpAny_done (by kernel_rfl) ?_ _
      go_wp2
      go_roundw
      case rel=>exact ⟨j+1,by omega,by go_num,hid HF.out.1,hid HF.out.2⟩
      case measure=>simp [intOf];omega
   | false =>
     rw [hsj] at c6 hfin
     simp only [Bool.false_or] at hfin
     obtain ⟨s,hs,hs0⟩:∃ s:Int,sgnI (q j).num 0=s∧decide (0<q j)=decide (0<s):=by
      exact ⟨_,rfl,sgn_gt0 _⟩
     rw [hs0] at hfin
     have HS:=hid hs
     clear hsj hs hs0
     go_wp2_with fail
     refine wp_region_kc (w0:=wr) 20 [13,14,15,16,17,18,19,20,21,22,23,24,25,26,27,28,29,30,31,32]
      [.c (.pointer (some ⟨t,0,none⟩)),.c (.pointer (some ⟨t,0,none⟩)),.c (.pointer (some ⟨t,5,none⟩)),.c (.slice (some ⟨hbk,0,none⟩) N N),.c (.int .i64 j),.c (.pointer (some ⟨t,0,none⟩)),.c (.pointer (some ⟨t,0,none⟩)),.c (.pointer (some ⟨t,5,none⟩)),.c (.slice (some ⟨hbk,0,none⟩) N N),.c (.int .i64 j),.c (.pointer (some ⟨hbk,j,none⟩)),.c (.bool false),.c (.bool false),.c (.slice (some ⟨bz,0,none⟩) n1 n1),.c (.int .i64 j),.c (.pointer (some ⟨bz,j,none⟩)),.c (.pointer (some ⟨(Z j),0,none⟩)),.c (.int .i64 s),.c (.bool (decide (0<s))),.c (.bool (decide (0<s)))]
      [] RatBlk (by kernel_rfl) (by kernel_rfl) (by kernel_rfl) rfl (F:=?cFr3b) ?r3bc1 ?r3bc2 ?r3bc3 ?r3bc4
     case r3bc1 =>
      intro x
      simp only [fullC,Act.put,List.setIfInBounds_toArray,List.set_cons_zero,List.set_cons_succ]
      rfl
     case r3bc2 =>
      exact trivial
     case r3bc3 =>
      refine ⟨?_,?_,?_,?_,?_,?_,?_,?_,?_,?_,?_,?_,?_,?_,?_,?_,?_,?_,?_,?_,trivial⟩
      all_goals
       intro xx wq HE hd K hK
       have hc:=(bcell HE).1
       have c5':=(hc _ _ (cell_lt c5)).trans c5
       have c6':=(hc _ _ (cell_lt c6)).trans c6
       have c7':=(hc _ _ (cell_lt c7)).trans c7
       have HE:=hid HE
       have HC:=hid hc
       clear hd hc
       all_goals go_simp
       try (refine hK _ _ _ (mv_const _ rfl) ?_;dsimp only [Act.put];first|done|rfl|(simp [*];done))
      ·refine (ratSign_calls (Z j) (q j) wq (HNM.out.ext HE.out)).mono ?_
       rintro e w2 ⟨rfl,h2⟩
       rw [HS.out,h2]
       exact hK _ _ _ (mv_const _ rfl) (by first|(dsimp only [Act.put];done)|(dsimp only [Act.put];first|rfl|(simp [*];done)|(simp [*,ptr];done)))
     case r3bc4 =>
      intro xx wz hE hG hA
      have hTz:=hT.out.ext hE
      obtain ⟨-,hfrz,hshz⟩:=TSH.out _ _ hTz
      have c6z:=hshz j hlt
      simp only [Nat.lt_irrefl,if_false] at c6z
      have hfj:=hfrz j
      have HF:=hid (hfin.out wz hE)
      clear hG hA hE hTz hfrz hshz
      (refine tail_one (i:=20) (by kernel_rfl) rfl ?_;intro K hK;go_simp;refine hK _ _ ?_;clear hK)
      (refine tail_one (i:=21) (by kernel_rfl) rfl ?_;intro K hK;go_simp;refine hK _ _ ?_;clear hK)
      refine wpAny_done (by kernel_rfl) ?_ _
      go_wp2
      go_roundw
      case rel=>exact ⟨j+1,by omega,by go_num,hid HF.out.1,hid HF.out.2⟩
      case measure=>simp [intOf];omega
  ·obtain rfl:N=j:=by omega
   go_wp2
   go_end0
   exact ⟨rfl,hT.out.congr (fun _ _ _ _=>rfl) (fun _ _=>rfl) fun k hk=>by rw [if_pos (by have:=HN.out;omega)],by rw [←HSS.out];exact hC.out⟩
end
section
open Go.RowKit
open Lp (Tab Bas sumTo bs dir)
def colTo (T:Tab) (Bs:Bas) (k i c:Nat):Rat:=sumTo i fun a=>if Bs a=c then T a k else 0
theorem colTo_step {T:Tab} {Bs:Bas} {k i m:Nat} (hi:i<m) (inj:∀ a b,a<m→b<m→Bs a=Bs b→a=b) (c:Nat):colTo T Bs k (i+1) c=if c=Bs i then T i k else colTo T Bs k i c:=by
 unfold colTo;simp only [sumTo]
 by_cases e:c=Bs i
 ·rw [if_pos e,if_pos e.symm]
  have:sumTo i (fun a=>if Bs a=c then T a k else 0)=0:=Lp.sumTo_zero fun a ha=>by
   rw [if_neg];intro h
   have:=inj a i (by omega) hi (h.trans e)
   omega
  rw [this];grind
 ·rw [if_neg e,if_neg (fun h=>e h.symm)];grind
set_option maxRecDepth 100000 in
set_option maxHeartbeats 4000000 in
theorem point_calls (B t n m:Nat) (D:TA) (T:Tab) (Bs:Bas) (sg:Nat→Int) (sh:Nat→Bool) (w:World)
 (hT:TabD w B t n m D T Bs sg sh) (hn:n≤100) (hm:m≤100) (hB:∀ i,i<m→Bs i<n+2*m) (inj:∀ a b,a<m→b<m→Bs a=Bs b→a=b) :
 Calls Tryz.prog 220 #[.pointer (some ⟨t,0,none⟩)] w fun e w'=>∃ b P,e=.returned (.slice (some ⟨b,0,none⟩) n n)∧RowQ w' w.heap.size b n n P (bs m (n+2*m) T Bs)∧Below w.heap.size w w':=by
 have HT:=hid hT;have HB:=hid hB;have HI:=hid inj
 clear hT hB inj
 obtain ⟨RA,cA,bA,cb,sA,cs,hbk,rb,Pt⟩:=D
 obtain ⟨N,hN⟩:∃ N,n+2*m=N:=⟨_,rfl⟩
 obtain ⟨N1,hN1⟩:∃ N1,N+1=N1:=⟨_,rfl⟩
 have HN:=hid hN;have HN1:=hid hN1
 rw [hN] at HB ⊢
 have TROW:Hid (∀ W,TabD W B t n m ⟨RA,cA,bA,cb,sA,cs,hbk,rb,Pt⟩ T Bs sg sh→∀ a,a<m→∃ R,RA=some ⟨R,0,none⟩∧W.cell? ⟨R,a,none⟩=some (.slice (some ⟨rb a,0,none⟩) N1 N1)):=hid (by
  intro W hW a ha
  have:=hW.row a ha
  rw [hN,hN1] at this;exact this)
 have TNUM:Hid (∀ W,TabD W B t n m ⟨RA,cA,bA,cb,sA,cs,hbk,rb,Pt⟩ T Bs sg sh→∀ a,a<m→RowQ W B (rb a) N1 N1 (Pt a) (T a)):=hid (by
  intro W hW a ha
  have:=hW.num a ha
  rw [hN,hN1] at this;exact this)
 have hNN1:(N:Int)<N1:=by omega
 have hNb:N≤300:=by omega
 clear hN hN1
 have c0:=HT.out.t0
 have HEN:=hid (entries_calls n w (by omega))
 go_enter Tryz.func220,Tryz.ntmps220
 go_wp2_with fail
 refine HEN.out.mono ?_;rintro e w2 ⟨xb,X,rfl,hX,hb2⟩
 have HX:=hid hX;have HB2:=hid hb2
 have c3:w2.cell? ⟨t,3,none⟩=some (.slice bA m cb):=(HT.out.ext hb2).t3
 clear hX hb2 HEN c0
 go_wp2_with fail
 go_loopw [16] (fun ti wr=>∃ (i:Nat),i≤m∧ti=.int .i64 i∧Hid (RowQ wr w.heap.size xb n n X (colTo T Bs N i))∧Hid (Below w.heap.size w wr)) (fun ti _=>m-(intOf ti).toNat)
 case atStart=>exact ⟨0,Nat.zero_le _,rfl,HX,HB2⟩
 case round =>
  clear HX HB2 c3
  obtain ⟨i,hi,rfl,hX,hbe⟩:=hrel
  by_cases hlt:i<m
  ·have hi1:(i:Int)<m:=by omega
   have hT:=HT.out.ext hbe.out
   obtain ⟨R,hRA,c1⟩:=TROW.out wr hT i hlt
   subst hRA
   obtain ⟨bb,hbA,c2⟩:=hT.bas i hlt
   have hbA:bA=some ⟨bb,0,none⟩:=hbA
   subst hbA
   have c3:=hT.t0
   have c4:=hT.t1
   have c5:wr.cell? ⟨t,2,none⟩=some (.slice (some ⟨R,0,none⟩) m cA):=hT.t2
   have HTR:=hid hT
   clear hT
   by_cases hk:Bs i<n
   ·have hk1:(Bs i:Int)<n:=by omega
    have c6:=hX.out.cell (Bs i) hk
    have c7:=(TNUM.out wr HTR.out i hlt).cell N (by omega)
    go_wp2_with fail
    refine wp_region_kc (w0:=wr) 23 [27,28,29,30,31,32,33,34,35,36,37,38,39,40,41,42,43,44,45,46,47,48,49]
     [.c (.slice (some ⟨xb,0,none⟩) n n),.c (.int .i64 (Bs i)),.c (.pointer (some ⟨xb,Bs i,none⟩)),.c (.pointer (some ⟨(X (Bs i)),0,none⟩)),.c (.pointer (some ⟨t,0,none⟩)),.c (.pointer (some ⟨t,0,none⟩)),.c (.pointer (some ⟨t,2,none⟩)),.c (.slice (some ⟨R,0,none⟩) m cA),.c (.int .i64 i),.c (.pointer (some ⟨R,i,none⟩)),.c (.slice (some ⟨rb i,0,none⟩) N1 N1),.c (.pointer (some ⟨t,0,none⟩)),.c (.pointer (some ⟨t,0,none⟩)),.c (.pointer (some ⟨t,0,none⟩)),.c (.int .i64 n),.c (.pointer (some ⟨t,0,none⟩)),.c (.pointer (some ⟨t,0,none⟩)),.c (.pointer (some ⟨t,1,none⟩)),.c (.int .i64 m),.c (.int .i64 (2*m:Nat)),.c (.int .i64 N),.c (.pointer (some ⟨rb i,N,none⟩)),.c (.pointer (some ⟨(Pt i N),0,none⟩))]
     [] RatBlk (by kernel_rfl) (by kernel_rfl) (by kernel_rfl) rfl (F:=?cFr6) ?r6c1 ?r6c2 ?r6c3 ?r6c4
    case r6c1 =>
     intro x
     simp only [fullC,Act.put,List.setIfInBounds_toArray,List.set_cons_zero,List.set_cons_succ]
     rfl
    case r6c2 =>
     exact trivial
    case r6c3 =>
     refine ⟨?_,?_,?_,?_,?_,?_,?_,?_,?_,?_,?_,?_,?_,?_,?_,?_,?_,?_,?_,?_,?_,?_,?_,trivial⟩
     all_goals
      intro xx wq HE hd K hK
      have hc:=(bcell HE).1
      have c1':=(hc _ _ (cell_lt c1)).trans c1
      have c3':=(hc _ _ (cell_lt c3)).trans c3
      have c4':=(hc _ _ (cell_lt c4)).trans c4
      have c5':=(hc _ _ (cell_lt c5)).trans c5
      have c6':=(hc _ _ (cell_lt c6)).trans c6
      have c7':=(hc _ _ (cell_lt c7)).trans c7
      have HE:=hid HE
      have HC:=hid hc
      clear hd hc
      all_goals go_simp
      try (refine hK _ _ _ (mv_const _ rfl) ?_;dsimp only [Act.put];first|done|rfl|(simp [*];done))
     ·refine hK (.int .i64 (IntKind.i64.wrap (2*(m:Int)))) _ _ (mv_eq ?_ rfl) (by first|(dsimp only [Act.put];done)|(dsimp only [Act.put];first|rfl|(simp [*];done)|(simp [*,ptr];done)))
      (congr 1;simp only [IntKind.wrap_i64,wrap64];omega)
     ·refine hK (.int .i64 (IntKind.i64.wrap ((n:Int)+2*(m:Int)))) _ _ (mv_eq ?_ rfl) (by first|(dsimp only [Act.put];done)|(dsimp only [Act.put];first|rfl|(simp [*];done)|(simp [*,ptr];done)))
      have:=HN.out
      (congr 1;simp only [IntKind.wrap_i64,wrap64];omega)
    case r6c4 =>
     intro xx wz hE hG hA
     have HE:=hid hE
     clear hG hA hE
     refine tail_one (i:=23) (by kernel_rfl) rfl ?_
     intro K hK
     go_simp
     have hx1:=hX.out.ext HE.out
     refine (ratSetTo_calls (X (Bs i)) (Pt i N) (T i N) wz (hx1.num _ hk).blk ((TNUM.out wz (HTR.out.ext HE.out) i hlt).num N (by omega))).mono ?_;rintro e w3 ⟨rfl,hx,hb3⟩
     refine hK _ _ ?_
     have HX3:=hid (hx1.set hk hx hb3)
     have HB3:=hid ((hbe.out.trans (HE.out.mono hbe.out.size)).trans (hb3.below (hx1.low _ hk) (by have:=hbe.out.size;have:=HE.out.size;omega)))
     clear hK hx hb3 hx1
     refine wpAny_done (by kernel_rfl) ?_ _
     go_wp2
     go_roundw
     case rel=>exact ⟨i+1,by omega,by go_num,hid (HX3.out.congr fun c _=>by rw [colTo_step hlt HI.out]),HB3⟩
     case measure=>simp [intOf];omega
   ·have hk1:¬ (Bs i:Int)<n:=by omega
    clear c5 c4 c1
    have HST:Hid (RowQ wr w.heap.size xb n n X (colTo T Bs N (i+1))):=hid (hX.out.congr fun c hc=>by rw [colTo_step hlt HI.out,if_neg (by omega)])
    go_wp2
    go_roundw
    case rel=>exact ⟨i+1,by omega,by go_num,HST,hbe⟩
    case measure=>simp [intOf];omega
  ·obtain rfl:m=i:=by omega
   go_wp2
   go_ret
   exact ⟨_,X,rfl,hX.out.congr fun c _=>by unfold colTo bs;rfl,hbe.out⟩
def rayTo (T:Tab) (Bs:Bas) (s i c:Nat):Rat:=(if c=s then 1 else 0)-colTo T Bs s i c
theorem rayTo_step {T:Tab} {Bs:Bas} {s i m:Nat} (hi:i<m) (inj:∀ a b,a<m→b<m→Bs a=Bs b→a=b) (hs:∀ a,a<m→Bs a≠s) (c:Nat):rayTo T Bs s (i+1) c=if c=Bs i then-T i s else rayTo T Bs s i c:=by
 unfold rayTo
 rw [colTo_step hi inj]
 by_cases e:c=Bs i
 ·rw [if_pos e,if_pos e,if_neg (fun h=>hs i hi (e.symm.trans h))];grind
 ·rw [if_neg e,if_neg e]
set_option maxRecDepth 100000 in
set_option maxHeartbeats 4000000 in
theorem ray_calls (B t n m s:Nat) (D:TA) (T:Tab) (Bs:Bas) (sg:Nat→Int) (sh:Nat→Bool) (w:World)
 (hT:TabD w B t n m D T Bs sg sh) (hn:n≤100) (hm:m≤100) (hB:∀ i,i<m→Bs i<n+2*m) (inj:∀ a b,a<m→b<m→Bs a=Bs b→a=b) (hs:s<n+2*m) (hsB:∀ a,a<m→Bs a≠s) :
 Calls Tryz.prog 218 #[.pointer (some ⟨t,0,none⟩),.int .i64 s] w fun e w'=>∃ b P,e=.returned (.slice (some ⟨b,0,none⟩) n n)∧RowQ w' w.heap.size b n n P (dir m T Bs s)∧Below w.heap.size w w':=by
 have HT:=hid hT;have HB:=hid hB;have HI:=hid inj;have HSB:=hid hsB
 clear hT hB inj hsB
 obtain ⟨RA,cA,bA,cb,sA,cs,hbk,rb,Pt⟩:=D
 obtain ⟨N,hN⟩:∃ N,n+2*m=N:=⟨_,rfl⟩
 obtain ⟨N1,hN1⟩:∃ N1,N+1=N1:=⟨_,rfl⟩
 have HN:=hid hN;have HN1:=hid hN1
 rw [hN] at HB hs
 have TROW:Hid (∀ W,TabD W B t n m ⟨RA,cA,bA,cb,sA,cs,hbk,rb,Pt⟩ T Bs sg sh→∀ a,a<m→∃ R,RA=some ⟨R,0,none⟩∧W.cell? ⟨R,a,none⟩=some (.slice (some ⟨rb a,0,none⟩) N1 N1)):=hid (by
  intro W hW a ha
  have:=hW.row a ha
  rw [hN,hN1] at this;exact this)
 have TNUM:Hid (∀ W,TabD W B t n m ⟨RA,cA,bA,cb,sA,cs,hbk,rb,Pt⟩ T Bs sg sh→∀ a,a<m→RowQ W B (rb a) N1 N1 (Pt a) (T a)):=hid (by
  intro W hW a ha
  have:=hW.num a ha
  rw [hN,hN1] at this;exact this)
 have hs1:(s:Int)<N1:=by omega
 have hs2:s<N1:=by omega
 have hNb:N≤300:=by omega
 clear hN hN1
 have c0:=HT.out.t0
 have HEN:=hid (entries_calls n w (by omega))
 go_enter Tryz.func218,Tryz.ntmps218
 go_wp2_with fail
 refine HEN.out.mono ?_;rintro e w2 ⟨xb,X,rfl,hX,hb2⟩
 have HX:=hid hX;have HB2:=hid hb2
 have c3:w2.cell? ⟨t,3,none⟩=some (.slice bA m cb):=(HT.out.ext hb2).t3
 have c0:=(HT.out.ext hb2).t0
 have hray0:∀ c,rayTo T Bs s 0 c=if c=s then 1 else 0:=fun c=>by unfold rayTo colTo;simp only [sumTo];grind
 have HR0:=hid hray0
 clear hray0
 by_cases hsn:s<n
 case' pos =>
  have hsn1:(s:Int)<n:=by omega
  have c4:=hX.cell s hsn
  have HSI:=hid (setInt64_calls (X s) 1 w2 (by omega) (by omega) (hX.num s hsn).blk)
  clear hX hb2 HEN
  go_wp2_with fail
  refine HSI.out.mono ?_;rintro e w3 ⟨rfl,hx,hb3⟩
  have HX3:Hid (RowQ w3 w.heap.size xb n n X (rayTo T Bs s 0)):=hid ((HX.out.set hsn hx hb3).congr fun c _=>by rw [HR0.out];split<;>rfl)
  have hb13:=HB2.out.trans (hb3.below (HX.out.low s hsn) HB2.out.size)
  have c3:w3.cell? ⟨t,3,none⟩=some (.slice bA m cb):=(HT.out.ext hb13).t3
  have HB3:=hid hb13
  clear HX HB2 hx hb3 HSI c4 c0 hb13
 case' neg =>
  have hsn1:¬ (s:Int)<n:=by omega
  clear hX hb2 HEN
  have HX3:Hid (RowQ w2 w.heap.size xb n n X (rayTo T Bs s 0)):=hid (HX.out.congr fun c hc=>by rw [HR0.out,if_neg (by omega)])
  have HB3:=HB2
  clear HX HB2
 ··go_wp2_with fail
   go_loopw [29] (fun ti wr=>∃ (i:Nat),i≤m∧ti=.int .i64 i∧Hid (RowQ wr w.heap.size xb n n X (rayTo T Bs s i))∧Hid (Below w.heap.size w wr)) (fun ti _=>m-(intOf ti).toNat)
   case atStart=>exact ⟨0,Nat.zero_le _,rfl,HX3,HB3⟩
   case round =>
    clear HX3 HB3 c3
    obtain ⟨i,hi,rfl,hX,hbe⟩:=hrel
    by_cases hlt:i<m
    ·have hi1:(i:Int)<m:=by omega
     have hT:=HT.out.ext hbe.out
     obtain ⟨R,hRA,c1⟩:=TROW.out wr hT i hlt
     subst hRA
     obtain ⟨bb,hbA,c2⟩:=hT.bas i hlt
     have hbA:bA=some ⟨bb,0,none⟩:=hbA
     subst hbA
     have c3:=hT.t0
     have c5:wr.cell? ⟨t,2,none⟩=some (.slice (some ⟨R,0,none⟩) m cA):=hT.t2
     have HTR:=hid hT
     clear hT
     by_cases hk:Bs i<n
     ·have hk1:(Bs i:Int)<n:=by omega
      have c6:=hX.out.cell (Bs i) hk
      have c7:=(TNUM.out wr HTR.out i hlt).cell s (by omega)
      go_wp2_with fail
      refine wp_region_kc (w0:=wr) 14 [40,41,42,43,44,45,46,47,48,49,50,51,52,53]
       [.c (.slice (some ⟨xb,0,none⟩) n n),.c (.int .i64 (Bs i)),.c (.pointer (some ⟨xb,Bs i,none⟩)),.c (.pointer (some ⟨(X (Bs i)),0,none⟩)),.c (.pointer (some ⟨t,0,none⟩)),.c (.pointer (some ⟨t,0,none⟩)),.c (.pointer (some ⟨t,2,none⟩)),.c (.slice (some ⟨R,0,none⟩) m cA),.c (.int .i64 i),.c (.pointer (some ⟨R,i,none⟩)),.c (.slice (some ⟨rb i,0,none⟩) N1 N1),.c (.int .i64 s),.c (.pointer (some ⟨rb i,s,none⟩)),.c (.pointer (some ⟨(Pt i s),0,none⟩))]
       [] RatBlk (by kernel_rfl) (by kernel_rfl) (by kernel_rfl) rfl (F:=?cFr8a) ?r8ac1 ?r8ac2 ?r8ac3 ?r8ac4
      case r8ac1 =>
       intro x
       simp only [fullC,Act.put,List.setIfInBounds_toArray,List.set_cons_zero,List.set_cons_succ]
       rfl
      case r8ac2 =>
       exact trivial
      case r8ac3 =>
       refine ⟨?_,?_,?_,?_,?_,?_,?_,?_,?_,?_,?_,?_,?_,?_,trivial⟩
       all_goals
        intro xx wq HE hd K hK
        have hc:=(bcell HE).1
        have c1':=(hc _ _ (cell_lt c1)).trans c1
        have c3':=(hc _ _ (cell_lt c3)).trans c3
        have c5':=(hc _ _ (cell_lt c5)).trans c5
        have c6':=(hc _ _ (cell_lt c6)).trans c6
        have c7':=(hc _ _ (cell_lt c7)).trans c7
        have HE:=hid HE
        have HC:=hid hc
        clear hd hc
        all_goals go_simp
        try (refine hK _ _ _ (mv_const _ rfl) ?_;dsimp only [Act.put];first|done|rfl|(simp [*];done))
      case r8ac4 =>
       intro xx wz hE hG hA
       have HE:=hid hE
       clear hG hA hE
       refine tail_one (i:=14) (by kernel_rfl) rfl ?_
       intro K hK
       go_simp
       have hx1:=hX.out.ext HE.out
       refine (ratNeg_calls (X (Bs i)) (Pt i s) (T i s) wz (hx1.num _ hk).blk ((TNUM.out wz (HTR.out.ext HE.out) i hlt).num s (by omega))).mono ?_;rintro e w5 ⟨rfl,hx,hb5⟩
       refine hK _ _ ?_
       have HX5:=hid (hx1.set hk hx hb5)
       have HB5:=hid ((hbe.out.trans (HE.out.mono hbe.out.size)).trans (hb5.below (hx1.low _ hk) (by have:=hbe.out.size;have:=HE.out.size;omega)))
       clear hK hx hb5 hx1
       refine wpAny_done (by kernel_rfl) ?_ _
       go_wp2
       go_roundw
       case rel=>exact ⟨i+1,by omega,by go_num,hid (HX5.out.congr fun c _=>by rw [rayTo_step hlt HI.out HSB.out]),HB5⟩
       case measure=>simp [intOf];omega
     ·have hk1:¬ (Bs i:Int)<n:=by omega
      clear c5 c1
      have HST:Hid (RowQ wr w.heap.size xb n n X (rayTo T Bs s (i+1))):=hid (hX.out.congr fun c hc=>by rw [rayTo_step hlt HI.out HSB.out,if_neg (by omega)])
      go_wp2
      go_roundw
      case rel=>exact ⟨i+1,by omega,by go_num,HST,hbe⟩
      case measure=>simp [intOf];omega
    ·obtain rfl:m=i:=by omega
     go_wp2
     go_ret
     exact ⟨_,X,rfl,hX.out.congr fun c _=>by unfold rayTo colTo dir;rfl,hbe.out⟩
 ··go_wp2_with fail
   go_loopw [29] (fun ti wr=>∃ (i:Nat),i≤m∧ti=.int .i64 i∧Hid (RowQ wr w.heap.size xb n n X (rayTo T Bs s i))∧Hid (Below w.heap.size w wr)) (fun ti _=>m-(intOf ti).toNat)
   case atStart=>exact ⟨0,Nat.zero_le _,rfl,HX3,HB3⟩
   case round =>
    clear HX3 HB3 c3
    obtain ⟨i,hi,rfl,hX,hbe⟩:=hrel
    by_cases hlt:i<m
    ·have hi1:(i:Int)<m:=by omega
     have hT:=HT.out.ext hbe.out
     obtain ⟨R,hRA,c1⟩:=TROW.out wr hT i hlt
     subst hRA
     obtain ⟨bb,hbA,c2⟩:=hT.bas i hlt
     have hbA:bA=some ⟨bb,0,none⟩:=hbA
     subst hbA
     have c3:=hT.t0
     have c5:wr.cell? ⟨t,2,none⟩=some (.slice (some ⟨R,0,none⟩) m cA):=hT.t2
     have HTR:=hid hT
     clear hT
     by_cases hk:Bs i<n
     ·have hk1:(Bs i:Int)<n:=by omega
      have c6:=hX.out.cell (Bs i) hk
      have c7:=(TNUM.out wr HTR.out i hlt).cell s (by omega)
      go_wp2_with fail
      refine wp_region_kc (w0:=wr) 14 [40,41,42,43,44,45,46,47,48,49,50,51,52,53]
       [.c (.slice (some ⟨xb,0,none⟩) n n),.c (.int .i64 (Bs i)),.c (.pointer (some ⟨xb,Bs i,none⟩)),.c (.pointer (some ⟨(X (Bs i)),0,none⟩)),.c (.pointer (some ⟨t,0,none⟩)),.c (.pointer (some ⟨t,0,none⟩)),.c (.pointer (some ⟨t,2,none⟩)),.c (.slice (some ⟨R,0,none⟩) m cA),.c (.int .i64 i),.c (.pointer (some ⟨R,i,none⟩)),.c (.slice (some ⟨rb i,0,none⟩) N1 N1),.c (.int .i64 s),.c (.pointer (some ⟨rb i,s,none⟩)),.c (.pointer (some ⟨(Pt i s),0,none⟩))]
       [] RatBlk (by kernel_rfl) (by kernel_rfl) (by kernel_rfl) rfl (F:=?cFr8b) ?r8bc1 ?r8bc2 ?r8bc3 ?r8bc4
      case r8bc1 =>
       intro x
       simp only [fullC,Act.put,List.setIfInBounds_toArray,List.set_cons_zero,List.set_cons_succ]
       rfl
      case r8bc2 =>
       exact trivial
      case r8bc3 =>
       refine ⟨?_,?_,?_,?_,?_,?_,?_,?_,?_,?_,?_,?_,?_,?_,trivial⟩
       all_goals
        intro xx wq HE hd K hK
        have hc:=(bcell HE).1
        have c1':=(hc _ _ (cell_lt c1)).trans c1
        have c3':=(hc _ _ (cell_lt c3)).trans c3
        have c5':=(hc _ _ (cell_lt c5)).trans c5
        have c6':=(hc _ _ (cell_lt c6)).trans c6
        have c7':=(hc _ _ (cell_lt c7)).trans c7
        have HE:=hid HE
        have HC:=hid hc
        clear hd hc
        all_goals go_simp
        try (refine hK _ _ _ (mv_const _ rfl) ?_;dsimp only [Act.put];first|done|rfl|(simp [*];done))
      case r8bc4 =>
       intro xx wz hE hG hA
       have HE:=hid hE
       clear hG hA hE
       refine tail_one (i:=14) (by kernel_rfl) rfl ?_
       intro K hK
       go_simp
       have hx1:=hX.out.ext HE.out
       refine (ratNeg_calls (X (Bs i)) (Pt i s) (T i s) wz (hx1.num _ hk).blk ((TNUM.out wz (HTR.out.ext HE.out) i hlt).num s (by omega))).mono ?_;rintro e w5 ⟨rfl,hx,hb5⟩
       refine hK _ _ ?_
       have HX5:=hid (hx1.set hk hx hb5)
       have HB5:=hid ((hbe.out.trans (HE.out.mono hbe.out.size)).trans (hb5.below (hx1.low _ hk) (by have:=hbe.out.size;have:=HE.out.size;omega)))
       clear hK hx hb5 hx1
       refine wpAny_done (by kernel_rfl) ?_ _
       go_wp2
       go_roundw
       case rel=>exact ⟨i+1,by omega,by go_num,hid (HX5.out.congr fun c _=>by rw [rayTo_step hlt HI.out HSB.out]),HB5⟩
       case measure=>simp [intOf];omega
     ·have hk1:¬ (Bs i:Int)<n:=by omega
      clear c5 c1
      have HST:Hid (RowQ wr w.heap.size xb n n X (rayTo T Bs s (i+1))):=hid (hX.out.congr fun c hc=>by rw [rayTo_step hlt HI.out HSB.out,if_neg (by omega)])
      go_wp2
      go_roundw
      case rel=>exact ⟨i+1,by omega,by go_num,HST,hbe⟩
      case measure=>simp [intOf];omega
    ·obtain rfl:m=i:=by omega
     go_wp2
     go_ret
     exact ⟨_,X,rfl,hX.out.congr fun c _=>by unfold rayTo colTo dir;rfl,hbe.out⟩
end
end Go.Proofs.YtkljafmdbajfeaaGreatDoor
