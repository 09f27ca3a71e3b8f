/- exact.table.pivot: a column brought into the basis. -/
import Derived.Test.YtkljafmdbajfeaaGreatDoorNoH26
namespace Go.Proofs.YtkljafmdbajfeaaGreatDoor
set_option linter.unusedVariables false
set_option linter.unusedSimpArgs false
open Go.Lib (hid)
section
open Go.RowKit
open Lp (Tab Bas sumTo redc piv pivB)
def pst (T:Tab) (i j o k:Nat):Tab:=fun a b=>if a=i∨a<o∨(a=o∧b<k) then piv T i j a b else T a b
theorem pst_old {T:Tab} {i j o k b:Nat} (h:o≠i) (hb:k≤b):pst T i j o k o b=T o b:=by
 unfold pst;rw [if_neg];omega
theorem pst_row (T:Tab) (i j o k b:Nat):pst T i j o k i b=T i b*(1 / T i j):=by
 unfold pst piv;rw [if_pos (.inl rfl),if_pos rfl]
theorem pst_step {T:Tab} {i j o k:Nat} (h:o≠i) (a b:Nat):(if a=o∧b=k then T o k-T o j*(T i k*(1 / T i j)) else pst T i j o k a b)=pst T i j o (k+1) a b:=by
 by_cases e:a=o∧b=k
 ·rw [if_pos e]
  obtain ⟨rfl,rfl⟩:=e
  unfold pst piv
  rw [if_pos (by omega),if_neg h]
 ·rw [if_neg e]
  unfold pst
  by_cases e2:a=i∨a<o∨(a=o∧b<k)
  ·rw [if_pos e2,if_pos (by omega)]
  ·rw [if_neg e2,if_neg (by omega)]
theorem pst_next {T:Tab} {i j o N1:Nat} (a b:Nat) (hb:b<N1):pst T i j o N1 a b=pst T i j (o+1) 0 a b:=by
 unfold pst
 by_cases e2:a=i∨a<o∨(a=o∧b<N1)
 ·rw [if_pos e2,if_pos (by omega)]
 ·rw [if_neg e2,if_neg (by omega)]
theorem pst_skip {T:Tab} {i j o:Nat} (h:o=i∨T o j=0) (a b:Nat):pst T i j o 0 a b=pst T i j (o+1) 0 a b:=by
 unfold pst
 by_cases e2:a=i∨a<o∨(a=o∧b<0)
 ·rw [if_pos e2,if_pos (by omega)]
 ·rw [if_neg e2]
  by_cases e3:a=o
  ·subst e3
   rw [if_pos (by omega)]
   have h1:a≠i:=by omega
   have h2:T a j=0:=by rcases h with h|h;exact absurd h h1;exact h
   unfold piv;rw [if_neg h1,h2];grind
  ·rw [if_neg (by omega)]
theorem pst_end {T:Tab} {i j m:Nat} (a b:Nat) (ha:a<m):pst T i j m 0 a b=piv T i j a b:=by
 unfold pst;rw [if_pos (.inr (.inl ha))]
theorem one_div (x:Rat):x⁻¹=1 / x:=by rw [Rat.div_def,Rat.one_mul]
set_option maxRecDepth 100000 in
set_option maxHeartbeats 4000000 in
theorem pivot_calls (B t n m i j:Nat) (D:TA) (T:Tab) (Bs:Bas) (sg:Nat→Int) (sh:Nat→Bool) (w:World) (hT:TabD w B t n m D T Bs sg sh)
 (hn:n≤100) (hm:m≤100) (hi:i<m) (hj:j<n+2*m) (hp:T i j≠0) (sT:SqT 10 m (n+2*m+1) T) :
 Calls Tryz.prog 233 #[.pointer (some ⟨t,0,none⟩),.int .i64 i,.int .i64 j] w fun e w'=>e=.returned (.tuple #[])∧TabD w' B t n m D (piv T i j) (pivB Bs i j) sg sh∧Chg (inT D n m) w w':=by
 have HT:=hid hT;have ST:=hid sT;have HP0:=hid hp
 have hinv:Sq 10 (1 / T i j):=by rw [←one_div];exact (sT i j hi (by omega)).inv (fun e=>hp (Rat.num_eq_zero.1 e))
 have HINV:=hid hinv
 clear hT sT hp hinv
 obtain ⟨A,cA,bA,cb,sA,cs,hbk,rb,Pt⟩:=D
 obtain ⟨N1,hN1⟩:∃ N1,n+2*m+1=N1:=⟨_,rfl⟩
 have HN1:=hid hN1
 rw [hN1] at ST
 obtain ⟨R,hRA,-⟩:=HT.out.row i hi
 have hRA:A=some ⟨R,0,none⟩:=hRA
 subst hRA
 obtain ⟨bb,hbA,-⟩:=HT.out.bas i hi
 have hbA:bA=some ⟨bb,0,none⟩:=hbA
 subst hbA
 have TROW:Hid (∀ W T' Bs',TabD W B t n m ⟨some ⟨R,0,none⟩,cA,some ⟨bb,0,none⟩,cb,sA,cs,hbk,rb,Pt⟩ T' Bs' sg sh→∀ a,a<m→W.cell? ⟨R,a,none⟩=some (.slice (some ⟨rb a,0,none⟩) N1 N1)):=hid (by
  intro W T' Bs' hW a ha
  obtain ⟨R',e,hc⟩:=hW.row a ha
  injection e with e;injection e with e
  subst e;rw [hN1] at hc;exact hc)
 have TNUM:Hid (∀ W T' Bs',TabD W B t n m ⟨some ⟨R,0,none⟩,cA,some ⟨bb,0,none⟩,cb,sA,cs,hbk,rb,Pt⟩ T' Bs' sg sh→∀ a,a<m→RowQ W B (rb a) N1 N1 (Pt a) (T' a)):=hid (by
  intro W T' Bs' hW a ha
  have:=hW.num a ha
  rw [hN1] at this;exact this)
 have hjN:j<N1:=by omega
 have hNb:N1≤301:=by omega
 clear hN1 hj
 have hi1:(i:Int)<m:=by omega
 have hj1:(j:Int)<N1:=by omega
 have c2:w.cell? ⟨t,2,none⟩=some (.slice (some ⟨R,0,none⟩) m cA):=HT.out.t2
 have c3:=TROW.out _ _ _ HT.out i hi
 have c4:=(TNUM.out _ _ _ HT.out i hi).cell j hjN
 have hA:Below w.heap.size w (w.alloc (.cells #[.bool false,.slice none 0 0,.slice none 0 0] 203 (0,0))):=(Below.refl _ _).alloc (Nat.le_refl _) _
 have HIV:=hid (inv_calls w.heap.size (Pt i j) (T i j) _ (RatBlk.new w) (((TNUM.out _ _ _ HT.out i hi).num j hjN).ext hA) (fun e=>HP0.out (Rat.num_eq_zero.1 e)))
 have HA:=hid hA
 have hcA:=(bcell hA).1
 have c2:=(hcA _ _ (cell_lt c2)).trans c2
 have c3:=(hcA _ _ (cell_lt c3)).trans c3
 have c4:=(hcA _ _ (cell_lt c4)).trans c4
 clear hA hcA
 go_enter Tryz.func233,Tryz.ntmps233
 go_wp2_with fail
 refine HIV.out.mono ?_;rintro e w2 ⟨rfl,hz2,hb2⟩
 obtain ⟨pp,hpp⟩:∃ pp,w.heap.size=pp:=⟨_,rfl⟩
 rw [hpp] at hz2 hb2 ⊢
 have hB2:Below w.heap.size w w2:=HA.out.trans (hb2.below (by omega) HA.out.size)
 rw [one_div] at hz2
 have HZ2:=hid hz2;have HT2:=hid (HT.out.ext hB2);have HC2:Hid (Chg (inT ⟨some ⟨R,0,none⟩,cA,some ⟨bb,0,none⟩,cb,sA,cs,hbk,rb,Pt⟩ n m) w w2):=hid (Chg.ofBelow hB2)
 have HOLD:Hid (∀ a b,a<m→b<N1→Pt a b<pp):=hid fun a b ha hb=>by
  rw [←hpp];exact ((TNUM.out _ _ _ HT.out a ha).num b hb).lt
 have HPP:=hid hpp
 clear hz2 hb2 hB2 HA HIV c2 c3 c4 hpp
 have c2:w2.cell? ⟨t,2,none⟩=some (.slice (some ⟨R,0,none⟩) m cA):=HT2.out.t2
 have c3:=TROW.out _ _ _ HT2.out i hi
 go_wp2_with fail
 go_loopw [32] (fun tk wr=>∃ (k:Nat),k≤N1∧tk=.int .i64 k∧Hid (TabD wr B t n m ⟨some ⟨R,0,none⟩,cA,some ⟨bb,0,none⟩,cb,sA,cs,hbk,rb,Pt⟩ (fun a b=>if a=i∧b<k then T i b*(1 / T i j) else T a b) Bs sg sh)∧Hid (RatP wr pp (1 / T i j))∧Hid (Chg (inT ⟨some ⟨R,0,none⟩,cA,some ⟨bb,0,none⟩,cb,sA,cs,hbk,rb,Pt⟩ n m) w wr)) (fun tk _=>N1-(intOf tk).toNat)
 case atStart=>exact ⟨0,Nat.zero_le _,rfl,hid (HT2.out.congr (fun a b ha hb=>by rw [if_neg (by omega)]) (fun _ _=>rfl) (fun _ _=>rfl)),HZ2,HC2⟩
 case round =>
  clear HT2 HZ2 HC2 c2 c3
  obtain ⟨k,hk,rfl,hTk,hZ,hC⟩:=hrel
  by_cases hlk:k<N1
  ·have hk1:(k:Int)<N1:=by omega
   have c2:wr.cell? ⟨t,2,none⟩=some (.slice (some ⟨R,0,none⟩) m cA):=hTk.out.t2
   have c3:=TROW.out _ _ _ hTk.out i hi
   have c4:=(TNUM.out _ _ _ hTk.out i hi).cell k hlk
   have SM:Hid (RSm (T i k)):=hid ((ST.out i k hi hlk).rsm (by omega))
   have SI:Hid (RSm (1 / T i j)):=hid (HINV.out.rsm (by omega))
   go_wp2_with fail
   refine wp_region_kc (w0:=wr) 21 [35,36,37,38,39,40,41,42,43,44,45,46,47,48,49,50,51,52,53,54,55]
    [.c (.pointer (some ⟨t,0,none⟩)),.c (.pointer (some ⟨t,0,none⟩)),.c (.pointer (some ⟨t,2,none⟩)),.c (.slice (some ⟨R,0,none⟩) m cA),.c (.int .i64 i),.c (.pointer (some ⟨R,i,none⟩)),.c (.slice (some ⟨rb i,0,none⟩) N1 N1),.c (.int .i64 k),.c (.pointer (some ⟨rb i,k,none⟩)),.c (.pointer (some ⟨(Pt i k),0,none⟩)),.c (.pointer (some ⟨t,0,none⟩)),.c (.pointer (some ⟨t,0,none⟩)),.c (.pointer (some ⟨t,2,none⟩)),.c (.slice (some ⟨R,0,none⟩) m cA),.c (.int .i64 i),.c (.pointer (some ⟨R,i,none⟩)),.c (.slice (some ⟨rb i,0,none⟩) N1 N1),.c (.int .i64 k),.c (.pointer (some ⟨rb i,k,none⟩)),.c (.pointer (some ⟨(Pt i k),0,none⟩)),.c (.pointer (some ⟨pp,0,none⟩))]
    [] RatBlk (by kernel_rfl) (by kernel_rfl) (by kernel_rfl) rfl (F:=?cFr4) ?r4c1 ?r4c2 ?r4c3 ?r4c4
   case r4c1 =>
    intro x
    simp only [fullC,Act.put,List.setIfInBounds_toArray,List.set_cons_zero,List.set_cons_succ]
    rfl
   case r4c2 =>
    exact trivial
   case r4c3 =>
    refine ⟨?_,?_,?_,?_,?_,?_,?_,?_,?_,?_,?_,?_,?_,?_,?_,?_,?_,?_,?_,?_,?_,trivial⟩
    all_goals
     intro xx wq HE hd K hK
     have hc:=(bcell HE).1
     have c2':=(hc _ _ (cell_lt c2)).trans c2
     have c3':=(hc _ _ (cell_lt c3)).trans c3
     have c4':=(hc _ _ (cell_lt c4)).trans c4
     have HE:=hid HE
     have HC:=hid hc
     clear hd hc
     all_goals go_simp
     try (refine hK _ _ _ (mv_const _ rfl) ?_;dsimp only [Act.put];first|done|rfl|(simp [*];done))
   case r4c4 =>
    intro xx wz hE hG hA
    have e2:xx 37=_:=hG 2 _ rfl
    have HE:=hid hE
    clear hG hA hE
    refine tail_one (i:=21) (by kernel_rfl) rfl ?_
    intro K hK
    go_simp
    have hT1:=hTk.out.ext HE.out
    have hnk:=(TNUM.out _ _ _ hT1 i hi).num k hlk
    simp only [Nat.lt_irrefl,and_false,if_false] at hnk
    have hzz:=hZ.out.ext HE.out
    refine (ratMul_calls (Pt i k) (Pt i k) pp (T i k) (1 / T i j) wz hnk.blk hnk hzz SM.out SI.out).mono ?_;rintro e w3 ⟨rfl,hx,hb3⟩
    refine hK _ _ ?_
    have hset:=hT1.setRat hi (by have:=HN1.out;omega) hx hb3
    have HT3:=hid hset
    have HZ3:=hid (hzz.but hnk.blk.int hb3 (fun e=>by have:=HOLD.out i k hi hlk;omega))
    have HC3:=hid ((hC.out.ext HE.out).trans (Chg.ofBut hb3 hnk.blk.noW (.inl ⟨i,k,hi,by have:=HN1.out;omega,rfl⟩)))
    clear hK hx hb3 hnk hzz hT1 hset
    refine wpAny_done (by kernel_rfl) ?_ _
    go_wp2
    go_roundw
    case rel =>
     refine ⟨k+1,by omega,by go_num,hid (HT3.out.congr (fun a b ha hb=>?_) (fun _ _=>rfl) (fun _ _=>rfl)),HZ3,HC3⟩
     by_cases e:a=i∧b=k
     ·rw [if_pos e,if_pos (by omega),e.2]
     ·rw [if_neg e]
      by_cases e2:a=i∧b<k
      ·rw [if_pos e2,if_pos (by omega)]
      ·rw [if_neg e2,if_neg (by omega)]
    case measure=>simp [intOf];omega
  ·obtain rfl:N1=k:=by omega
   have HTE:Hid (TabD wr B t n m ⟨some ⟨R,0,none⟩,cA,some ⟨bb,0,none⟩,cb,sA,cs,hbk,rb,Pt⟩ (pst T i j 0 0) Bs sg sh):=hid (hTk.out.congr (fun a b ha hb=>by
    unfold pst piv
    by_cases e:a=i
    ·rw [if_pos ⟨e,by have:=HN1.out;omega⟩,if_pos (.inl e),if_pos e]
    ·rw [if_neg (fun h=>e h.1),if_neg (by omega)]) (fun _ _=>rfl) (fun _ _=>rfl))
   clear hTk hZ
   have c2:wr.cell? ⟨t,2,none⟩=some (.slice (some ⟨R,0,none⟩) m cA):=HTE.out.t2
   go_wp2_with fail
   go_loopw [63] (fun tv wr=>∃ (o:Nat),o≤m∧tv=.int .i64 o∧Hid (TabD wr B t n m ⟨some ⟨R,0,none⟩,cA,some ⟨bb,0,none⟩,cb,sA,cs,hbk,rb,Pt⟩ (pst T i j o 0) Bs sg sh)∧Hid (Chg (inT ⟨some ⟨R,0,none⟩,cA,some ⟨bb,0,none⟩,cb,sA,cs,hbk,rb,Pt⟩ n m) w wr)) (fun tv _=>m-(intOf tv).toNat)
   case atStart=>exact ⟨0,Nat.zero_le _,rfl,HTE,hC⟩
   case round =>
    clear HTE hC c2
    obtain ⟨o,ho,rfl,hTo,hC⟩:=hrel
    by_cases hlo:o<m
    ·have ho1:(o:Int)<m:=by omega
     have c3:=TROW.out _ _ _ hTo.out o hlo
     by_cases hoi:o=i
     ·have HNX:=hid (hTo.out.congr (T':=pst T i j (o+1) 0) (fun a b _ _=>pst_skip (.inl hoi) a b) (fun _ _=>rfl) (fun _ _=>rfl))
      have he:((o:Int) == (i:Int))=true:=by simp [hoi]
      clear hoi
      go_wp2
      go_roundw
      case rel=>exact ⟨o+1,by omega,by go_num,HNX,hC⟩
      case measure=>simp [intOf];omega
     ·have he:((o:Int) == (i:Int))=false:=by simp;omega
      have hrw:=TNUM.out _ _ _ hTo.out o hlo
      have c4:=hrw.cell j hjN
      have hnj:=hrw.num j hjN
      rw [pst_old hoi (Nat.zero_le _)] at hnj
      have HSG:=hid (ratSign_calls (Pt o j) (T o j) wr hnj)
      have HNJ:=hid hnj
      clear hrw hnj
      have HOI:=hid hoi
      clear hoi
      go_wp2_with fail
      refine HSG.out.mono ?_;rintro e w3 ⟨rfl,rfl⟩
      clear HSG
      obtain ⟨s,hs,hs0⟩:∃ s:Int,sgnI (T o j).num 0=s∧(s=0↔T o j=0):=⟨_,rfl,sgn_eq0 _⟩
      rw [hs]
      clear hs
      by_cases h0:s=0
      ·have HNX:=hid (hTo.out.congr (T':=pst T i j (o+1) 0) (fun a b _ _=>pst_skip (.inr (hs0.1 h0)) a b) (fun _ _=>rfl) (fun _ _=>rfl))
       clear hs0
       subst h0
       go_wp2
       go_roundw
       case rel=>exact ⟨o+1,by omega,by go_num,HNX,hC⟩
       case measure=>simp [intOf];omega
      ·clear hs0
       have h0f:(s == 0)=false:=by simpa using h0
       have hA:Below w3.heap.size w3 (w3.alloc (.cells #[.bool false,.slice none 0 0,.slice none 0 0] 203 (0,0))):=(Below.refl _ _).alloc (Nat.le_refl _) _
       have HCP:=hid (ratSetTo_calls w3.heap.size (Pt o j) (T o j) _ (RatBlk.new w3) (HNJ.out.ext hA))
       have HA:=hid hA
       have c4:=((bcell hA).1 _ _ (cell_lt c4)).trans c4
       clear hA
       go_wp2_with fail
       refine HCP.out.mono ?_;rintro e w4 ⟨rfl,hz4,hb4⟩
       have hB4:Below w3.heap.size w3 w4:=HA.out.trans (hb4.below (by omega) HA.out.size)
       have hsz:=hC.out.size
       obtain ⟨fp,hfp⟩:∃ fp,w3.heap.size=fp:=⟨_,rfl⟩
       rw [hfp] at hz4 ⊢
       have hfpp:pp≤fp:=by rw [←hfp];have:=HPP.out;omega
       have HZ4:=hid hz4;have HT4:=hid (hTo.out.ext hB4);have HC4:=hid (hC.out.ext hB4)
       clear hz4 hb4 hB4 HA HCP HNJ hTo hC c3 c4 hsz hfp
       go_wp2_with fail
       go_loopw [87] (fun tk wr=>∃ (k:Nat),k≤N1∧tk=.int .i64 k∧Hid (TabD wr B t n m ⟨some ⟨R,0,none⟩,cA,some ⟨bb,0,none⟩,cb,sA,cs,hbk,rb,Pt⟩ (pst T i j o k) Bs sg sh)∧Hid (RatP wr fp (T o j))∧Hid (Chg (inT ⟨some ⟨R,0,none⟩,cA,some ⟨bb,0,none⟩,cb,sA,cs,hbk,rb,Pt⟩ n m) w wr)) (fun tk _=>N1-(intOf tk).toNat)
       case atStart=>exact ⟨0,Nat.zero_le _,rfl,HT4,HZ4,HC4⟩
       case round =>
        clear HT4 HZ4 HC4
        obtain ⟨k,hk,rfl,hTk,hZ,hC⟩:=hrel
        by_cases hlk:k<N1
        ·have hk1:(k:Int)<N1:=by omega
         have q1:=(TNUM.out _ _ _ hTk.out o hlo).cell k hlk
         have q2:wr.cell? ⟨t,2,none⟩=some (.slice (some ⟨R,0,none⟩) m cA):=hTk.out.t2
         have q3:=TROW.out _ _ _ hTk.out i hi
         have q4:=(TNUM.out _ _ _ hTk.out i hi).cell k hlk
         have S1:Hid (RSm (T o k)):=hid ((ST.out o k hlo hlk).rsm (by omega))
         have S2:Hid (RSm (T o j)):=hid ((ST.out o j hlo hjN).rsm (by omega))
         have S3:Hid (RSm (T i k*(1 / T i j))):=hid (((ST.out i k hi hlk).mul HINV.out).rsm (by omega))
         have S4:Hid (RSm (T o j*(T i k*(1 / T i j)))):=hid (((ST.out o j hlo hjN).mul ((ST.out i k hi hlk).mul HINV.out)).rsm (by omega))
         go_wp2_with fail
         refine wp_region_kc (w0:=wr) 21 [90,91,92,93,94,95,96,97,98,99,100,101,102,103,104,105,106,107,108,109,110]
          [.c (.slice (some ⟨rb o,0,none⟩) N1 N1),.c (.int .i64 k),.c (.pointer (some ⟨rb o,k,none⟩)),.c (.pointer (some ⟨(Pt o k),0,none⟩)),.c (.slice (some ⟨rb o,0,none⟩) N1 N1),.c (.int .i64 k),.c (.pointer (some ⟨rb o,k,none⟩)),.c (.pointer (some ⟨(Pt o k),0,none⟩)),.l none (leafA RatBlk · wr.heap.size),.c (.pointer (some ⟨fp,0,none⟩)),.c (.pointer (some ⟨t,0,none⟩)),.c (.pointer (some ⟨t,0,none⟩)),.c (.pointer (some ⟨t,2,none⟩)),.c (.slice (some ⟨R,0,none⟩) m cA),.c (.int .i64 i),.c (.pointer (some ⟨R,i,none⟩)),.c (.slice (some ⟨rb i,0,none⟩) N1 N1),.c (.int .i64 k),.c (.pointer (some ⟨rb i,k,none⟩)),.c (.pointer (some ⟨(Pt i k),0,none⟩)),.l (some 98) (leafR 98 · (fun p w=>RatP w p (T o j*(T i k*(1 / T i j)))) wr.heap.size)]
          [98] RatBlk (by kernel_rfl) (by kernel_rfl) (by kernel_rfl) rfl (F:=?cFr14) ?r14c1 ?r14c2 ?r14c3 ?r14c4
         case r14c1 =>
          intro x
          simp only [fullC,Act.put,List.setIfInBounds_toArray,List.set_cons_zero,List.set_cons_succ]
          rfl
         case r14c2 =>
          exact ⟨keeps_alloc ratBlk_ext ratBlk_other _ _ _ _ _,keeps_res (calm_rat _) _ _ _ _ _ rfl (by decide),trivial⟩
         case r14c3 =>
          refine ⟨?_,?_,?_,?_,?_,?_,?_,?_,?_,?_,?_,?_,?_,?_,?_,?_,?_,?_,?_,?_,?_,trivial⟩
          all_goals
           intro xx wq HE hd K hK
           have hc:=(bcell HE).1
           have q1':=(hc _ _ (cell_lt q1)).trans q1
           have q2':=(hc _ _ (cell_lt q2)).trans q2
           have q3':=(hc _ _ (cell_lt q3)).trans q3
           have q4':=(hc _ _ (cell_lt q4)).trans q4
           try have g8:=hd 8 _ (by decide) rfl
           try have g20:=hd 20 _ (by decide) rfl
           have HE:=hid HE
           have HC:=hid hc
           clear hd hc
           all_goals go_simp
           try (refine hK _ _ _ (mv_const _ rfl) ?_;dsimp only [Act.put];first|done|rfl|(simp [*];done))
          ·refine hK _ _ _ (mv_alloc _ HE.out.size (RatBlk.new _)) ?_
           dsimp only [Act.put]
           first|rfl|(simp [*];done)|(simp [*,ptr];done)
          ·obtain ⟨q,h98,hq1,hq2⟩:=g8
           rw [h98]
           have hnk:=((TNUM.out _ _ _ (hTk.out.ext HE.out) i hi).num k hlk)
           rw [pst_row] at hnk
           refine (ratMul_calls q fp (Pt i k) _ _ wq hq2 (hZ.out.ext HE.out) hnk S2.out S3.out).mono ?_
           rintro e w2 ⟨rfl,hz2,hb2⟩
           exact hK _ _ _ (mv_set h98 hq1 hq2 hz2.blk hb2 hz2 (by decide) rfl) (by first|(dsimp only [Act.put];done)|(dsimp only [Act.put];first|rfl|(simp [*];done)|(simp [*,ptr];done)))
         case r14c4 =>
          intro xx wz hE hG hA
          have g8:=hG 8 _ rfl
          have g20:=hG 20 _ rfl
          obtain ⟨q,h98,h110,hq1,hq2⟩:=g20
          unfold ptr at h110
          have HE:=hid hE;have HQ2:=hid hq2
          clear hG hA hE g8 hq2 h98
          refine tail_one (i:=21) (by kernel_rfl) rfl ?_
          intro K hK
          go_simp
          have hT1:=hTk.out.ext HE.out
          have hnk:=(TNUM.out _ _ _ hT1 o hlo).num k hlk
          rw [pst_old HOI.out (Nat.le_refl _)] at hnk
          have hzz:=hZ.out.ext HE.out
          refine (ratSub_calls (Pt o k) (Pt o k) q _ _ wz hnk.blk hnk HQ2.out S1.out S4.out).mono ?_;rintro e w5 ⟨rfl,hx,hb5⟩
          refine hK _ _ ?_
          have hset:=hT1.setRat hlo (by have:=HN1.out;omega) hx hb5
          have HT5:=hid hset
          have HZ5:=hid (hzz.but hnk.blk.int hb5 (fun e=>by have:=HOLD.out o k hlo hlk;omega))
          have HC5:=hid ((hC.out.ext HE.out).trans (Chg.ofBut hb5 hnk.blk.noW (.inl ⟨o,k,hlo,by have:=HN1.out;omega,rfl⟩)))
          clear hK hx hb5 hnk hzz hT1 hset HQ2
          refine wpAny_done (by kernel_rfl) ?_ _
          go_wp2
          go_roundw
          case rel=>exact ⟨k+1,by omega,by go_num,hid (HT5.out.congr (fun a b ha hb=>pst_step HOI.out a b) (fun _ _=>rfl) (fun _ _=>rfl)),HZ5,HC5⟩
          case measure=>simp [intOf];omega
        ·obtain rfl:N1=k:=by omega
         have HNX:=hid (hTk.out.congr (T':=pst T i j (o+1) 0) (fun a b _ hb=>pst_next a b (by have:=HN1.out;omega)) (fun _ _=>rfl) (fun _ _=>rfl))
         go_wp2
         go_roundw
         case rel=>exact ⟨o+1,by omega,by go_num,HNX,hC⟩
         case measure=>simp [intOf];omega
    ·obtain rfl:m=o:=by omega
     have c3:wr.cell? ⟨t,3,none⟩=some (.slice (some ⟨bb,0,none⟩) m cb):=hTo.out.t3
     obtain ⟨bb',e,c4⟩:=hTo.out.bas i hi
     injection e with e;injection e with e
     subst e
     have c5:=(hTo.out.basO bb rfl).2.2.2.2.2
     go_wp2
     go_end0
     have hset:=hTo.out.setBas hi rfl j
     refine ⟨rfl,hset.congr (fun a b ha _=>pst_end a b ha) (fun _ _=>rfl) (fun _ _=>rfl),?_⟩
     refine hC.out.trans (Chg.ofBut ((But.refl _ _).set i _) (fun o n e=>?_) (.inr (.inl ⟨by omega,rfl⟩)))
     obtain ⟨k,e2⟩:=(hTo.out.basO bb rfl).2.2.2.2.1 _ _ e
     cases e2
end
section
open Go.RowKit
open Lp (Tab Bas sumTo redc piv pivB Tb Ok SmallT IsI tab0 mini pick firstTo)
theorem sq_den {D K:Nat} {x:Rat} (h0:0<D) (hD:D≤524880000000) (hK:K≤17496000000000) (h:IsI ((D:Rat)*x) K):Sq 2 x:=by
 obtain ⟨z,hz,hzb⟩:=h
 have hx:x=mkRat z D:=by
  rw [Rat.mkRat_eq_div,Rat.div_def]
  have hD0:(D:Rat)≠0:=by
   intro e;have:=Rat.natCast_inj.1 (show ((D:Nat):Rat)=((0:Nat):Rat) from e);omega
  rw [←hz]
  have:((D:Rat))*((D:Rat))⁻¹=1:=Rat.mul_inv_cancel _ hD0
  grind
 have h2:=mkRat_le z D (by omega)
 rw [←hx] at h2
 exact ⟨digits_small.2 (by omega),digits_small.2 (by omega)⟩
theorem rat_pos_ne {x:Rat} (h:0<x):x≠0:=by grind
theorem rat_not_le {x:Rat} (h:¬ x≤0):0<x:=by grind
theorem pick_no1 {q l:Rat} {p:Prop} (h:q<l):¬ (l<q∨(q=l∧p)):=by grind
theorem pick_no2 {q l:Rat} {p:Prop} (h:q=l) (hp:¬ p):¬ (l<q∨(q=l∧p)):=by grind
theorem rat_tri (x y:Rat):x<y∨x=y∨y<x:=by grind
theorem sq_quo {x y:Rat} (hx:Sq 10 x) (hy:Sq 10 y) (h0:y≠0):RSm (x / y):=by
 rw [Rat.div_def];exact (hx.mul (hy.inv (fun e=>h0 (Rat.num_eq_zero.1 e)))).rsm (by omega)
theorem Ok.sqT {A:Tab} {b:Nat→Rat} {n m:Nat} {sh:Nat→Bool} {T:Tab} {Bs:Bas} (h:Ok (tab0 A b n m) m (n+2*m) sh T Bs) (hs:SmallT A b n m):SqT 10 m (n+2*m+1) T:=by
 obtain ⟨D,h0,hD,h1,h2,-⟩:=h.tb.den hs
 intro i j hi hj
 rcases Nat.lt_or_ge j (n+2*m) with h3|h3
 ·exact (sq_den h0 hD (by omega) (h1 i j hi h3)).mono (by omega)
 ·obtain rfl:j=n+2*m:=by omega
  exact (sq_den h0 hD (by omega) (h2 i hi)).mono (by omega)
theorem redTo_redc {N m:Nat} {T:Tab} {Bs:Bas} {cost:Nat→Rat} {j:Nat} (hj:j≤N) (hN:cost N=0):redTo N m T Bs cost j=redc m T Bs cost j:=by
 unfold redTo redc
 by_cases h:j<N
 ·rw [if_pos h]
 ·obtain rfl:j=N:=by omega
  rw [if_neg h,hN]
theorem firstTo_all {p:Nat→Bool}:∀ {n:Nat},(∀ k,k<n→p k=false)→firstTo n p=none
 | 0,_=>rfl
 | n+1,h=>by
   unfold firstTo
   rw [firstTo_all fun k hk=>h k (by omega)]
   simp [h n (by omega)]
theorem firstTo_at {p:Nat→Bool} {j:Nat}:∀ {n:Nat},j<n→(∀ k,k<j→p k=false)→p j=true→firstTo n p=some j
 | 0,h,_,_=>by omega
 | n+1,h,h1,h2=>by
   unfold firstTo
   rcases Nat.lt_or_ge j n with h3|h3
   ·rw [firstTo_at h3 h1 h2]
   ·obtain rfl:j=n:=by omega
    rw [firstTo_all h1];simp [h2]
theorem sgnQ_lt {x y:Rat} (h:x<y):sgnQ x y = -1:=sgnI_lt ((Rat.lt_iff _ _).1 h)
theorem sgnQ_gt {x y:Rat} (h:y<x):sgnQ x y=1:=sgnI_gt ((Rat.lt_iff _ _).1 h)
theorem sgnQ_eq {x y:Rat} (h:x=y):sgnQ x y=0:=by subst h;exact sgnI_eq rfl
theorem pick_le {T:Tab} {B:Bas} {N s k:Nat} (h:T k s≤0):pick T B N s (k+1)=pick T B N s k:=by
 rw [pick,if_pos h]
theorem pick_new {T:Tab} {B:Bas} {N s k:Nat} (h:0<T k s) (hn:pick T B N s k=none):pick T B N s (k+1)=some (k,T k N / T k s):=by
 rw [pick,if_neg (by grind),hn]
theorem pick_keep {T:Tab} {B:Bas} {N s k o:Nat} {l:Rat} (h:0<T k s) (hn:pick T B N s k=some (o,l)) (hc:l<T k N / T k s∨(T k N / T k s=l∧B o<B k)):pick T B N s (k+1)=some (o,l):=by
 rw [pick,if_neg (by grind),hn];simp only;rw [if_pos hc]
theorem pick_put {T:Tab} {B:Bas} {N s k o:Nat} {l:Rat} (h:0<T k s) (hn:pick T B N s k=some (o,l)) (hc:¬ (l<T k N / T k s∨(T k N / T k s=l∧B o<B k))):pick T B N s (k+1)=some (k,T k N / T k s):=by
 rw [pick,if_neg (by grind),hn];simp only;rw [if_neg hc]
theorem mini_none_at {m N:Nat} {cost:Nat→Rat} {sh:Nat→Bool} {f:Nat} {T:Tab} {B:Bas} (h:firstTo N (fun j=>!sh j && decide (redc m T B cost j<0))=none):mini m N cost sh (f+1) T B=some (T,B,none):=by
 rw [mini,h]
theorem mini_free_at {m N:Nat} {cost:Nat→Rat} {sh:Nat→Bool} {f s:Nat} {T:Tab} {B:Bas} (h:firstTo N (fun j=>!sh j && decide (redc m T B cost j<0))=some s) (h2:pick T B N s m=none):mini m N cost sh (f+1) T B=some (T,B,some s):=by
 rw [mini,h];simp only;rw [h2]
theorem mini_go_at {m N:Nat} {cost:Nat→Rat} {sh:Nat→Bool} {f s o:Nat} {l:Rat} {T:Tab} {B:Bas} (h:firstTo N (fun j=>!sh j && decide (redc m T B cost j<0))=some s) (h2:pick T B N s m=some (o,l)):mini m N cost sh (f+1) T B=mini m N cost sh f (piv T o s) (pivB B o s):=by
 rw [mini,h];simp only;rw [h2]
theorem nxt_at {m N:Nat} {cost:Nat→Rat} {sh:Nat→Bool} {s o:Nat} {l:Rat} {T:Tab} {B:Bas} (h:firstTo N (fun j=>!sh j && decide (redc m T B cost j<0))=some s) (h2:pick T B N s m=some (o,l)):Lp.nxt m N cost sh T B=some (s,o):=by
 unfold Lp.nxt;rw [h];simp only;rw [h2]
end
end Go.Proofs.YtkljafmdbajfeaaGreatDoor
