/- exact.tabled: the walk. -/
import Derived.Test.YtkljafmdbajfeaaGreatDoorNoH32
namespace Go.Proofs.YtkljafmdbajfeaaGreatDoor
set_option linter.unusedVariables false
set_option linter.unusedSimpArgs false
open Go.Lib (hid)
section
open Go.RowKit Go.ChangeMaps
open Lp (Tab Bas tab0 bas0)
theorem TabI.start (w:World) (n m:Nat) (hn:0<n) (A:Tab) (b:Nat→Rat) (hB:Nat) (w2:World) (t:Nat) (hw:w2=(w.alloc (.cells (falses (n+2*m)).toArray 4 (0,0))).alloc (.cells #[.int .i64 n,.int .i64 m,.slice none 0 0,.slice none 0 0,.slice none 0 0,.slice (some ⟨w.heap.size,0,none⟩) (n+2*m:Nat) (n+2*m:Nat)] 250 (0,0))) (ht:t=w.heap.size+1) :
 TabI w2 w.heap.size t n m 0 (.slice none 0 0) (.slice none 0 0) (.slice none 0 0) w.heap.size (fun _=>0) (fun _ _=>0) A b:=by
 have hb1:=Blk.new w (falses (n+2*m)) 4
 have hb2:=Blk.new (w.alloc (.cells (falses (n+2*m)).toArray 4 (0,0))) [.int .i64 n,.int .i64 m,.slice none 0 0,.slice none 0 0,.slice none 0 0,.slice (some ⟨w.heap.size,0,none⟩) (n+2*m:Nat) (n+2*m:Nat)] 250
 have hA:Below (w.alloc (.cells (falses (n+2*m)).toArray 4 (0,0))).heap.size (w.alloc (.cells (falses (n+2*m)).toArray 4 (0,0))) ((w.alloc (.cells (falses (n+2*m)).toArray 4 (0,0))).alloc (.cells #[.int .i64 n,.int .i64 m,.slice none 0 0,.slice none 0 0,.slice none 0 0,.slice (some ⟨w.heap.size,0,none⟩) (n+2*m:Nat) (n+2*m:Nat)] 250 (0,0))):=(Below.refl _ _).alloc (Nat.le_refl _) _
 have hb1':=hb1
 rw [show (w.alloc (.cells (falses (n+2*m)).toArray 4 (0,0))).heap.size=w.heap.size+1 by simp] at hb2
 subst hw;subst ht
 have hnil:∀ ty Q (l:List Value),OwnAt ((w.alloc (.cells (falses (n+2*m)).toArray 4 (0,0))).alloc (.cells #[.int .i64 n,.int .i64 m,.slice none 0 0,.slice none 0 0,.slice none 0 0,.slice (some ⟨w.heap.size,0,none⟩) (n+2*m:Nat) (n+2*m:Nat)] 250 (0,0))) w.heap.size ty Q (.slice none 0 0) 0 (l.take 0):=fun ty Q l=>⟨by rw [List.take_zero];exact World.ownsRow_nil _ _ _ _,OwnC.nil _ _ _ _⟩
 refine ⟨by omega,fun _=>rfl,⟨Chg.refl _ _,hnil _ _ _,hnil _ _ _,hnil _ _ _,fun g e=>(by cases e),fun g e=>(by cases e),⟨fun e=>(by cases e),fun e=>(by cases e),fun e=>(by cases e)⟩,hb2.lt,
  hb2.cell 0 (by simp),hb2.cell 1 (by simp),hb2.cell 2 (by simp),hb2.cell 3 (by simp),hb2.cell 4 (by simp),hb2.cell 5 (by simp),fun i=>hb2.free i,fun o k e=>?_⟩,fun a ha=>by omega,fun a c k l ha=>by omega,fun j hj=>?_,by omega,?_,fun o x e=>?_,fun i=>?_⟩
 ·have:=cell_in hb2 e;simp at this
 ·rw [World.cell?_of_block (w:=w.alloc (.cells (falses (n+2*m)).toArray 4 (0,0))) (a:=⟨w.heap.size,j,none⟩) (hA.block _ hb1.lt),hb1.cell j (by simp [falses];omega)]
  simp [falses]
 ·exact Nat.lt_of_lt_of_le hb1.lt hA.size
 ·rw [World.cell?_of_block (w:=w.alloc (.cells (falses (n+2*m)).toArray 4 (0,0))) (a:=⟨w.heap.size,o,none⟩) (hA.block _ hb1.lt)] at e
  exact ⟨false,List.eq_of_mem_replicate (cell_in hb1 e)⟩
 ·exact (World.frozen?_of_block (a:=⟨w.heap.size,i,none⟩) (hA.block _ hb1.lt)).trans (hb1.free i)
theorem sgI_sg (b:Nat→Rat) (i:Nat):((sgI b i:Int):Rat)=Lp.sg b i:=by
 unfold sgI Lp.sg;split<;>rfl
theorem sg_sq2 (b:Nat→Rat) (i:Nat):Sq 2 (Lp.sg b i):=by
 unfold Lp.sg;split
 ·exact ⟨digits_small.2 (by decide),digits_small.2 (by decide)⟩
 ·exact ⟨digits_small.2 (by decide),digits_small.2 (by decide)⟩
theorem i64_small {z:Int} (h:z.natAbs≤100000):IntKind.i64.wrap z=z:=by rw [IntKind.wrap_i64];omega
set_option maxRecDepth 100000 in
set_option maxHeartbeats 8000000 in
theorem tabled_calls (av bv:Value) (n m:Nat) (A:Tab) (b:Nat→Rat) (w:World) (ha:RowsX w av m n A) (hb:RatsX w bv m b) (hn0:0<n) (hn:n≤100) (hm:m≤100) (sA:∀ i j,i<m→j<n→Sq 10 (A i j)) (sb:∀ i,i<m→Sq 10 (b i)) :
 Calls Tryz.prog 211 #[av,bv,.int .i64 n] w fun e w'=>∃ t D,e=.returned (.pointer (some ⟨t,0,none⟩))∧TabD w' w.heap.size t n m D (tab0 A b n m) (bas0 n m) (sgI b) (fun _=>false)∧Below w.heap.size w w':=by
 obtain ⟨aA,aC,rfl,-⟩:=id ha
 obtain ⟨bA,bC,rfl,-⟩:=id hb
 have HAX:=hid ha;have HBX:=hid hb;have SA:=hid sA;have SB:=hid sb
 clear ha hb sA sb
 obtain ⟨m2,hm2⟩:∃ m2,2*m=m2:=⟨_,rfl⟩
 obtain ⟨N,hN⟩:∃ N,n+2*m=N:=⟨_,rfl⟩
 obtain ⟨N1,hN1⟩:∃ N1,N+1=N1:=⟨_,rfl⟩
 have HN:=hid hN;have HN1:=hid hN1;have HM2:=hid hm2
 have hNb:N1≤301:=by omega
 have wq1:IntKind.i64.wrap (2*(m:Int))=(m2:Int):=by rw [i64_small (by omega)];omega
 have wq2:IntKind.i64.wrap ((n:Int)+(m2:Int))=(N:Int):=by rw [i64_small (by omega)];omega
 have wq3:IntKind.i64.wrap ((N:Int)+1)=(N1:Int):=by rw [i64_small (by omega)];omega
 clear hN hN1 hm2
 have hNb2:N≤300:=by have:=HN.out;omega
 have hmk:=fun w=>run_makeBools w N (by omega)
 go_enter Tryz.func211,Tryz.ntmps211
 go_wp2_with fail
 obtain ⟨t,ht⟩:∃ t,t=w.heap.size+1:=⟨_,rfl⟩
 rw [←ht]
 obtain ⟨w2,hw2⟩:∃ w2,w2=((w.alloc (.cells (falses N).toArray 4 (0,0))).alloc (.cells #[.int .i64 n,.int .i64 m,.slice none 0 0,.slice none 0 0,.slice none 0 0,.slice (some ⟨w.heap.size,0,none⟩) N N] 250 (0,0))):=⟨_,rfl⟩
 rw [←hw2]
 have HST:Hid (TabI w2 w.heap.size t n m 0 (.slice none 0 0) (.slice none 0 0) (.slice none 0 0) w.heap.size (fun _=>0) (fun _ _=>0) A b):=hid (TabI.start w n m hn0 A b 0 w2 t (by rw [hw2,HN.out]) ht)
 have HBE:Hid (Below w.heap.size w w2):=hid (by rw [hw2];exact ((Below.refl _ _).alloc (Nat.le_refl _) _).alloc (by simp) _)
 have HT:=hid ht
 clear ht hw2 hmk
 go_loopw [26] (fun ti wr=>∃ (i:Nat) (vr vb vs:Value) (rb:Nat→Nat) (P:Nat→Nat→Nat),i≤m∧ti=.int .i64 i∧Hid (TabI wr w.heap.size t n m i vr vb vs w.heap.size rb P A b)∧Hid (Below w.heap.size w wr)) (fun ti _=>m-(intOf ti).toNat)
 case atStart=>exact ⟨0,_,_,_,_,_,Nat.zero_le _,rfl,HST,HBE⟩
 case round =>
  clear HST HBE
  obtain ⟨i,vr,vb,vs,rb,P,hi,rfl,hI,hbe⟩:=hrel
  by_cases hlt:i<m
  ·have hi1:(i:Int)<m:=by omega
   obtain ⟨ab,ob,pb,rfl,hcb,hzb⟩:=(HBX.out.ext hbe.out).at hlt
   have HZB:=hid hzb
   obtain ⟨aa,oa,xa,rfl,hca,hxa⟩:=(HAX.out.ext hbe.out).at hlt
   obtain ⟨xA,xc,rfl,-⟩:=id hxa
   have HXA:=hid hxa
   clear hxa
   have HSG:=hid (ratSign_calls pb (b i) wr hzb)
   clear hzb
   go_wp2_with fail
   refine HSG.out.mono ?_;rintro e w3 ⟨rfl,hw3⟩
   subst hw3
   obtain ⟨s,hs,hs0⟩:∃ s:Int,sgnI (b i).num 0=s∧(s<0↔b i<0):=⟨_,rfl,sgn_lt0 _⟩
   rw [hs]
   have HS0:=hid hs0
   clear hs hs0 HSG
   go_upto_if 34 with (fail)
   go_cut [10] (fun s wx=>s=.int .i64 (sgI b i)∧wx=w3)
   case first =>
    by_cases h0:s<0
    ·have hg:Hid (sgI b i = -1):=hid (by unfold sgI;rw [if_pos (HS0.out.1 h0)])
     go_wp2
     go_meet
     exact ⟨by rw [hg.out],rfl⟩
    ·have hg:Hid (sgI b i=1):=hid (by unfold sgI;rw [if_neg (fun h=>h0 (HS0.out.2 h))])
     go_wp2
     go_meet
     exact ⟨by rw [hg.out],rfl⟩
   case rest =>
    obtain ⟨rfl,hwc⟩:=hcut
    rw [hwc]
    clear hwc
    have HEN:=hid (entries_calls N1 w3 (by omega))
    go_wp2_with fail
    refine HEN.out.mono ?_;rintro e w4 ⟨rr,Pr,rfl,hQ,hb4⟩
    have hsb : -9223372036854775808≤sgI b i∧sgI b i≤9223372036854775807:=by unfold sgI;split<;>omega
    have hnr:=newRat_calls (sgI b i) 1 w4 hsb.1 hsb.2 (by omega) (by omega)
    rw [mk1,sgI_sg] at hnr
    have HNR:=hid hnr;have HQ4:=hid hQ;have HB4:=hid hb4
    clear hnr hQ hb4 HEN hsb
    go_wp2_with fail
    refine HNR.out.mono ?_;rintro e w5 ⟨ps,rfl,hps,hzs,hb5⟩
    have HQ5:=hid (HQ4.out.ext hb5);have HZS:=hid hzs;have HB5:=hid (HB4.out.trans (hb5.mono HB4.out.size))
    have HNE:Hid (∀ k,k<N1→ps≠Pr k):=hid (fun k hk e=>by have:=(HQ4.out.num k hk).lt;omega)
    clear hps hzs hb5 HNR HQ4 HB4
    have SG:Hid (RSm (Lp.sg b i)):=hid ((sg_sq2 b i).rsm (by omega))
    have hnN:n<N:=by have:=HN.out;omega
    go_wp2_with fail
    go_loopw [44] (fun tj wr=>∃ (j:Nat),j≤n∧tj=.int .i64 j∧Hid (RowQ wr w3.heap.size rr N1 N1 Pr (fun k=>if k<j then Lp.sg b i*A i k else 0))∧Hid (RatP wr ps (Lp.sg b i))∧Hid (Below w3.heap.size w3 wr)) (fun tj _=>n-(intOf tj).toNat)
    case atStart=>exact ⟨0,Nat.zero_le _,rfl,hid (HQ5.out.congr fun k hk=>by rw [if_neg (by omega)]),HZS,HB5⟩
    case round =>
     clear HQ5 HZS HB5
     obtain ⟨j,hj,rfl,hQ,hZ,hB⟩:=hrel
     by_cases hlj:j<n
     ·have hj1:(j:Int)<n:=by omega
      have hj2:(j:Int)<N1:=by have:=HN.out;have:=HN1.out;omega
      have hjN:j<N1:=by omega
      obtain ⟨ai,oi,pij,rfl,q3,hzij⟩:=(HXA.out.ext hB.out).at hlj
      have q1:=hQ.out.cell j hjN
      have q2:=((bcell hB.out).1 _ _ (cell_lt hca)).trans hca
      have HZIJ:=hid hzij
      have SIJ:Hid (RSm (A i j)):=hid ((SA.out i j hlt hlj).rsm (by omega))
      clear hzij
      go_wp2_with fail
      refine wp_region_kc (w0:=wr) 12 [47,48,49,50,51,52,53,54,55,56,57,58]
       [.c (.slice (some ⟨rr,0,none⟩) N1 N1),.c (.int .i64 j),.c (.pointer (some ⟨rr,j,none⟩)),.c (.pointer (some ⟨(Pr j),0,none⟩)),.c (.pointer (some ⟨ps,0,none⟩)),.c (.slice (some ⟨aa,oa,none⟩) m aC),.c (.int .i64 i),.c (.pointer (some ⟨aa,oa+i,none⟩)),.c (.slice (some ⟨ai,oi,none⟩) n xc),.c (.int .i64 j),.c (.pointer (some ⟨ai,oi+j,none⟩)),.c (.pointer (some ⟨pij,0,none⟩))]
       [] RatBlk (by kernel_rfl) (by kernel_rfl) (by kernel_rfl) rfl (F:=?cFr13) ?r13c1 ?r13c2 ?r13c3 ?r13c4
      case r13c1 =>
       intro x
       simp only [fullC,Act.put,List.setIfInBounds_toArray,List.set_cons_zero,List.set_cons_succ]
       rfl
      case r13c2 =>
       exact trivial
      case r13c3 =>
       refine ⟨?_,?_,?_,?_,?_,?_,?_,?_,?_,?_,?_,?_,trivial⟩
       all_goals
        intro xx wq HE hd K hK
        have hc:=(bcell HE).1
        have q1':=(hc _ _ (cell_lt q1)).trans q1
        have q2':=(hc _ _ (cell_lt q2)).trans q2
        have q3':=(hc _ _ (cell_lt q3)).trans q3
        have HE:=hid HE
        have HC:=hid hc
        clear hd hc
        all_goals go_simp
        try (refine hK _ _ _ (mv_const _ rfl) ?_;dsimp only [Act.put];first|done|rfl|(simp [*];done))
      case r13c4 =>
       intro xx wz hE hG hA
       have e2:xx 49=_:=hG 2 _ rfl
       have HE:=hid hE
       clear hG hA hE
       refine tail_one (i:=12) (by kernel_rfl) rfl ?_
       intro K hK
       go_simp
       have hq1:=hQ.out.ext HE.out
       have hz1:=hZ.out.ext HE.out
       refine (ratMul_calls (Pr j) ps pij _ _ wz (hq1.num j hjN).blk hz1 (HZIJ.out.ext HE.out) SG.out SIJ.out).mono ?_;rintro e w6 ⟨rfl,hx,hb6⟩
       refine hK _ _ ?_
       have HQ6:=hid (hq1.set hjN hx hb6)
       have HZ6:=hid (hz1.but (hq1.num j hjN).blk.int hb6 (HNE.out j hjN))
       have HB6:=hid ((hB.out.trans (HE.out.mono hB.out.size)).trans (hb6.below (hq1.low j hjN) (by have:=hB.out.size;have:=HE.out.size;omega)))
       clear hK hx hb6 hq1 hz1
       refine wpAny_done (by kernel_rfl) ?_ _
       go_wp2
       go_roundw
       case rel =>
        refine ⟨j+1,by omega,by go_num,hid (HQ6.out.congr fun k hk=>?_),HZ6,HB6⟩
        by_cases e:k=j
        ·subst e;rw [if_pos rfl,if_pos (by omega)]
        ·rw [if_neg e]
         by_cases e2:k<j
         ·rw [if_pos e2,if_pos (show k<j+1 by omega)]
         ·rw [if_neg e2,if_neg (show ¬ k<j+1 by omega)]
       case measure=>simp [intOf];omega
     ·obtain rfl:n=j:=by omega
      obtain ⟨ni,hni⟩:∃ ni,n+i=ni:=⟨_,rfl⟩
      obtain ⟨nm,hnm⟩:∃ nm,n+m=nm:=⟨_,rfl⟩
      obtain ⟨nmi,hnmi⟩:∃ nmi,nm+i=nmi:=⟨_,rfl⟩
      have hniN:ni<N1:=by have:=HN.out;have:=HN1.out;omega
      have hnmiN:nmi<N1:=by have:=HN.out;have:=HN1.out;omega
      have wq4:IntKind.i64.wrap ((n:Int)+(i:Int))=(ni:Int):=by rw [i64_small (by omega)];omega
      have wq5:IntKind.i64.wrap ((n:Int)+(m:Int))=(nm:Int):=by rw [i64_small (by omega)];omega
      have wq6:IntKind.i64.wrap ((nm:Int)+(i:Int))=(nmi:Int):=by rw [i64_small (by omega)];omega
      have hni1:(ni:Int)<N1:=by omega
      have hnmi1:(nmi:Int)<N1:=by omega
      have HNI:=hid hni;have HNM:=hid hnm;have HNMI:=hid hnmi
      clear hni hnm hnmi
      have q1:=hQ.out.cell ni hniN
      have HNG:=hid (ratNeg_calls (Pr ni) ps (Lp.sg b i) wr (hQ.out.num ni hniN).blk hZ.out)
      go_wp2_with fail
      refine HNG.out.mono ?_;rintro e w6 ⟨rfl,hx,hb6⟩
      have hbk:=(hQ.out.num ni hniN).blk
      have HQ6:=hid (hQ.out.set hniN hx hb6)
      have HZ6:=hid (hZ.out.but hbk.int hb6 (HNE.out ni hniN))
      have HB6:=hid (hB.out.trans (hb6.below (hQ.out.low ni hniN) hB.out.size))
      clear hx hb6 hbk HNG hQ hZ hB q1
      have q1:=HQ6.out.cell nmi hnmiN
      have HSI:=hid (setInt64_calls (Pr nmi) 1 w6 (by omega) (by omega) (HQ6.out.num nmi hnmiN).blk)
      go_wp2_with fail
      refine HSI.out.mono ?_;rintro e w7 ⟨rfl,hx,hb7⟩
      have hbk:=(HQ6.out.num nmi hnmiN).blk
      have HQ7:=hid (HQ6.out.set hnmiN hx hb7)
      have HZ7:=hid (HZ6.out.but hbk.int hb7 (HNE.out nmi hnmiN))
      have HB7:=hid (HB6.out.trans (hb7.below (HQ6.out.low nmi hnmiN) HB6.out.size))
      clear hx hb7 hbk HSI HQ6 HZ6 HB6 q1
      have hNN1:(N:Int)<N1:=by have:=HN1.out;omega
      have hNN:N<N1:=by omega
      have q1:=HQ7.out.cell N hNN
      have q2:=((bcell HB7.out).1 _ _ (cell_lt hcb)).trans hcb
      have SBI:Hid (RSm (b i)):=hid ((SB.out i hlt).rsm (by omega))
      go_wp2_with fail
      refine wp_region_kc (w0:=w7) 12 [78,79,80,81,82,83,84,85,86,87,88,89]
       [.c (.slice (some ⟨rr,0,none⟩) N1 N1),.c (.int .i64 n),.c (.int .i64 m),.c (.int .i64 m2),.c (.int .i64 N),.c (.pointer (some ⟨rr,N,none⟩)),.c (.pointer (some ⟨(Pr N),0,none⟩)),.c (.pointer (some ⟨ps,0,none⟩)),.c (.slice (some ⟨ab,ob,none⟩) m bC),.c (.int .i64 i),.c (.pointer (some ⟨ab,ob+i,none⟩)),.c (.pointer (some ⟨pb,0,none⟩))]
       [] RatBlk (by kernel_rfl) (by kernel_rfl) (by kernel_rfl) rfl (F:=?cFr17) ?r17c1 ?r17c2 ?r17c3 ?r17c4
      case r17c1 =>
       intro x
       simp only [fullC,Act.put,List.setIfInBounds_toArray,List.set_cons_zero,List.set_cons_succ]
       rfl
      case r17c2 =>
       exact trivial
      case r17c3 =>
       refine ⟨?_,?_,?_,?_,?_,?_,?_,?_,?_,?_,?_,?_,trivial⟩
       all_goals
        intro xx wq HE hd K hK
        have hc:=(bcell HE).1
        have q1':=(hc _ _ (cell_lt q1)).trans q1
        have q2':=(hc _ _ (cell_lt q2)).trans q2
        have HE:=hid HE
        have HC:=hid hc
        clear hd hc
        all_goals go_simp
        try (refine hK _ _ _ (mv_const _ rfl) ?_;dsimp only [Act.put];first|done|rfl|(simp [*];done))
      case r17c4 =>
       intro xx wz hE hG hA
       have e0:xx 78=_:=hG 0 _ rfl
       have e1:xx 79=_:=hG 1 _ rfl
       have e2:xx 80=_:=hG 2 _ rfl
       have e3:xx 81=_:=hG 3 _ rfl
       have e4:xx 82=_:=hG 4 _ rfl
       have e5:xx 83=_:=hG 5 _ rfl
       have e6:xx 84=_:=hG 6 _ rfl
       have e7:xx 85=_:=hG 7 _ rfl
       have e10:xx 88=_:=hG 10 _ rfl
       have e11:xx 89=_:=hG 11 _ rfl
       have HE:=hid hE
       clear hG hA hE
       refine tail_one (i:=12) (by kernel_rfl) rfl ?_
       intro K hK
       go_simp
       have hq1:=HQ7.out.ext HE.out
       refine (ratMul_calls (Pr N) ps pb _ _ wz (hq1.num N hNN).blk (HZ7.out.ext HE.out) (HZB.out.ext (HB7.out.trans (HE.out.mono HB7.out.size))) SG.out SBI.out).mono ?_;rintro e w8 ⟨rfl,hx,hb8⟩
       refine hK _ _ ?_
       have HQ8:=hid (hq1.set hNN hx hb8)
       have hb38:=(HB7.out.trans (HE.out.mono HB7.out.size)).trans (hb8.below (hq1.low N hNN) (by have:=HB7.out.size;have:=HE.out.size;omega))
       have HB8:=hid hb38
       clear hK hx hb8 hq1 q1 q2 HQ7 HZ7 HB7 HE hb38
       refine wpAny_done (by kernel_rfl) ?_ _
       have HROW:Hid (RowQ w8 w3.heap.size rr (n+2*m+1) (n+2*m+1) Pr (tab0 A b n m i)):=hid (by
        rw [HN.out,HN1.out]
        refine HQ8.out.congr fun k hk=>?_
        have h1:=HN.out;have h2:=HN1.out;have h3:=HNI.out;have h4:=HNM.out;have h5:=HNMI.out
        unfold tab0
        by_cases e1:k=N
        ·rw [if_pos e1,if_neg (by omega),if_neg (by omega),if_neg (by omega)]
        ·rw [if_neg e1]
         by_cases e2:k=nmi
         ·rw [if_pos e2,if_neg (by omega),if_neg (by omega),if_pos (by omega),if_pos (by omega)];rfl
         ·rw [if_neg e2]
          by_cases e3:k=ni
          ·rw [if_pos e3,if_neg (by omega),if_pos (by omega),if_pos (by omega)]
          ·rw [if_neg e3]
           by_cases e4:k<n
           ·rw [if_pos e4,if_pos e4]
           ·rw [if_neg e4,if_neg e4]
            by_cases e5:k<n+m
            ·rw [if_pos e5,if_neg (by omega)]
            ·rw [if_neg e5,if_pos (by omega),if_neg (by omega)])
       have HI8:=hid (hI.out.ext HB8.out)
       have HFR:Hid (∀ a k l,a<i→k<n+2*m+1→l<n+2*m+1→P a k≠Pr l):=hid (fun a k l ha hk hl e=>by
        have h1:=((hI.out.num a ha).num k hk).lt
        have h2:=HROW.out.low l hl
        omega)
       have HPT:=hid (hI.out.ext HB8.out |>.pt0 rr)
       rw [HN.out,HN1.out] at HPT
       have HBS:Hid (w.heap.size≤w3.heap.size):=hid hbe.out.size
       have HB0:Hid (w.heap.size≤w8.heap.size):=hid (hbe.out.trans (HB8.out.mono hbe.out.size)).size
       have HU:Hid (∀ g,rowU vr vb vs t g→g<w8.heap.size):=hid fun g hg=>(HI8.out.u_old g hg).2
       have HTL:Hid (t<w8.heap.size):=hid HI8.out.pt.tl
       have HNS:Hid (n+m+i=nmi):=hid (by have h4:=HNM.out;have h5:=HNMI.out;omega)
       have HBW:=hid (hbe.out.trans (HB8.out.mono hbe.out.size))
       clear HQ8 hI hbe HB8
       go_wp2_with fail
       refine wp_region_stores (w0:=w8) 37 [91,92,93,94,95,96,97,98,99,100,101,102,103,104,105,106,107,108,109,110,111,112,113,114,115,116,117,118,119,120,100030,121,122,100033,123,124,100036]
        [some (.pointer (some ⟨t,0,none⟩)),some (.pointer (some ⟨t,0,none⟩)),some (.pointer (some ⟨t,0,none⟩)),some (.pointer (some ⟨t,0,none⟩)),some (.pointer (some ⟨t,0,none⟩)),some (.pointer (some ⟨t,2,none⟩)),some (vr),some (.slice (some ⟨rr,0,none⟩) N1 N1),none,none,some (.pointer (some ⟨t,0,none⟩)),some (.pointer (some ⟨t,0,none⟩)),some (.pointer (some ⟨t,3,none⟩)),some (vb),some (.int .i64 n),some (.int .i64 m),some (.int .i64 nm),some (.int .i64 i),some (.int .i64 nmi),none,none,some (.pointer (some ⟨t,0,none⟩)),some (.pointer (some ⟨t,0,none⟩)),some (.pointer (some ⟨t,4,none⟩)),some (vs),some (.int .i64 (sgI b i)),none,none,some (.pointer (some ⟨t,0,none⟩)),some (.pointer (some ⟨t,2,none⟩)),none,some (.pointer (some ⟨t,0,none⟩)),some (.pointer (some ⟨t,3,none⟩)),none,some (.pointer (some ⟨t,0,none⟩)),some (.pointer (some ⟨t,4,none⟩)),none]
        [9,20,27,30,33,36] [8,19,26] (fun j=>FlP w8 (if j=8 then .slice (some ⟨rr,0,none⟩) N1 N1 else if j=19 then .int .i64 nmi else .int .i64 (sgI b i))) (RR w8) (StC w8 w.heap.size t n m i w.heap.size (rowL (fun a=>if a=i then rr else rb a) m N1) (basL n m) (sgL b m) vr vb vs) (by kernel_rfl) (by kernel_rfl) (by kernel_rfl) (by exact Nat.le_of_ble_eq_true rfl) (F:=?cFr18) ?r18c1 (fun _ _ _ _ h hr=>h.rr hr) (fun _ _ _ _ h hr=>h.below hr) (fun l w1 w2 h hb=>StC.below l w1 w2 h hb) (PT.below HPT.out (drewN_below w8 1)) ?r18c3 ?r18c4
       case r18c1 =>
        intro x
        simp only [fullF,Act.put,List.setIfInBounds_toArray,List.set_cons_zero,List.set_cons_succ]
        rfl
       case r18c3 =>
        refine ⟨?_,?_,?_,?_,?_,?_,?_,?_,?_,?r18o9,?_,?_,?_,?_,?_,?_,?_,?_,?_,?_,?r18o20,?_,?_,?_,?_,?_,?_,?r18o27,?_,?_,?_,?_,?_,?_,?_,?_,?_,trivial⟩
        case r18o9 =>
         intro xx wq kk hkk hC hcon hfl hlk hwt K hK
         try have e0:xx 91=_:=hcon 0 _ (by decide) rfl
         try have e1:xx 92=_:=hcon 1 _ (by decide) rfl
         try have e2:xx 93=_:=hcon 2 _ (by decide) rfl
         try have e3:xx 94=_:=hcon 3 _ (by decide) rfl
         try have e4:xx 95=_:=hcon 4 _ (by decide) rfl
         try have e5:xx 96=_:=hcon 5 _ (by decide) rfl
         try have e6:xx 97=_:=hcon 6 _ (by decide) rfl
         try have e7:xx 98=_:=hcon 7 _ (by decide) rfl
         try have g8:=hfl 8 (by decide) (by decide)
         try have e10:xx 101=_:=hcon 10 _ (by decide) rfl
         try have e11:xx 102=_:=hcon 11 _ (by decide) rfl
         try have e12:xx 103=_:=hcon 12 _ (by decide) rfl
         try have e13:xx 104=_:=hcon 13 _ (by decide) rfl
         try have e14:xx 105=_:=hcon 14 _ (by decide) rfl
         try have e15:xx 106=_:=hcon 15 _ (by decide) rfl
         try have e16:xx 107=_:=hcon 16 _ (by decide) rfl
         try have e17:xx 108=_:=hcon 17 _ (by decide) rfl
         try have e18:xx 109=_:=hcon 18 _ (by decide) rfl
         try have g19:=hfl 19 (by decide) (by decide)
         try have e21:xx 112=_:=hcon 21 _ (by decide) rfl
         try have e22:xx 113=_:=hcon 22 _ (by decide) rfl
         try have e23:xx 114=_:=hcon 23 _ (by decide) rfl
         try have e24:xx 115=_:=hcon 24 _ (by decide) rfl
         try have e25:xx 116=_:=hcon 25 _ (by decide) rfl
         try have g26:=hfl 26 (by decide) (by decide)
         try have e28:xx 119=_:=hcon 28 _ (by decide) rfl
         try have e29:xx 120=_:=hcon 29 _ (by decide) rfl
         try have e31:xx 121=_:=hcon 31 _ (by decide) rfl
         try have e32:xx 122=_:=hcon 32 _ (by decide) rfl
         try have e34:xx 123=_:=hcon 34 _ (by decide) rfl
         try have e35:xx 124=_:=hcon 35 _ (by decide) rfl
         have HC:=hid hC;clear hC
         have HL:=hid hlk;clear hlk
         have HW:=hid hwt;clear hwt
         try (have G8:=hid g8;clear g8)
         try (have G19:=hid g19;clear g19)
         try (have G26:=hid g26;clear g26)
         clear hcon hfl
         have hC:=HC.out
         obtain rfl:=HL.out 0 rfl
         have hC:(StC w8 w.heap.size t n m i w.heap.size (rowL (fun a=>if a=i then rr else rb a) m N1) (basL n m) (sgL b m) vr vb vs) [] wq:=HC.out
         rw [if_pos (by rfl)]
         obtain ⟨j0,hj0,hjz0,hj1,hj2⟩:=info_parts infoRowQ
         obtain ⟨p,hp,hp1,hp2,hp3⟩:=G8.out
         refine wp_push (Q:=isSl) (.tmp 97) (.tmp 99) 214 82 rfl j0 _ 24 Tryz.underlying214 hj0 hjz0 hj1 hj2 rfl ⟨_,_,_,rfl⟩ (PT.ra hC) e6 _ _ (.slice (some ⟨rr,0,none⟩) N1 N1) hp hp3 rfl ⟨_,_,_,rfl⟩ (by omega) (by omega) (Nat.le_trans HB0.out (StC.grow hC)) ?_
         intro v' w' h2 h3 h4
         rw [←rowL_push hlt] at h2
         exact hK _ _ _ (MGood.link rfl rfl (PT.growA hC h2 h3 h4 (fun g hg=>.inl hg)) (RR.grown h3 (fun g hg=>(HU.out g (.inl hg))))) rfl
        case r18o20 =>
         intro xx wq kk hkk hC hcon hfl hlk hwt K hK
         try have e0:xx 91=_:=hcon 0 _ (by decide) rfl
         try have e1:xx 92=_:=hcon 1 _ (by decide) rfl
         try have e2:xx 93=_:=hcon 2 _ (by decide) rfl
         try have e3:xx 94=_:=hcon 3 _ (by decide) rfl
         try have e4:xx 95=_:=hcon 4 _ (by decide) rfl
         try have e5:xx 96=_:=hcon 5 _ (by decide) rfl
         try have e6:xx 97=_:=hcon 6 _ (by decide) rfl
         try have e7:xx 98=_:=hcon 7 _ (by decide) rfl
         try have g8:=hfl 8 (by decide) (by decide)
         try have e10:xx 101=_:=hcon 10 _ (by decide) rfl
         try have e11:xx 102=_:=hcon 11 _ (by decide) rfl
         try have e12:xx 103=_:=hcon 12 _ (by decide) rfl
         try have e13:xx 104=_:=hcon 13 _ (by decide) rfl
         try have e14:xx 105=_:=hcon 14 _ (by decide) rfl
         try have e15:xx 106=_:=hcon 15 _ (by decide) rfl
         try have e16:xx 107=_:=hcon 16 _ (by decide) rfl
         try have e17:xx 108=_:=hcon 17 _ (by decide) rfl
         try have e18:xx 109=_:=hcon 18 _ (by decide) rfl
         try have g19:=hfl 19 (by decide) (by decide)
         try have e21:xx 112=_:=hcon 21 _ (by decide) rfl
         try have e22:xx 113=_:=hcon 22 _ (by decide) rfl
         try have e23:xx 114=_:=hcon 23 _ (by decide) rfl
         try have e24:xx 115=_:=hcon 24 _ (by decide) rfl
         try have e25:xx 116=_:=hcon 25 _ (by decide) rfl
         try have g26:=hfl 26 (by decide) (by decide)
         try have e28:xx 119=_:=hcon 28 _ (by decide) rfl
         try have e29:xx 120=_:=hcon 29 _ (by decide) rfl
         try have e31:xx 121=_:=hcon 31 _ (by decide) rfl
         try have e32:xx 122=_:=hcon 32 _ (by decide) rfl
         try have e34:xx 123=_:=hcon 34 _ (by decide) rfl
         try have e35:xx 124=_:=hcon 35 _ (by decide) rfl
         have HC:=hid hC;clear hC
         have HL:=hid hlk;clear hlk
         have HW:=hid hwt;clear hwt
         try (have G8:=hid g8;clear g8)
         try (have G19:=hid g19;clear g19)
         try (have G26:=hid g26;clear g26)
         clear hcon hfl
         have hC:=HC.out
         obtain rfl:=HL.out 1 rfl
         have hC:(StC w8 w.heap.size t n m i w.heap.size (rowL (fun a=>if a=i then rr else rb a) m N1) (basL n m) (sgL b m) vr vb vs) [xx 100] wq:=HC.out
         rw [if_pos (by rfl)]
         obtain ⟨j0,hj0,hjz0,hj1,hj2⟩:=info_parts infoInt3
         obtain ⟨p,hp,hp1,hp2,hp3⟩:=G19.out
         refine wp_push (Q:=isI) (.tmp 104) (.tmp 110) 23 3 rfl j0 _ 8 Tryz.underlying23 hj0 hjz0 hj1 hj2 rfl ⟨_,rfl⟩ (PT.rb hC) e13 _ _ (.int .i64 nmi) hp hp3 rfl ⟨_,rfl⟩ (by omega) (by omega) (Nat.le_trans HB0.out (StC.grow hC)) ?_
         intro v' w' h2 h3 h4
         rw [←basL_push hlt HNS.out] at h2
         exact hK _ _ _ (MGood.link rfl rfl (PT.growB hC h2 h3 h4 (fun g hg=>.inr (.inl hg))) (RR.grown h3 (fun g hg=>(HU.out g (.inr (.inl hg)))))) rfl
        case r18o27 =>
         intro xx wq kk hkk hC hcon hfl hlk hwt K hK
         try have e0:xx 91=_:=hcon 0 _ (by decide) rfl
         try have e1:xx 92=_:=hcon 1 _ (by decide) rfl
         try have e2:xx 93=_:=hcon 2 _ (by decide) rfl
         try have e3:xx 94=_:=hcon 3 _ (by decide) rfl
         try have e4:xx 95=_:=hcon 4 _ (by decide) rfl
         try have e5:xx 96=_:=hcon 5 _ (by decide) rfl
         try have e6:xx 97=_:=hcon 6 _ (by decide) rfl
         try have e7:xx 98=_:=hcon 7 _ (by decide) rfl
         try have g8:=hfl 8 (by decide) (by decide)
         try have e10:xx 101=_:=hcon 10 _ (by decide) rfl
         try have e11:xx 102=_:=hcon 11 _ (by decide) rfl
         try have e12:xx 103=_:=hcon 12 _ (by decide) rfl
         try have e13:xx 104=_:=hcon 13 _ (by decide) rfl
         try have e14:xx 105=_:=hcon 14 _ (by decide) rfl
         try have e15:xx 106=_:=hcon 15 _ (by decide) rfl
         try have e16:xx 107=_:=hcon 16 _ (by decide) rfl
         try have e17:xx 108=_:=hcon 17 _ (by decide) rfl
         try have e18:xx 109=_:=hcon 18 _ (by decide) rfl
         try have g19:=hfl 19 (by decide) (by decide)
         try have e21:xx 112=_:=hcon 21 _ (by decide) rfl
         try have e22:xx 113=_:=hcon 22 _ (by decide) rfl
         try have e23:xx 114=_:=hcon 23 _ (by decide) rfl
         try have e24:xx 115=_:=hcon 24 _ (by decide) rfl
         try have e25:xx 116=_:=hcon 25 _ (by decide) rfl
         try have g26:=hfl 26 (by decide) (by decide)
         try have e28:xx 119=_:=hcon 28 _ (by decide) rfl
         try have e29:xx 120=_:=hcon 29 _ (by decide) rfl
         try have e31:xx 121=_:=hcon 31 _ (by decide) rfl
         try have e32:xx 122=_:=hcon 32 _ (by decide) rfl
         try have e34:xx 123=_:=hcon 34 _ (by decide) rfl
         try have e35:xx 124=_:=hcon 35 _ (by decide) rfl
         have HC:=hid hC;clear hC
         have HL:=hid hlk;clear hlk
         have HW:=hid hwt;clear hwt
         try (have G8:=hid g8;clear g8)
         try (have G19:=hid g19;clear g19)
         try (have G26:=hid g26;clear g26)
         clear hcon hfl
         have hC:=HC.out
         obtain rfl:=HL.out 2 rfl
         have hC:(StC w8 w.heap.size t n m i w.heap.size (rowL (fun a=>if a=i then rr else rb a) m N1) (basL n m) (sgL b m) vr vb vs) [xx 100,xx 111] wq:=HC.out
         rw [if_pos (by rfl)]
         obtain ⟨j0,hj0,hjz0,hj1,hj2⟩:=info_parts infoInt3
         obtain ⟨p,hp,hp1,hp2,hp3⟩:=G26.out
         refine wp_push (Q:=isI) (.tmp 115) (.tmp 117) 23 3 rfl j0 _ 8 Tryz.underlying23 hj0 hjz0 hj1 hj2 rfl ⟨_,rfl⟩ (PT.rc hC) e24 _ _ (.int .i64 (sgI b i)) hp hp3 rfl ⟨_,rfl⟩ (by omega) (by omega) (Nat.le_trans HB0.out (StC.grow hC)) ?_
         intro v' w' h2 h3 h4
         rw [←sgL_push hlt] at h2
         exact hK _ _ _ (MGood.link rfl rfl (PT.growC hC h2 h3 h4 (fun g hg=>.inr (.inr (.inl hg)))) (RR.grown h3 (fun g hg=>(HU.out g (.inr (.inr (.inl hg))))))) rfl
        all_goals
         intro xx wq kk hkk hC hcon hfl hlk hwt K hK
         try have e0:xx 91=_:=hcon 0 _ (by decide) rfl
         try have e1:xx 92=_:=hcon 1 _ (by decide) rfl
         try have e2:xx 93=_:=hcon 2 _ (by decide) rfl
         try have e3:xx 94=_:=hcon 3 _ (by decide) rfl
         try have e4:xx 95=_:=hcon 4 _ (by decide) rfl
         try have e5:xx 96=_:=hcon 5 _ (by decide) rfl
         try have e6:xx 97=_:=hcon 6 _ (by decide) rfl
         try have e7:xx 98=_:=hcon 7 _ (by decide) rfl
         try have g8:=hfl 8 (by decide) (by decide)
         try have e10:xx 101=_:=hcon 10 _ (by decide) rfl
         try have e11:xx 102=_:=hcon 11 _ (by decide) rfl
         try have e12:xx 103=_:=hcon 12 _ (by decide) rfl
         try have e13:xx 104=_:=hcon 13 _ (by decide) rfl
         try have e14:xx 105=_:=hcon 14 _ (by decide) rfl
         try have e15:xx 106=_:=hcon 15 _ (by decide) rfl
         try have e16:xx 107=_:=hcon 16 _ (by decide) rfl
         try have e17:xx 108=_:=hcon 17 _ (by decide) rfl
         try have e18:xx 109=_:=hcon 18 _ (by decide) rfl
         try have g19:=hfl 19 (by decide) (by decide)
         try have e21:xx 112=_:=hcon 21 _ (by decide) rfl
         try have e22:xx 113=_:=hcon 22 _ (by decide) rfl
         try have e23:xx 114=_:=hcon 23 _ (by decide) rfl
         try have e24:xx 115=_:=hcon 24 _ (by decide) rfl
         try have e25:xx 116=_:=hcon 25 _ (by decide) rfl
         try have g26:=hfl 26 (by decide) (by decide)
         try have e28:xx 119=_:=hcon 28 _ (by decide) rfl
         try have e29:xx 120=_:=hcon 29 _ (by decide) rfl
         try have e31:xx 121=_:=hcon 31 _ (by decide) rfl
         try have e32:xx 122=_:=hcon 32 _ (by decide) rfl
         try have e34:xx 123=_:=hcon 34 _ (by decide) rfl
         try have e35:xx 124=_:=hcon 35 _ (by decide) rfl
         have HC:=hid hC;clear hC
         have HL:=hid hlk;clear hlk
         have HW:=hid hwt;clear hwt
         try (have G8:=hid g8;clear g8)
         try (have G19:=hid g19;clear g19)
         try (have G26:=hid g26;clear g26)
         clear hcon hfl
         go_simp
         try (refine hK _ _ _ ⟨rfl,rfl⟩ ?_;dsimp only [Act.put];first|done|rfl|(simp [*];done))
        ·have hC:=HC.out
         have h3:=(StC.old hC (by rw [given_len];have:=HW.out 3 30 rfl (by decide);simp;omega)).1
         go_simp
         exact hK _ _ _ ⟨rfl,rfl⟩ (by first|(dsimp only [Act.put];done)|(dsimp only [Act.put];first|rfl|(simp [*];done)|(simp [*,ptr];done)))
        ·have hC:=HC.out
         exact hK _ _ _ (MGood.flt rfl rfl (FlP.new (StC.grow hC)) ((Below.refl _ _).alloc (Nat.le_refl _) _)) (by first|(dsimp only [Act.put];done)|(dsimp only [Act.put];first|rfl|(simp [*];done)|(simp [*,ptr];done)))
        ·have hC:=HC.out
         have h3:=(StC.old hC (by rw [given_len];have:=HW.out 3 30 rfl (by decide);simp;omega)).2.1
         go_simp
         exact hK _ _ _ ⟨rfl,rfl⟩ (by first|(dsimp only [Act.put];done)|(dsimp only [Act.put];first|rfl|(simp [*];done)|(simp [*,ptr];done)))
        ·have hC:=HC.out
         exact hK _ _ _ (MGood.flt rfl rfl (FlP.new (StC.grow hC)) ((Below.refl _ _).alloc (Nat.le_refl _) _)) (by first|(dsimp only [Act.put];done)|(dsimp only [Act.put];first|rfl|(simp [*];done)|(simp [*,ptr];done)))
        ·have hC:=HC.out
         have h3:=(StC.old hC (by rw [given_len];have:=HW.out 3 30 rfl (by decide);simp;omega)).2.2
         go_simp
         exact hK _ _ _ ⟨rfl,rfl⟩ (by first|(dsimp only [Act.put];done)|(dsimp only [Act.put];first|rfl|(simp [*];done)|(simp [*,ptr];done)))
        ·have hC:=HC.out
         exact hK _ _ _ (MGood.flt rfl rfl (FlP.new (StC.grow hC)) ((Below.refl _ _).alloc (Nat.le_refl _) _)) (by first|(dsimp only [Act.put];done)|(dsimp only [Act.put];first|rfl|(simp [*];done)|(simp [*,ptr];done)))
        ·have hC:=HC.out
         obtain rfl:=HL.out 3 rfl
         have hC:(StC w8 w.heap.size t n m i w.heap.size (rowL (fun a=>if a=i then rr else rb a) m N1) (basL n m) (sgL b m) vr vb vs) [xx 100,xx 111,xx 118] wq:=HC.out
         obtain ⟨sA,sc,es,-⟩:=OwnAt.slice (PT.ra hC)
         have h3:=PT.t2 hC
         have hf:=PT.tf hC 2
         rw [es]
         go_simp
         exact hK undef _ _ (MGood.link rfl rfl (by rw [←es];exact PT.store hC 2 (xx 100) (fun k e=>by rw [es] at e;cases e) (by omega) (.inr (.inr (.inr rfl)))) (RR.set HTL.out)) (by first|(dsimp only [Act.put];done)|(dsimp only [Act.put];first|rfl|(simp [*];done)|(simp [*,ptr];done)))
        ·have hC:=HC.out
         obtain rfl:=HL.out 4 rfl
         have hC:(StC w8 w.heap.size t n m i w.heap.size (rowL (fun a=>if a=i then rr else rb a) m N1) (basL n m) (sgL b m) vr vb vs) [xx 100,xx 111,xx 118,xx 100030] wq:=HC.out
         obtain ⟨sA,sc,es,-⟩:=OwnAt.slice (PT.rb hC)
         have h3:=PT.t3 hC
         have hf:=PT.tf hC 3
         rw [es]
         go_simp
         exact hK undef _ _ (MGood.link rfl rfl (by rw [←es];exact PT.store hC 3 (xx 111) (fun k e=>by rw [es] at e;cases e) (by omega) (.inr (.inr (.inr rfl)))) (RR.set HTL.out)) (by first|(dsimp only [Act.put];done)|(dsimp only [Act.put];first|rfl|(simp [*];done)|(simp [*,ptr];done)))
        ·have hC:=HC.out
         obtain rfl:=HL.out 5 rfl
         have hC:(StC w8 w.heap.size t n m i w.heap.size (rowL (fun a=>if a=i then rr else rb a) m N1) (basL n m) (sgL b m) vr vb vs) [xx 100,xx 111,xx 118,xx 100030,xx 100033] wq:=HC.out
         obtain ⟨sA,sc,es,-⟩:=OwnAt.slice (PT.rc hC)
         have h3:=PT.t4 hC
         have hf:=PT.tf hC 4
         rw [es]
         go_simp
         exact hK undef _ _ (MGood.link rfl rfl (by rw [←es];exact PT.store hC 4 (xx 118) (fun k e=>by rw [es] at e;cases e) (by omega) (.inr (.inr (.inr rfl)))) (RR.set HTL.out)) (by first|(dsimp only [Act.put];done)|(dsimp only [Act.put];first|rfl|(simp [*];done)|(simp [*,ptr];done)))
       case r18c4 =>
        intro xx wz hG hC
        have e0:xx 91=_:=hG 0 _ (by decide) rfl
        have e1:xx 92=_:=hG 1 _ (by decide) rfl
        have e2:xx 93=_:=hG 2 _ (by decide) rfl
        have e3:xx 94=_:=hG 3 _ (by decide) rfl
        have e4:xx 95=_:=hG 4 _ (by decide) rfl
        have e5:xx 96=_:=hG 5 _ (by decide) rfl
        have e6:xx 97=_:=hG 6 _ (by decide) rfl
        have e7:xx 98=_:=hG 7 _ (by decide) rfl
        have e10:xx 101=_:=hG 10 _ (by decide) rfl
        have e11:xx 102=_:=hG 11 _ (by decide) rfl
        have e12:xx 103=_:=hG 12 _ (by decide) rfl
        have e13:xx 104=_:=hG 13 _ (by decide) rfl
        have e14:xx 105=_:=hG 14 _ (by decide) rfl
        have e15:xx 106=_:=hG 15 _ (by decide) rfl
        have e16:xx 107=_:=hG 16 _ (by decide) rfl
        have e17:xx 108=_:=hG 17 _ (by decide) rfl
        have e18:xx 109=_:=hG 18 _ (by decide) rfl
        have e21:xx 112=_:=hG 21 _ (by decide) rfl
        have e22:xx 113=_:=hG 22 _ (by decide) rfl
        have e23:xx 114=_:=hG 23 _ (by decide) rfl
        have e24:xx 115=_:=hG 24 _ (by decide) rfl
        have e25:xx 116=_:=hG 25 _ (by decide) rfl
        have e28:xx 119=_:=hG 28 _ (by decide) rfl
        have e29:xx 120=_:=hG 29 _ (by decide) rfl
        have e31:xx 121=_:=hG 31 _ (by decide) rfl
        have e32:xx 122=_:=hG 32 _ (by decide) rfl
        have e34:xx 123=_:=hG 34 _ (by decide) rfl
        have e35:xx 124=_:=hG 35 _ (by decide) rfl
        have hC:(StC w8 w.heap.size t n m i w.heap.size (rowL (fun a=>if a=i then rr else rb a) m N1) (basL n m) (sgL b m) vr vb vs) [xx 100,xx 111,xx 118,xx 100030,xx 100033,xx 100036] wz:=hC
        have hfin:=HI8.out.push hlt (HROW.out.base HBS.out) HFR.out (by rw [HN.out,HN1.out];exact hC)
        have HBZ:=hid (HBW.out.trans ((PT.chg hC).below (fun k hk=>(HI8.out.u_old k hk).1) HB0.out))
        have HFN:=hid hfin
        clear hC hG hfin HPT HROW HI8 HFR
        go_wp2
        go_roundw
        case rel=>exact ⟨i+1,_,_,_,_,_,by omega,by go_num,HFN,HBZ⟩
        case measure=>simp [intOf];omega
  ·obtain rfl:m=i:=by omega
   go_wp2
   go_ret
   obtain ⟨D,hD⟩:=hI.out.tab
   exact ⟨t,D,rfl,hD,hbe.out⟩
end
end Go.Proofs.YtkljafmdbajfeaaGreatDoor
