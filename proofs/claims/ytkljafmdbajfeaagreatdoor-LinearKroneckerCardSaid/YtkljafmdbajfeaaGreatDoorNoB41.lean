/- exact.System.Solve. -/
import Derived.Lib.SliceRun
import Derived.Test.YtkljafmdbajfeaaGreatDoorNoB16
import Derived.Test.YtkljafmdbajfeaaGreatDoorNoB25
import Derived.Test.YtkljafmdbajfeaaGreatDoorNoB39
namespace Go.Proofs.YtkljafmdbajfeaaGreatDoor
set_option linter.unusedVariables false
set_option linter.unusedSimpArgs false
open Go.Lib (hid)
section
open Go.RowKit Go.ChangeMaps
open Lp (Lt V Ech BdV Bd pivots lv cnt Gen From Least)
theorem OwnV.more {w:World} {b n m p:Nat} {f:Nat→Int} (h:OwnV w b n m f) (hc:w.cell? ⟨b,m,none⟩=some (.pointer (some ⟨p,0,none⟩))) (hz:BigP w p (f m)):OwnV w b n (m+1) f :=
 ⟨h.ptrs,h.lt,h.fr,h.ex,fun i hi=>by
  by_cases e:i=m
  ·subst e;exact ⟨p,hc,hz⟩
  ·exact h.num i (by omega)⟩
theorem OwnV.fresh {w w2:World} {g n i B:Nat} {f:Nat→Int} (hO:OwnV w g n i f) (hi:i<n) (hg:B≤g) (hB:B≤w.heap.size)
 (hz:BigP w2 w.heap.size (f i)) (hb:But w.heap.size ((w.alloc (.cells #[.bool false,.slice none 0 0] 196 (0,0))).setCell ⟨g,i,none⟩ (.pointer (some ⟨w.heap.size,0,none⟩))) w2) :
 OwnV w2 g n (i+1) f∧Below B w w2:=by
 obtain ⟨A,hA⟩:∃ A,w.alloc (.cells #[.bool false,.slice none 0 0] 196 (0,0))=A:=⟨_,rfl⟩
 have hAb:Below w.heap.size w A:=by rw [←hA];exact (Below.refl _ _).alloc (Nat.le_refl _) _
 have hbz:BigP A w.heap.size 0:=by rw [←hA];exact bigZero w
 rw [hA] at hb
 have hlt:=hO.lt
 have hOA:=hO.ext hAb
 have hne:g≠w.heap.size:=by omega
 obtain ⟨W,hW⟩:∃ W,A.setCell ⟨g,i,none⟩ (.pointer (some ⟨w.heap.size,0,none⟩))=W:=⟨_,rfl⟩
 rw [hW] at hb
 have h1:OwnV W g n i f:=by
  rw [←hW]
  refine (hOA.set (m':=i) (g:=fun k=>if k=i then 0 else f k) hi (by rw [if_pos rfl];exact hbz) fun j hj hne=>⟨hj,by rw [if_neg hne]⟩).congr fun j hj=>by rw [if_neg (by omega)]
 have hbut:But g A W:=by rw [←hW];exact (But.refl _ _).set i _
 have hp:IntBlk W w.heap.size:=by
  have:=hbz.butP hOA.ptrs hbut
  exact this.blk
 have hcell:W.cell? ⟨g,i,none⟩=some (.pointer (some ⟨w.heap.size,0,none⟩)):=by
  obtain ⟨a,h⟩:=hOA.ex i hi
  rw [←hW];exact World.cell?_setCell_same _ _ _ h
 have h2:=h1.but hp hb fun j hj e=>by
  have e1:W.cell? ⟨g,j,none⟩=A.cell? ⟨g,j,none⟩:=by
   rw [←hW];exact World.cell?_setCell_other _ _ _ _ (by intro e;injection e with _ e;omega)
  have e2:A.cell? ⟨g,j,none⟩=w.cell? ⟨g,j,none⟩:=World.cell?_of_block (a:=⟨g,j,none⟩) (hAb.block g hlt)
  obtain ⟨q,h3,h4⟩:=hO.num j hj
  rw [e1,e2,h3] at e
  injection e with e;injection e with e;injection e with e;injection e with e
  have:=h4.lt;omega
 refine ⟨h2.more (p:=w.heap.size) ?_ hz,?_⟩
 ·exact (World.cell?_of_block (a:=⟨g,i,none⟩) (hb.block g (Nat.lt_of_lt_of_le (Nat.lt_of_lt_of_le hlt hAb.size) hbut.size) hne)).trans hcell
 ·exact ((hAb.mono hB).trans (hbut.below hg (Nat.le_trans hB hAb.size))).trans (hb.below hB (Nat.le_trans hB (Nat.le_trans hAb.size hbut.size)))
theorem OwnV.fresh0 {w:World} {g n i:Nat} {f:Nat→Int} (hO:OwnV w g n i f) :
 BigP ((w.alloc (.cells #[.bool false,.slice none 0 0] 196 (0,0))).setCell ⟨g,i,none⟩ (.pointer (some ⟨w.heap.size,0,none⟩))) w.heap.size 0 :=
 (bigZero w).butP (hO.ext ((Below.refl _ _).alloc (Nat.le_refl _) _)).ptrs ((But.refl _ _).set i _)
theorem eqlNilV (w:World) (a:Option Addr) (n c n' c':Nat):(binOp .eql 112 (.slice a n c) (.slice none n' c')).run Tryz.prog w=.ok (.bool a.isNone) w:=Lib.run_eql_slice_nil w _ _ a n c n' c' Tryz.underlying112
theorem SysV.cntC {F:Nat→V} {m n:Nat} {rc rn:Lt} (h:SysV F m n rc rn) {p:Nat} (hp:p≤m+n):Lp.cnt rc p≤6:=by
 have h1:=Lp.cnt_mono rc hp
 have h2:=h.cnt
 have h3:=h.n6
 rw [Lp.pivots_len] at h2
 omega
theorem sgn_ne {z:Int} (h:z≠0):(sgnI z 0 == 0)=false∧(sgnI z 0 != 0)=true:=by
 unfold sgnI;split<;>(try split)<;>first|exact ⟨rfl,rfl⟩|omega
theorem sgn_zero {z:Int} (h:z=0):sgnI z 0=0:=by subst h;rfl
def SolveR (F:Nat→V) (m n:Nat) (rc rn:Lt) (b:V) (w:World) (e:Ending) (w':World):Prop :=
 (∃ g c x,e=.returned (.tuple #[.slice (some ⟨g,0,none⟩) n c,.bool true,.int .i64 0])∧n≤c∧c≤maxLen∧w.heap.size≤g∧OwnV w' g n n x∧Sol F m n b x∧Least rn x) ∨
 (∃ (v:Value) (t:Nat) (z:V),e=.returned (.tuple #[v,.bool false,.int .i64 t])∧t<m∧SolAt F m n rc b t z∧z t≠0∧∀ r,rc t=some r→¬ r t ∣ z t)
set_option maxRecDepth 100000 in
set_option maxHeartbeats 8000000 in
theorem solveSys_calls (S m n:Nat) (rc rn:Lt) (F:Nat→V) (b:V) (vb:Value) (w:World) (hS:SysP w S m n rc rn) (hV:SysV F m n rc rn) (hb:VecP w vb m b) (hbd:∀ i,i<m→(b i).natAbs≤1000) (h0:0<n) (hm:m≤900) :
 Calls Tryz.prog 118 #[.pointer (some ⟨S,0,none⟩),vb] w fun e w'=>SolveR F m n rc rn b w e w'∧Below w.heap.size w w':=by
 have n6:=hV.n6
 obtain ⟨N,hN⟩:∃ N,m+n=N:=⟨_,rfl⟩
 have hNk:N≤906:=by omega
 have hN0:0<N:=by omega
 have hmN:m≤N:=by omega
 have wmn:IntKind.i64.wrap ((m:Int)+n)=N:=by rw [IntKind.wrap_i64];omega
 have hmk:=fun w=>run_makeVec w N (by omega)
 have hmk2:=fun w=>run_makeVec w n (by omega)
 obtain ⟨Ab,cb,rfl,-⟩:=id hb
 obtain ⟨LC,MC,LN,MN,hBl,hLC,hLN⟩:=hS.ex
 have k0:=hBl.cell 0 (by simp [sysV])
 have k3:=hBl.cell 3 (by simp [sysV])
 simp only [sysV,List.getElem_cons_zero,List.getElem_cons_succ,Option.map] at k0 k3
 have HV:=hid hV;have HB:=hid hb;have HBD:Hid (∀ i,i<m→(b i).natAbs≤1000):=hid hbd;have HBL:=hid hBl;have HLC:=hid hLC;have HLN:=hid hLN;have HN:=hid hN
 clear hV hb hbd hBl hLC hLN hS hN
 go_enter Tryz.func118,Tryz.ntmps118
 go_wp2_with fail
 refine wp_region_keys (w0:=w) 9 [15,16,17,18,19,20,21,22,23]
  [leafS 15 (.pointer (some ⟨S,0,none⟩)),leafS 16 (.pointer (some ⟨S,0,none⟩)),leafS 17 (.pointer (some ⟨S,3,none⟩)),leafS 18 (.int .i64 m),leafS 19 (.pointer (some ⟨S,0,none⟩)),leafS 20 (.pointer (some ⟨S,0,none⟩)),leafS 21 (.pointer (some ⟨S,0,none⟩)),leafS 22 (.int .i64 n),leafS 23 (.int .i64 N)]
  [] [none,none,none,none,none,none,none,none,none] NoBlk (by kernel_rfl) (by kernel_rfl) (by kernel_rfl) rfl (F:=?cFr1) ?r1c1 ?r1c2 ?r1c3 ?r1c4
 case r1c1 =>
  intro x
  simp only [fullF,Act.put,List.setIfInBounds_toArray,List.set_cons_zero,List.set_cons_succ]
  rfl
 case r1c2 =>
  exact ⟨keeps_const _ _ _ _ _ _ _,keeps_const _ _ _ _ _ _ _,keeps_const _ _ _ _ _ _ _,keeps_const _ _ _ _ _ _ _,keeps_const _ _ _ _ _ _ _,keeps_const _ _ _ _ _ _ _,keeps_const _ _ _ _ _ _ _,keeps_const _ _ _ _ _ _ _,keeps_const _ _ _ _ _ _ _,trivial⟩
 case r1c3 =>
  refine ⟨?_,?_,?_,?_,?_,?_,?_,?_,?_,trivial⟩
  all_goals
   intro xx wq HE hd K hK
   have hc:=(bcell HE).1
   have k0':=(hc _ _ (cell_lt k0)).trans k0
   have k3':=(hc _ _ (cell_lt k3)).trans k3
   try have e0:xx 15=_:=hd 0 _ (by decide) rfl
   try have e1:xx 16=_:=hd 1 _ (by decide) rfl
   try have e2:xx 17=_:=hd 2 _ (by decide) rfl
   try have e3:xx 18=_:=hd 3 _ (by decide) rfl
   try have e4:xx 19=_:=hd 4 _ (by decide) rfl
   try have e5:xx 20=_:=hd 5 _ (by decide) rfl
   try have e6:xx 21=_:=hd 6 _ (by decide) rfl
   try have e7:xx 22=_:=hd 7 _ (by decide) rfl
   try have e8:xx 23=_:=hd 8 _ (by decide) rfl
   have HE:=hid HE
   have HC:=hid hc
   clear hd hc
   all_goals go_simp
   try (refine hK _ _ _ (mv_const _ rfl) ?_;dsimp only [Act.put];first|done|rfl|(simp [*];done))
 case r1c4 =>
  intro xx wz hE hG hA
  have e0:xx 15=_:=hG 0 _ rfl
  have e1:xx 16=_:=hG 1 _ rfl
  have e2:xx 17=_:=hG 2 _ rfl
  have e3:xx 18=_:=hG 3 _ rfl
  have e4:xx 19=_:=hG 4 _ rfl
  have e5:xx 20=_:=hG 5 _ rfl
  have e6:xx 21=_:=hG 6 _ rfl
  have e7:xx 22=_:=hG 7 _ rfl
  have e8:xx 23=_:=hG 8 _ rfl
  have HE:=hid hE
  clear hG hA hE
  refine tail_one (i:=9) (by kernel_rfl) rfl ?_
  intro K hK
  go_simp
  refine hK _ _ ?_
  clear hK
  (refine tail_one (i:=10) (by kernel_rfl) rfl ?_;intro K hK;go_simp;refine hK _ _ ?_;clear hK)
  refine wpAny_done (by kernel_rfl) ?_ _
  simp only [Exit.inBlock,Exit.then]
  have hO:=OwnV.made wz N (join m b fun _=>0)
  have hA:Below w.heap.size w (wz.alloc (.cells (nils N).toArray 150 (0,0))):=HE.out.trans ((Below.refl _ _).alloc HE.out.size _)
  obtain ⟨g,hg⟩:∃ g,wz.heap.size=g:=⟨_,rfl⟩
  have hgw:w.heap.size≤g:=by rw [←hg];exact HE.out.size
  rw [hg] at hO ⊢
  have HO:=hid hO;have HA:=hid hA;have HGW:=hid hgw
  clear hO hA hg HE
  go_wp2_with fail
  go_loopw [27] (fun ti wq=>∃ (i:Nat),i≤N∧ti=.int .i64 i∧Hid (OwnV wq g N i (join m b fun _=>0))∧Hid (Below w.heap.size w wq)) (fun ti _=>N-(intOf ti).toNat)
  case atStart=>exact ⟨0,Nat.zero_le _,rfl,HO,HA⟩
  case round =>
   clear HO HA
   obtain ⟨i,hi,rfl,hO,hbe⟩:=hrel
   by_cases hli:i<N
   ·have hi1:(i:Int)<N:=by omega
    have hA1:Below wr.heap.size wr (wr.alloc (.cells #[.bool false,.slice none 0 0] 196 (0,0))):=(Below.refl _ _).alloc (Nat.le_refl _) _
    have hO2:=hO.out.ext hA1
    obtain ⟨a5,hc5⟩:=hO2.ex i hli
    have hf5:=hO2.fr i
    have hz0:=hO.out.fresh0
    have hbw:Below w.heap.size w ((wr.alloc (.cells #[.bool false,.slice none 0 0] 196 (0,0))).setCell ⟨g,i,none⟩ (.pointer (some ⟨wr.heap.size,0,none⟩))):=(hbe.out.trans (hA1.mono hbe.out.size)).setCell hgw _
    have hcg:=World.cell?_setCell_same _ ⟨g,i,none⟩ (.pointer (some ⟨wr.heap.size,0,none⟩)) hc5
    have HZ0:=hid hz0;have HBW:=hid hbw;have HCG:=hid hcg
    clear hA1 hO2 hz0 hbw hcg
    go_upto_region 6 with (fail)
    obtain ⟨W,hW⟩:∃ W,(wr.alloc (.cells #[.bool false,.slice none 0 0] 196 (0,0))).setCell ⟨g,i,none⟩ (.pointer (some ⟨wr.heap.size,0,none⟩))=W:=⟨_,rfl⟩
    rw [hW] at HZ0 HBW HCG ⊢
    have HW:=hid hW
    have k3:=(HBL.out.ext HBW.out).cell 3 (by simp [sysV])
    simp only [sysV,List.getElem_cons_zero,List.getElem_cons_succ,Option.map] at k3
    clear hc5 hf5 hW
    by_cases hlm:i<m
    ·have hd:decide ((i:Int)<m)=true:=decide_eq_true (by omega)
     have hlm1:(i:Int)<m:=by omega
     obtain ⟨b2,o2,p2,rfl,-,q2,hz2⟩:=(HB.out.ext HBW.out).at hlm
     have HZ2:=hid hz2
     have q1:=HCG.out
     obtain ⟨P,hP⟩:∃ P,wr.heap.size=P:=⟨_,rfl⟩
     rw [hP] at q1
     have HP:=hid hP
     clear hz2 hP
     go_wp2_with fail
     refine wp_region_keys (w0:=W) 8 [40,41,42,43,44,45,46,47]
      [leafS 40 (.slice (some ⟨g,0,none⟩) N N),leafS 41 (.int .i64 i),leafS 42 (.pointer (some ⟨g,i,none⟩)),leafS 43 (.pointer (some ⟨P,0,none⟩)),leafS 44 (.slice (some ⟨b2,o2,none⟩) m cb),leafS 45 (.int .i64 i),leafS 46 (.pointer (some ⟨b2,o2+i,none⟩)),leafS 47 (.pointer (some ⟨p2,0,none⟩))]
      [] [none,none,none,none,none,none,none,none] NoBlk (by kernel_rfl) (by kernel_rfl) (by kernel_rfl) rfl (F:=?cFr7) ?r7c1 ?r7c2 ?r7c3 ?r7c4
     case r7c1 =>
      intro x
      simp only [fullF,Act.put,List.setIfInBounds_toArray,List.set_cons_zero,List.set_cons_succ]
      rfl
     case r7c2 =>
      exact ⟨keeps_const _ _ _ _ _ _ _,keeps_const _ _ _ _ _ _ _,keeps_const _ _ _ _ _ _ _,keeps_const _ _ _ _ _ _ _,keeps_const _ _ _ _ _ _ _,keeps_const _ _ _ _ _ _ _,keeps_const _ _ _ _ _ _ _,keeps_const _ _ _ _ _ _ _,trivial⟩
     case r7c3 =>
      refine ⟨?_,?_,?_,?_,?_,?_,?_,?_,trivial⟩
      all_goals
       intro xx wq HE hd K hK
       have hc:=(bcell HE).1
       have q1':=(hc _ _ (cell_lt q1)).trans q1
       have q2':=(hc _ _ (cell_lt q2)).trans q2
       try have e0:xx 40=_:=hd 0 _ (by decide) rfl
       try have e1:xx 41=_:=hd 1 _ (by decide) rfl
       try have e2:xx 42=_:=hd 2 _ (by decide) rfl
       try have e3:xx 43=_:=hd 3 _ (by decide) rfl
       try have e4:xx 44=_:=hd 4 _ (by decide) rfl
       try have e5:xx 45=_:=hd 5 _ (by decide) rfl
       try have e6:xx 46=_:=hd 6 _ (by decide) rfl
       try have e7:xx 47=_:=hd 7 _ (by decide) rfl
       have HE:=hid HE
       have HC:=hid hc
       clear hd hc
       all_goals go_simp
       try (refine hK _ _ _ (mv_const _ rfl) ?_;dsimp only [Act.put];first|done|rfl|(simp [*];done))
     case r7c4 =>
      intro xx wz hE hG hA
      have e0:xx 40=_:=hG 0 _ rfl
      have e1:xx 41=_:=hG 1 _ rfl
      have e2:xx 42=_:=hG 2 _ rfl
      have e3:xx 43=_:=hG 3 _ rfl
      have e4:xx 44=_:=hG 4 _ rfl
      have e5:xx 45=_:=hG 5 _ rfl
      have e6:xx 46=_:=hG 6 _ rfl
      have e7:xx 47=_:=hG 7 _ rfl
      have hzp:BigP wz P 0:=by have:=HZ0.out;rw [HP.out] at this;exact this.ext hE
      have HST:=hid (setInt_t P p2 (b i) wz hzp.blk (HZ2.out.ext hE))
      have HE:=hid hE
      clear hG hA hE hzp
      refine tail_one (i:=8) (by kernel_rfl) rfl ?_
      intro K hK
      go_simp
      refine HST.out.mono ?_;rintro e w2 ⟨rfl,hz2,hb2,-⟩
      refine hK _ _ ?_
      have hfr:=hO.out.fresh (B:=w.heap.size) (w2:=w2) hli hgw hbe.out.size (by rw [HP.out];unfold join;rw [if_pos hlm];exact hz2) (by rw [HW.out,HP.out];exact ((But.refl P W).ext HE.out).trans hb2)
      have HO2:=hid hfr.1;have HB2:=hid (hbe.out.trans hfr.2)
      clear hK hz2 hb2 hfr hO hbe HST
      refine wpAny_done (by kernel_rfl) ?_ _
      simp only [Exit.inBlock,Exit.then]
      go_wp2
      go_roundw
      case rel=>exact ⟨i+1,by omega,by go_num,HO2,HB2⟩
      case measure=>simp [intOf];omega
    ·have hd:decide ((i:Int)<m)=false:=decide_eq_false (by omega)
     have hfr:=hO.out.fresh (B:=w.heap.size) (w2:=W) hli hgw hbe.out.size (by unfold join;rw [if_neg hlm];exact HZ0.out) (by rw [HW.out];exact But.refl _ _)
     have HO2:=hid hfr.1;have HB2:=hid (hbe.out.trans hfr.2)
     clear hfr hO hbe
     go_wp2
     go_roundw
     case rel=>exact ⟨i+1,by omega,by go_num,HO2,HB2⟩
     case measure=>simp [intOf];omega
   ·obtain rfl:N=i:=by omega
    obtain ⟨w1,hw1⟩:∃ w1,w1=wr:=⟨_,rfl⟩
    subst hw1
    have HO1:=hO;have HB1:=hbe
    have HS0:=hid (SolAt.start F m n rc HBD.out)
    have k3:=(HBL.out.ext hbe.out).cell 3 (by simp [sysV])
    simp only [sysV,List.getElem_cons_zero,List.getElem_cons_succ,Option.map] at k3
    clear hO hbe
    go_wp2_with fail
    go_loopw [54] (fun ti wq=>∃ (p:Nat) (v:V),p≤m∧ti=.int .i64 p∧Hid (OwnV wq g N N v)∧Hid (SolAt F m n rc b p v)∧Hid (Below w.heap.size w wq)) (fun ti _=>m-(intOf ti).toNat)
    case atStart=>exact ⟨0,_,Nat.zero_le _,rfl,HO1,HS0,HB1⟩
    case round =>
     clear HO1 HS0 HB1 k3
     obtain ⟨p,v,hp,rfl,hO,hSA,hbe⟩:=hrel
     by_cases hlt:p<m
     ·have hp1:(p:Int)<m:=by omega
      have hpN:(p:Int)<N:=by omega
      obtain ⟨pp,q1,hz1⟩:=hO.out.num p (by omega)
      have HZ1:=hid hz1
      by_cases hv0:v p=0
      ·have hsg:=sign_calls pp (v p) wr hz1
       rw [sgn_zero hv0] at hsg
       have HSG:=hid hsg
       have HSA2:=hid (hSA.out.skip hv0)
       clear hsg hz1 hv0 hSA
       go_wp2_with fail
       refine HSG.out.mono ?_;rintro e w2 ⟨rfl,rfl⟩
       clear HSG
       go_wp2
       go_roundw
       case rel=>exact ⟨p+1,v,by omega,by go_num,hO,HSA2,hbe⟩
       case measure=>simp [intOf];omega
      ·have hsg:=sign_calls pp (v p) wr hz1
       obtain ⟨hs1,-⟩:=sgn_ne hv0
       obtain ⟨sg,hsv⟩:∃ sg,sgnI (v p) 0=sg:=⟨_,rfl⟩
       rw [hsv] at hsg hs1
       have HSG:=hid hsg;have HV0:=hid hv0
       clear hsg hsv hz1 hv0
       have k1:=(HBL.out.ext hbe.out).cell 1 (by simp [sysV])
       simp only [sysV,List.getElem_cons_zero,List.getElem_cons_succ,Option.map] at k1
       have l1:=(HLC.out.ext hbe.out).c1
       obtain ⟨Fm,hM,hF⟩:=HLC.out.map
       have hlk:=(hM.ext hbe.out).look p (by omega)
       have hqn:=eqlNilV
       rcases hF p (by omega) with ⟨hf1,hf2⟩|⟨vr,r,hf1,hf2,hf3⟩
       ·rw [hf1,Option.getD_none] at hlk
        have HF2:=hid hf2
        clear hf1 hf2 hF hM
        go_wp2_with fail
        refine HSG.out.mono ?_;rintro e w2 ⟨rfl,rfl⟩
        clear HSG
        go_wp2
        go_ret3
        exact ⟨.inr ⟨_,p,v,rfl,hlt,hSA.out,HV0.out,fun r h=>by rw [HF2.out] at h;cases h⟩,hbe.out⟩
       ·rw [hf1,Option.getD_some] at hlk
        rw [HN.out] at hf3
        have hrow:=(hf3.low.ext hbe.out).mono (Y:=(·≠g)) fun b hb=>by omega
        obtain ⟨Ar,cr,rfl,-⟩:=id hf3
        obtain ⟨b2,o2,p2,rfl,-,q2,hz2⟩:=hrow.at (show p<N by omega)
        have hrp:0<r p:=HV.out.echC.pos p r hf2
        have hc6:cnt rc p≤6:=HV.out.cntC (by omega)
        have wv:∀ i,Wide (v i):=fun i=>wide_sys (by omega) (hSA.out.bd i)
        have wr1:∀ i,Wide (r i):=fun i=>wide_small (by have:=HV.out.smallC hf2 i;omega)
        have hkle:((v p).tdiv (r p)).natAbs≤(v p).natAbs:=by rw [Int.natAbs_tdiv];exact Nat.div_le_self _ _
        have wk:Wide ((v p).tdiv (r p)):=(wv p).mono hkle
        have wkr:∀ i,Wide (-((v p).tdiv (r p))*r i):=fun i=>wide_sys (k:=cnt rc p+1) (by omega) (by
         rw [Int.natAbs_mul,Int.natAbs_neg]
         have h1:=Nat.mul_le_mul (Nat.le_trans hkle (hSA.out.bd p)) (HV.out.smallC hf2 i)
         have h2:3149280000000≤lv 3149280000000 (cnt rc p):=Lp.lv_mono (j:=0) (by omega) (Nat.zero_le _)
         have h3:=Nat.mul_le_mul_left (lv 3149280000000 (cnt rc p)) h2
         have e:lv 3149280000000 (cnt rc p+1)=3*(lv 3149280000000 (cnt rc p)*lv 3149280000000 (cnt rc p)):=rfl
         rw [e]
         omega)
        have HROW:=hid hrow;have HZ2:=hid hz2;have HF2:=hid hf2;have HRP:=hid hrp
        have WV:Hid (∀ i,Wide (v i)):=hid wv;have WR:Hid (∀ i,Wide (r i)):=hid wr1;have WK:=hid wk;have WKR:Hid (∀ i,Wide (-((v p).tdiv (r p))*r i)):=hid wkr
        clear hf1 hf2 hf3 hF hM hrow hz2 hrp hc6 wv wr1 hkle wk wkr
        go_wp2_with fail
        refine HSG.out.mono ?_;rintro e w2 ⟨rfl,rfl⟩
        clear HSG
        go_wp2_with fail
        refine wp_region_keys (w0:=w2) 10 [77,78,79,80,81,82,83,84,85,86]
         [leafA IntBlk 77 w2.heap.size,leafS 78 (.slice (some ⟨g,0,none⟩) N N),leafS 79 (.int .i64 p),leafS 80 (.pointer (some ⟨g,p,none⟩)),leafS 81 (.pointer (some ⟨pp,0,none⟩)),leafS 82 (.slice (some ⟨b2,o2,none⟩) N cr),leafS 83 (.int .i64 p),leafS 84 (.pointer (some ⟨b2,o2+p,none⟩)),leafS 85 (.pointer (some ⟨p2,0,none⟩)),leafA IntBlk 86 w2.heap.size]
         [77,86] [none,none,none,none,none,none,none,none,none,none] IntBlk (by kernel_rfl) (by kernel_rfl) (by kernel_rfl) rfl (F:=?cFr16) ?r16c1 ?r16c2 ?r16c3 ?r16c4
        case r16c1 =>
         intro x
         simp only [fullF,Act.put,List.setIfInBounds_toArray,List.set_cons_zero,List.set_cons_succ]
         rfl
        case r16c2 =>
         exact ⟨keeps_alloc intBlk_ext intBlk_other _ _ _ _ _,keeps_const _ _ _ _ _ _ _,keeps_const _ _ _ _ _ _ _,keeps_const _ _ _ _ _ _ _,keeps_const _ _ _ _ _ _ _,keeps_const _ _ _ _ _ _ _,keeps_const _ _ _ _ _ _ _,keeps_const _ _ _ _ _ _ _,keeps_const _ _ _ _ _ _ _,keeps_alloc intBlk_ext intBlk_other _ _ _ _ _,trivial⟩
        case r16c3 =>
         refine ⟨?_,?_,?_,?_,?_,?_,?_,?_,?_,?_,trivial⟩
         all_goals
          intro xx wq HE hd K hK
          have hc:=(bcell HE).1
          have q1':=(hc _ _ (cell_lt q1)).trans q1
          have q2':=(hc _ _ (cell_lt q2)).trans q2
          try have g0:=hd 0 _ (by decide) rfl
          try have e1:xx 78=_:=hd 1 _ (by decide) rfl
          try have e2:xx 79=_:=hd 2 _ (by decide) rfl
          try have e3:xx 80=_:=hd 3 _ (by decide) rfl
          try have e4:xx 81=_:=hd 4 _ (by decide) rfl
          try have e5:xx 82=_:=hd 5 _ (by decide) rfl
          try have e6:xx 83=_:=hd 6 _ (by decide) rfl
          try have e7:xx 84=_:=hd 7 _ (by decide) rfl
          try have e8:xx 85=_:=hd 8 _ (by decide) rfl
          try have g9:=hd 9 _ (by decide) rfl
          have HE:=hid HE
          have HC:=hid hc
          clear hd hc
          all_goals go_simp
          try (refine hK _ _ _ (mv_const _ rfl) ?_;dsimp only [Act.put];first|done|rfl|(simp [*];done))
         ·refine hK _ _ _ (mv_alloc _ HE.out.size (IntBlk.new _)) ?_
          dsimp only [Act.put]
          first|rfl|(simp [*];done)|(simp [*,ptr];done)
         ·refine hK _ _ _ (mv_alloc _ HE.out.size (IntBlk.new _)) ?_
          dsimp only [Act.put]
          first|rfl|(simp [*];done)|(simp [*,ptr];done)
        case r16c4 =>
         intro xx wz hE hG hA
         have g0:=hG 0 _ rfl
         have e1:xx 78=_:=hG 1 _ rfl
         have e2:xx 79=_:=hG 2 _ rfl
         have e3:xx 80=_:=hG 3 _ rfl
         have e4:xx 81=_:=hG 4 _ rfl
         have e5:xx 82=_:=hG 5 _ rfl
         have e6:xx 83=_:=hG 6 _ rfl
         have e7:xx 84=_:=hG 7 _ rfl
         have e8:xx 85=_:=hG 8 _ rfl
         have g9:=hG 9 _ rfl
         obtain ⟨pk,h77,hk1,hk2⟩:=g0
         obtain ⟨pm,h86,hm1,hm2⟩:=g9
         have hne':pk≠pm:=by
          have:=hA 77 86 (by decide) (by decide) (by decide) (by decide) (by decide)
          rintro rfl;exact this (h77.trans h86.symm)
         simp only [ptr] at h77 h86
         have hsz:=hbe.out.size
         have HQR:=hid (quoRem_calls pk pp p2 pm (v p) (r p) wz hk2 hm2 hne' (HZ1.out.ext hE) (HZ2.out.ext hE) (by have:=HRP.out;omega) (WV.out p) (WR.out p))
         have HE:=hid hE
         clear hA hG hE
         refine tail_one (i:=10) (by kernel_rfl) rfl ?_
         intro K hK
         go_simp
         refine HQR.out.mono ?_;rintro e w3 ⟨rfl,hz3,hr3,hb3⟩
         refine hK _ _ ?_
         have hB3:Below w2.heap.size w2 w3:=HE.out.trans (hb3.below hk1 hm1 HE.out.size)
         have hsg:=sign_calls pm ((v p).tmod (r p)) w3 hr3
         have HB3:=hid hB3;have HZ3:=hid hz3;have HSG:=hid hsg
         clear hK hz3 hr3 hb3 hB3 hsg HQR HE
         (refine tail_one (i:=11) (by kernel_rfl) rfl ?_;intro K hK;go_simp;refine hK _ _ ?_;clear hK)
         refine tail_two (i:=12) (j:=13) (by kernel_rfl) rfl rfl ?pa ?pb
         case' pa =>
          intro K hK;go_simp;refine hK _ _ ?_;clear hK
          refine tail_two (i:=13) (j:=14) (by kernel_rfl) rfl rfl ?pc ?pd
          case' pc =>
           intro K hK;go_simp;refine hK _ _ ?_;clear hK
           (refine tail_one (i:=14) (by kernel_rfl) rfl ?_;intro K hK;go_simp;refine hK _ _ ?_;clear hK)
          case' pd =>
           intro K hK;go_simp;refine hK _ _ ?_;clear hK
           (refine tail_one (i:=13) (by kernel_rfl) rfl ?_;intro K hK;go_simp;refine hK _ _ ?_;clear hK)
         case' pb =>
          intro K hK;go_simp;refine hK _ _ ?_;clear hK
          (refine tail_one (i:=12) (by kernel_rfl) rfl ?_;intro K hK;go_simp;refine hK _ _ ?_;clear hK)
          (refine tail_one (i:=14) (by kernel_rfl) rfl ?_;intro K hK;go_simp;refine hK _ _ ?_;clear hK)
         all_goals ((refine tail_one (i:=15) (by kernel_rfl) rfl ?_;intro K hK;go_simp;refine hK _ _ ?_;clear hK))
         all_goals
          refine wpAny_done (by kernel_rfl) ?_ _
          simp only [Exit.inBlock,Exit.then]
          by_cases hm0:(v p).tmod (r p)=0
          ·have hsg:=HSG.out
           rw [sgn_zero hm0] at hsg
           have hk:=Int.tdiv_mul_cancel (Int.dvd_of_tmod_eq_zero hm0)
           have HSA2:=hid (hSA.out.step HV.out HF2.out hk)
           have HSG2:=hid hsg
           have HNG:=hid (neg_t pk pk ((v p).tdiv (r p)) w3 HZ3.out.blk HZ3.out)
           have wng:Wide (-((v p).tdiv (r p))):=WK.out.mono (by omega)
           have WNG:=hid wng
           clear hsg hk hm0 hSA HSG wng
           go_wp2_with fail
           refine HSG2.out.mono ?_;rintro e w4 ⟨rfl,e4⟩;subst e4
           clear HSG2
           go_wp2_with fail
           refine HNG.out.mono ?_;rintro e w5 ⟨rfl,hz5,hb5,-⟩
           have hB5:Below w2.heap.size w2 w5:=HB3.out.trans (hb5.below hk1 HB3.out.size)
           have hadd:=vecAdd_calls g N pk N v r (-((v p).tdiv (r p))) _ w5 (hO.out.ext hB5) hz5 (HROW.out.ext hB5) (by omega) WNG.out (fun i _=>WV.out i) (fun i _=>WR.out i) (fun i _=>WKR.out i)
           have HADD:=hid hadd;have HB5:=hid hB5
           clear hadd hz5 hb5 hB5 HNG
           go_wp2_with fail
           refine HADD.out.mono ?_;rintro e w6 ⟨rfl,hO6,hb6,-⟩
           have HO6:=hid hO6
           have HB6:=hid ((hbe.out.trans (HB5.out.mono hsz)).trans (hb6.below hgw (by have:=HB5.out.size;omega)))
           clear hO6 hb6 HADD hO hbe
           go_wp2
           go_roundw
           case rel=>exact ⟨p+1,_,by omega,by go_num,HO6,HSA2,HB6⟩
           case measure=>simp [intOf];omega
          ·obtain ⟨-,hs2⟩:=sgn_ne hm0
           obtain ⟨sg2,hsv2⟩:∃ s,sgnI ((v p).tmod (r p)) 0=s:=⟨_,rfl⟩
           have hsg:=HSG.out
           rw [hsv2] at hsg hs2
           have HSG2:=hid hsg;have HM0:=hid hm0
           clear hsg hsv2 hm0 HSG
           go_wp2_with fail
           refine HSG2.out.mono ?_;rintro e w4 ⟨rfl,e4⟩;subst e4
           clear HSG2
           go_wp2
           go_ret3
           exact ⟨.inr ⟨_,p,v,rfl,hlt,hSA.out,HV0.out,fun s h h2=>by
            rw [HF2.out] at h;injection h with h;subst h
            exact HM0.out (Int.tmod_eq_zero_of_dvd h2)⟩,hbe.out.trans (HB3.out.mono hsz)⟩
     ·obtain rfl:m=p:=by omega
      obtain ⟨w2,hw2⟩:∃ w2,w2=wr:=⟨_,rfl⟩
      subst hw2
      have hsol:=hSA.out.done
      have hvb:=hSA.out.bd
      have hvh:=hSA.out.high
      have hV2:VecP w2 (.slice (some ⟨g,0,none⟩) N N) N v:=(hO.out.vec (Nat.le_refl _) (by unfold maxLen;omega)).vec
      have hO2:=OwnV.made w2 n (fun j => -v (m+j))
      have hA2:Below w2.heap.size w2 (w2.alloc (.cells (nils n).toArray 150 (0,0))):=(Below.refl _ _).alloc (Nat.le_refl _) _
      have k0:=(HBL.out.ext hbe.out).cell 0 (by simp [sysV])
      simp only [sysV,List.getElem_cons_zero,List.getElem_cons_succ,Option.map] at k0
      have HSOL:=hid hsol;have HVB:=hid hvb;have HVH:Hid (∀ i,m+n≤i→v i=0):=hid hvh;have HV2:=hid hV2
      obtain ⟨g2,hg2⟩:∃ g2,w2.heap.size=g2:=⟨_,rfl⟩
      have hg2w:w2.heap.size≤g2:=by rw [←hg2];exact Nat.le_refl _
      rw [hg2] at hO2
      have HO2:=hid hO2;have HA2:=hid hA2;have HG2:=hid hg2
      clear hsol hvb hvh hV2 hO2 hA2 hg2 hO
      go_wp2_with fail
      try rw [HG2.out]
      go_loopw [109] (fun ti wq=>∃ (j:Nat),j≤n∧ti=.int .i64 j∧Hid (OwnV wq g2 n j (fun j => -v (m+j)))∧Hid (Below w2.heap.size w2 wq)) (fun ti _=>n-(intOf ti).toNat)
      case atStart=>exact ⟨0,Nat.zero_le _,rfl,HO2,HA2⟩
      case round =>
       clear HO2 HA2 k0
       obtain ⟨j,hj,rfl,hO,hbq⟩:=hrel
       have hbt:=hbe.out.trans (hbq.out.mono hbe.out.size)
       by_cases hltj:j<n
       ·have hj1:(j:Int)<n:=by omega
        obtain ⟨q,hq⟩:∃ q,m+j=q:=⟨_,rfl⟩
        have wsum:IntKind.i64.wrap ((m:Int)+j)=q:=by rw [IntKind.wrap_i64];omega
        have hNN:=HN.out
        have hqN:(q:Int)<N:=by omega
        have hA1:Below wr.heap.size wr (wr.alloc (.cells #[.bool false,.slice none 0 0] 196 (0,0))):=(Below.refl _ _).alloc (Nat.le_refl _) _
        have hn1:IntBlk (wr.alloc (.cells #[.bool false,.slice none 0 0] 196 (0,0))) wr.heap.size:=IntBlk.of (Blk.new _ [.bool false,.slice none 0 0] _)
        have k3:=(HBL.out.ext (hbt.trans (hA1.mono hbt.size))).cell 3 (by simp [sysV])
        simp only [sysV,List.getElem_cons_zero,List.getElem_cons_succ,Option.map] at k3
        obtain ⟨b2,o2,p2,e2,-,q2,hz2⟩:=((HV2.out.ext hbq.out).ext hA1).at (show q<N by omega)
        injection e2 with e2;injection e2 with e3 e4;subst e3;subst e4
        rw [Nat.zero_add] at q2
        have HNG:=hid (neg_t wr.heap.size p2 (v q) _ hn1 hz2)
        have HA1:=hid hA1;have HQ:=hid hq
        clear hA1 hn1 hz2 hNN hbt hq
        go_wp2_with fail
        refine HNG.out.mono ?_;rintro e w3 ⟨rfl,hz3,hb3,-⟩
        have hb4:Below wr.heap.size wr w3:=HA1.out.trans (hb3.below (Nat.le_refl _) HA1.out.size)
        have hO3:=hO.out.ext hb4
        obtain ⟨a5,hc5⟩:=hO3.ex j hltj
        have hf5:=hO3.fr j
        have hst:=hO3.set (m':=j+1) (g:=fun j => -v (m+j)) hltj (by show BigP w3 wr.heap.size (-v (m+j));rw [HQ.out];exact hz3) (fun k hk hne=>⟨by omega,rfl⟩)
        have HST:=hid hst;have HB4:=hid (hbq.out.trans (hb4.mono hbq.out.size))
        clear hb4 hO3 hst hz3 hb3 HNG HA1 hO hbq k3 q2
        go_wp2
        go_roundw
        case rel=>exact ⟨j+1,by omega,by go_num,HST,hid (HB4.out.setCell hg2w _)⟩
        case measure=>simp [intOf];omega
       ·obtain rfl:n=j:=by omega
        have k2:=(HBL.out.ext hbt).cell 2 (by simp [sysV])
        simp only [sysV,List.getElem_cons_zero,List.getElem_cons_succ,Option.map] at k2
        have hc6:cnt rc m≤6:=HV.out.cntC (by omega)
        have hbf:BdV (lv 3149280000000 6) (fun j => -v (m+j)):=fun i=>by
         show (-v (m+i)).natAbs≤_
         rw [Int.natAbs_neg]
         exact Nat.le_trans (HVB.out (m+i)) (Lp.lv_mono (by omega) hc6)
        have hcn:cnt rn n≤6:=by
         have:=pivots_le rn n
         rw [Lp.pivots_len] at this
         omega
        have hbr:Bd (lv 3149280000000 6) rn:=fun q r hq i=>Nat.le_trans (HV.out.smallN hq i) (Lp.lv_mono (j:=0) (by omega) (Nat.zero_le _))
        have hrd:=reduce_calls LN MN n (lv 3149280000000 6) rn (fun j => -v (m+j)) _ wr (HLN.out.ext hbt) (hO.out.vec (Nat.le_refl _) (by unfold maxLen;omega)).vec h0 (by omega) HV.out.echN hbr hbf
         (fun i hi=>by show -v (m+i)=0;rw [HVH.out _ (by omega)];rfl) (Lp.lv_pos (by omega) _) (fun z hz=>by
           rw [lv_add] at hz
           exact wide_sys (by omega) hz)
        have HRD:=hid hrd;have HBT:=hid hbt
        clear hrd hbt hc6 hbf hcn hbr hO hbq
        go_wp2_with fail
        refine HRD.out.mono ?_;rintro e w4 ⟨g4,c4,x,rfl,hx1,hx2,hx3,hx4,hx5,hx6,-,hx8,hb4⟩
        have hres:Sol F m n b x:=by
         have h1:=HSOL.out.add ((HV.out.genN _).1 hx6) (-1)
         have e:(fun i => -v (m+i) + -1*(-v (m+i)-x i))=x:=funext fun i=>by omega
         rw [e] at h1;exact h1
        have HX4:=hid hx4;have HX5:=hid hx5;have HRES:=hid hres;have HB4:=hid (HBT.out.trans (hb4.mono HBT.out.size))
        have hx9:w.heap.size≤g4:=Nat.le_trans HBT.out.size hx3
        clear hx4 hx5 hx6 hx8 hb4 hres HRD
        go_wp2
        go_ret3
        exact ⟨.inl ⟨g4,c4,x,rfl,hx1,hx2,hx9,HX4.out,HRES.out,HX5.out⟩,HB4.out⟩
end
end Go.Proofs.YtkljafmdbajfeaaGreatDoor
